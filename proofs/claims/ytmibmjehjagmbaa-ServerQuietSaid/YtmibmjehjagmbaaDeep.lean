/- Terms for what a run of Go code holds: numbers, values, cells, and the tree of what is to be shown. No condition. -/
import Derived.Test.YtmibmjehjagmbaaSep
namespace Go.Proofs.Ytmibmjehjagmbaa.RX
open Go.Proofs.Ytmibmjehjagmbaa

inductive Uni where
  | n (x : Nat) | i (x : Int) | c (x : Bool) | s (x : List UInt8) | a (x : Option Addr) | v (x : Value) | p (x : HP)
def Uni.nat : Uni → Nat | .n x => x | _ => 0
def Uni.int : Uni → Int | .i x => x | _ => 0
def Uni.bool : Uni → Bool | .c x => x | _ => false
def Uni.str : Uni → List UInt8 | .s x => x | _ => []
def Uni.adr : Uni → Option Addr | .a x => x | _ => none
def Uni.val : Uni → Value | .v x => x | _ => undef
def Uni.hp : Uni → HP | .p x => x | _ => HP.tt
@[simp] theorem Uni.nat_n (x : Nat) : (Uni.n x).nat = x := rfl
@[simp] theorem Uni.int_i (x : Int) : (Uni.i x).int = x := rfl
@[simp] theorem Uni.bool_c (x : Bool) : (Uni.c x).bool = x := rfl
@[simp] theorem Uni.str_s (x : List UInt8) : (Uni.s x).str = x := rfl
@[simp] theorem Uni.adr_a (x : Option Addr) : (Uni.a x).adr = x := rfl
@[simp] theorem Uni.val_v (x : Value) : (Uni.v x).val = x := rfl
@[simp] theorem Uni.hp_p (x : HP) : (Uni.p x).hp = x := rfl
abbrev Env := List Uni
def look : Env → Nat → Uni
  | [], _ => .i 0
  | x :: _, 0 => x
  | _ :: ρ, k + 1 => look ρ k

inductive F1 where
  | neg | not | toNat | ofNat | wrap (k : IntKind) | inr (k : IntKind) | size | isSome
  deriving DecidableEq
inductive F2 where
  | add | sub | mul | quo | rem | shl (k : IntKind) | shr (k : IntKind) | bit (op : BinOp) (k : IntKind) | lt | le | eq | and | or | beq | seq | slt | cat | nadd | nsub | mx | mn
  deriving DecidableEq
def F1.app : F1 → Uni → Uni
  | .neg, x => .i (-x.int)
  | .not, x => .c (!x.bool)
  | .toNat, x => .n x.int.toNat
  | .ofNat, x => .i (x.nat : Int)
  | .wrap k, x => .i (k.wrap x.int)
  | .inr k, x => .c (decide (k.min ≤ x.int) && decide (x.int ≤ k.max))
  | .size, x => .n x.str.length
  | .isSome, x => .c x.adr.isSome
def F2.app : F2 → Uni → Uni → Uni
  | .add, x, y => .i (x.int + y.int)
  | .sub, x, y => .i (x.int - y.int)
  | .mul, x, y => .i (x.int * y.int)
  | .quo, x, y => .i (x.int.tdiv y.int)
  | .rem, x, y => .i (x.int.tmod y.int)
  | .shl k, x, y => .i (k.wrap (x.int * 2 ^ (min y.int.toNat k.bits)))
  | .shr k, x, y => .i (x.int.fdiv (2 ^ (min y.int.toNat k.bits)))
  | .bit op k, x, y => .i (bits op k x.int y.int)
  | .lt, x, y => .c (decide (x.int < y.int))
  | .le, x, y => .c (decide (x.int ≤ y.int))
  | .eq, x, y => .c (decide (x.int = y.int))
  | .and, x, y => .c (x.bool && y.bool)
  | .or, x, y => .c (x.bool || y.bool)
  | .beq, x, y => .c (x.bool == y.bool)
  | .seq, x, y => .c (decide (x.str = y.str))
  | .slt, x, y => .c (Op.bytesLess x.str y.str)
  | .cat, x, y => .s (x.str ++ y.str)
  | .nadd, x, y => .n (x.nat + y.nat)
  | .nsub, x, y => .n (x.nat - y.nat)
  | .mx, x, y => .i (max x.int y.int)
  | .mn, x, y => .i (min x.int y.int)

inductive E where
  | v (k : Nat) | i (x : Int) | n (x : Nat) | c (b : Bool) | s (x : List UInt8) | o1 (f : F1) (a : E) | o2 (f : F2) (a b : E)
  deriving DecidableEq
def E.den (ρ : Env) : E → Uni
  | .v k => look ρ k
  | .i x => .i x
  | .n x => .n x
  | .c b => .c b
  | .s x => .s x
  | .o1 f a => f.app (a.den ρ)
  | .o2 f a b => f.app (a.den ρ) (b.den ρ)
/-- A truth, as a statement. -/
def E.prop (ρ : Env) : E → Prop
  | .c b => b = true
  | .o1 .not a => ¬ a.prop ρ
  | .o1 (.inr k) a => k.min ≤ (a.den ρ).int ∧ (a.den ρ).int ≤ k.max
  | .o2 .lt a b => (a.den ρ).int < (b.den ρ).int
  | .o2 .le a b => (a.den ρ).int ≤ (b.den ρ).int
  | .o2 .eq a b => (a.den ρ).int = (b.den ρ).int
  | .o2 .and a b => a.prop ρ ∧ b.prop ρ
  | .o2 .or a b => a.prop ρ ∨ b.prop ρ
  | .o2 .seq a b => (a.den ρ).str = (b.den ρ).str
  | e => (e.den ρ).bool = true
theorem E.prop_iff (ρ : Env) (e : E) : e.prop ρ ↔ (e.den ρ).bool = true := by
  induction e with
  | o1 f a ih => cases f <;> simp [E.prop, E.den, F1.app, Uni.bool, ih] <;> (cases a.den ρ <;> simp)
  | o2 f a b iha ihb => cases f <;> simp [E.prop, E.den, F2.app, Uni.bool, iha, ihb] <;> (cases a.den ρ <;> cases b.den ρ <;> simp)
  | c b => simp [E.prop, E.den, Uni.bool]
  | v k => exact Iff.rfl
  | i x => exact Iff.rfl
  | n x => exact Iff.rfl
  | s x => exact Iff.rfl

/-- A block's number: one of the environment's, or a package variable's. -/
inductive BR where
  | v (k : Nat) | g (n : Nat)
  deriving DecidableEq
def BR.den (ρ : Env) : BR → Nat
  | .v k => (look ρ k).nat
  | .g n => n
inductive SA where
  | nil | v (k : Nat) | b (r : BR) (off : Nat)
  deriving DecidableEq
def SA.den (ρ : Env) : SA → Option Addr
  | .nil => none
  | .v k => (look ρ k).adr
  | .b r off => some ⟨r.den ρ, off, none⟩
/-- A value of one cell. -/
inductive A where
  | int (k : IntKind) (e : E) | bool (e : E) | str (e : E) | ptr (r : BR) (off : Nat) | eptr (s : Nat) (ix : E) (size off : Nat)
  | sl (s : SA) (len cap : E) | map (r : BR) | nilp | nilm | nilf | nili | val (k : Nat) | func (f : FuncId) (caps : List (BR × Nat))
  deriving DecidableEq
/-- An open value stands for one cell. -/
def oneC : Value → Value
  | .agg _ => .nilIface
  | .tuple _ => .nilIface
  | v => v
def capV (ρ : Env) (x : BR × Nat) : Value := .pointer (some ⟨x.1.den ρ, x.2, none⟩)
def A.den (ρ : Env) : A → Value
  | .int k e => .int k (e.den ρ).int
  | .bool e => .bool (e.den ρ).bool
  | .str e => .string ⟨(e.den ρ).str.toArray⟩
  | .ptr r off => .pointer (some ⟨r.den ρ, off, none⟩)
  | .eptr s ix size off => .pointer ((look ρ s).adr.map fun a => (a.add ((ix.den ρ).int.toNat * size)).add off)
  | .sl s len cap => .slice (s.den ρ) (len.den ρ).nat (cap.den ρ).nat
  | .map r => .map (some (r.den ρ))
  | .nilp => .pointer none
  | .nilm => .map none
  | .nilf => .nilFunc
  | .nili => .nilIface
  | .val k => oneC (look ρ k).val
  | .func f caps => .func (.func f) #[] (caps.map (capV ρ)).toArray
inductive W where
  | a (x : A) | agg (l : List A)
  deriving DecidableEq
def W.den (ρ : Env) : W → Value
  | .a x => x.den ρ
  | .agg l => .agg (l.map (A.den ρ)).toArray
inductive V where
  | w (x : W) | tup (l : List W) | nx (c k v : Nat)
  deriving DecidableEq
def V.den (ρ : Env) : V → Value
  | .w x => x.den ρ
  | .tup l => .tuple (l.map (W.den ρ)).toArray
  | .nx c k v => if (look ρ c).bool then .tuple #[.bool true, (look ρ k).val, (look ρ v).val] else .tuple #[.bool false]

inductive Key where
  | b (r : BR) | a (k : Nat)
  deriving DecidableEq
inductive C where
  | cells (l : List A) (ty : TypeId) | emap | prop (k : Nat) | dfr
  deriving DecidableEq
abbrev Hp := List (Key × C)
def cden (ρ : Env) (x : Key × C) : HP :=
  match x.2, x.1 with
  | .cells l ty, .b r => HP.one (r.den ρ) (.cells (l.map (A.den ρ)).toArray ty (0, 0))
  | .emap, .b r => HP.one (r.den ρ) (.map #[] 0)
  | .dfr, .b r => HP.one (r.den ρ) (.deferred (some []))
  | .prop k, _ => (look ρ k).hp
  | _, _ => HP.pure False
def hden (ρ : Env) : Hp → HP
  | [] => HP.tt
  | x :: r => match r with
    | [] => cden ρ x
    | _ :: _ => HP.sep (cden ρ x) (hden ρ r)

/-- Sorts of what is new. -/
inductive So where
  | n | i | c | s | a | v | p
  deriving DecidableEq
def exs : List So → Env → (Env → HP) → HP
  | [], ρ, f => f ρ
  | .n :: r, ρ, f => HP.ex fun x : Nat => exs r (ρ ++ [.n x]) f
  | .i :: r, ρ, f => HP.ex fun x : Int => exs r (ρ ++ [.i x]) f
  | .c :: r, ρ, f => HP.ex fun x : Bool => exs r (ρ ++ [.c x]) f
  | .s :: r, ρ, f => HP.ex fun x : List UInt8 => exs r (ρ ++ [.s x]) f
  | .a :: r, ρ, f => HP.ex fun x : Option Addr => exs r (ρ ++ [.a x]) f
  | .v :: r, ρ, f => HP.ex fun x : Value => exs r (ρ ++ [.v x]) f
  | .p :: r, ρ, f => HP.ex fun x : HP => exs r (ρ ++ [.p x]) f
def exP : List So → Env → (Env → Prop) → Prop
  | [], ρ, f => f ρ
  | .n :: r, ρ, f => ∃ x : Nat, exP r (ρ ++ [.n x]) f
  | .i :: r, ρ, f => ∃ x : Int, exP r (ρ ++ [.i x]) f
  | .c :: r, ρ, f => ∃ x : Bool, exP r (ρ ++ [.c x]) f
  | .s :: r, ρ, f => ∃ x : List UInt8, exP r (ρ ++ [.s x]) f
  | .a :: r, ρ, f => ∃ x : Option Addr, exP r (ρ ++ [.a x]) f
  | .v :: r, ρ, f => ∃ x : Value, exP r (ρ ++ [.v x]) f
  | .p :: r, ρ, f => ∃ x : HP, exP r (ρ ++ [.p x]) f
def allP : List So → Env → (Env → Prop) → Prop
  | [], ρ, f => f ρ
  | .n :: r, ρ, f => ∀ x : Nat, allP r (ρ ++ [.n x]) f
  | .i :: r, ρ, f => ∀ x : Int, allP r (ρ ++ [.i x]) f
  | .c :: r, ρ, f => ∀ x : Bool, allP r (ρ ++ [.c x]) f
  | .s :: r, ρ, f => ∀ x : List UInt8, allP r (ρ ++ [.s x]) f
  | .a :: r, ρ, f => ∀ x : Option Addr, allP r (ρ ++ [.a x]) f
  | .v :: r, ρ, f => ∀ x : Value, allP r (ρ ++ [.v x]) f
  | .p :: r, ρ, f => ∀ x : HP, allP r (ρ ++ [.p x]) f
/-- A function of what is new, one argument each. -/
def Cur (α : Type) : List So → Type
  | [] => α
  | .n :: r => Nat → Cur α r
  | .i :: r => Int → Cur α r
  | .c :: r => Bool → Cur α r
  | .s :: r => List UInt8 → Cur α r
  | .a :: r => Option Addr → Cur α r
  | .v :: r => Value → Cur α r
  | .p :: r => HP → Cur α r
def Cur.app {α : Type} : (l : List So) → Cur α l → Env → α
  | [], f, _ => f
  | .n :: r, f, ρ => Cur.app r (f (look ρ 0).nat) (ρ.drop 1)
  | .i :: r, f, ρ => Cur.app r (f (look ρ 0).int) (ρ.drop 1)
  | .c :: r, f, ρ => Cur.app r (f (look ρ 0).bool) (ρ.drop 1)
  | .s :: r, f, ρ => Cur.app r (f (look ρ 0).str) (ρ.drop 1)
  | .a :: r, f, ρ => Cur.app r (f (look ρ 0).adr) (ρ.drop 1)
  | .v :: r, f, ρ => Cur.app r (f (look ρ 0).val) (ρ.drop 1)
  | .p :: r, f, ρ => Cur.app r (f (look ρ 0).hp) (ρ.drop 1)

/-- What stands for something new of a loop's round. -/
inductive FV where
  | n (r : BR) | e (e : E) | a (s : SA) | v (x : A) | p (h : Hp)
  deriving DecidableEq
def FV.den (ρ : Env) : FV → Uni
  | .n r => .n (r.den ρ)
  | .e y => y.den ρ
  | .a s => .a (s.den ρ)
  | .v x => .v (x.den ρ)
  | .p h => .p (hden ρ h)

/-- What is to be shown of a run. -/
inductive T where
  | ret (v : V) (h : Hp)
  | br (c : E) (a b : T)
  | need (c : E) (k : T)
  | new (k : T)
  | call (f : FuncId) (args : List W) (c : Hp) (ss : List So) (r : V) (nb : Hp) (k : T)
  | op (o : Op) (ty : TypeId) (ar : List (Nat × V)) (c : Hp) (ss : List So) (r : V) (nb : Hp) (k : T)
  | read (o : Op) (ty : TypeId) (ar : List (Nat × V)) (c : Hp) (ss : List So) (r : V) (k : T)
  | loop (ss : List So) (init : List FV) (body : T)
  | again (d : Nat) (fr : List FV)
  | all (a b : T)
  | fail (why : Nat)
  | callv (v : Nat) (args : List W) (c : Hp) (ss : List So) (r : V) (nb : Hp) (k : T)
  | rangef (g : A) (c sh : Hp) (ss : List So) (init : List FV) (pss : List So) (pvs : List W) (pch : Hp) (rnd aft : T)

/-- The operands of an operation that stands alone. -/
def arEval (ρ : Env) (ar : List (Nat × V)) : Operand → Value
  | .tmp t => match ar.find? (·.1 == t) with
    | some x => x.2.den ρ
    | none => undef
  | .const v => v
  | .global g => .pointer (some ⟨g, 0, none⟩)
  | .func f => .func (.func f) #[] #[]
def semOf (ρ : Env) (o : Op) (ty : TypeId) (ar : List (Nat × V)) : Sem Next := execOp (arEval ρ ar) { dst := none, op := o, type := ty, pos := "", after := #[], guard := none }

def T.den (P : Program) (post : Value → HP) : T → List (Env → Prop) → Env → Prop
  | .ret v h, _, ρ => HP.ent (hden ρ h) (post (v.den ρ))
  | .br c a b, L, ρ => (c.prop ρ → a.den P post L ρ) ∧ (¬ c.prop ρ → b.den P post L ρ)
  | .need c k, L, ρ => c.prop ρ ∧ (c.prop ρ → k.den P post L ρ)
  | .new k, L, ρ => ∀ x : Nat, k.den P post L (ρ ++ [.n x])
  | .call f args c ss r nb k, L, ρ => Tri P f (args.map (W.den ρ)).toArray (hden ρ c) fun v => exs ss ρ fun ρ' => HP.and (v = r.den ρ') (HP.and (k.den P post L ρ') (hden ρ' nb))
  | .op o ty ar c ss r nb k, L, ρ => OTri P (semOf ρ o ty ar) (hden ρ c) fun v => exs ss ρ fun ρ' => HP.and (v = r.den ρ') (HP.and (k.den P post L ρ') (hden ρ' nb))
  | .read o ty ar c ss r k, L, ρ => exP ss ρ fun ρ' => ORead P (semOf ρ o ty ar) (hden ρ c) (r.den ρ') ∧ k.den P post L ρ'
  | .loop ss init body, L, ρ => ∃ (I : Cur Prop ss) (μ : Cur Nat ss), Cur.app ss I (init.map (FV.den ρ)) ∧
      allP ss ρ fun ρ' => Cur.app ss I (ρ'.drop ρ.length) → body.den P post ((fun ys => Cur.app ss I ys ∧ Cur.app ss μ ys < Cur.app ss μ (ρ'.drop ρ.length)) :: L) ρ'
  | .again d fr, L, ρ => match L[d]? with
    | some X => X (fr.map (FV.den ρ))
    | none => False
  | .all a b, L, ρ => a.den P post L ρ ∧ b.den P post L ρ
  | .fail _, _, _ => False
  | .callv v args c ss r nb k, L, ρ => VTri P (look ρ v).val (args.map (W.den ρ)).toArray (hden ρ c) fun v => exs ss ρ fun ρ' => HP.and (v = r.den ρ') (HP.and (k.den P post L ρ') (hden ρ' nb))
  | .rangef g c sh ss init pss pvs pch rnd aft, L, ρ => ∃ (γ : Type) (Sh : γ → HP) (Pr : γ → Array Value → HP) (may : γ → Array Value → γ → Prop) (fin : γ → Prop) (g0 : γ) (I : γ → Cur Prop ss),
      SeqTri P (g.den ρ) (hden ρ c) Sh Pr may fin g0 ∧ Cur.app ss (I g0) (init.map (FV.den ρ)) ∧
      (∀ g, allP ss ρ fun ρ' => Cur.app ss (I g) (ρ'.drop ρ.length) → Sh g = hden ρ' sh) ∧
      (∀ g args, (∃ g', may g args g') → allP ss ρ fun ρ' => Cur.app ss (I g) (ρ'.drop ρ.length) → exP pss ρ' fun ρ'' => args = (pvs.map (W.den ρ'')).toArray ∧ HP.ent (Pr g args) (hden ρ'' pch) ∧
        rnd.den P post ((fun ys => ∃ g', may g args g' ∧ Cur.app ss (I g') ys) :: L) ρ'') ∧
      (∀ g, fin g → allP ss ρ fun ρ' => Cur.app ss (I g) (ρ'.drop ρ.length) → aft.den P post L ρ')
end Go.Proofs.Ytmibmjehjagmbaa.RX
