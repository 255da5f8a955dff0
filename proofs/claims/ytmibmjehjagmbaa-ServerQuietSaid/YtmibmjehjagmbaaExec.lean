/- A run of Go code over terms: it prints the tree of what is to be shown. No condition. -/
import Derived.Test.YtmibmjehjagmbaaDeep
namespace Go.Proofs.Ytmibmjehjagmbaa.RX
open Go.Proofs.Ytmibmjehjagmbaa

structure Cfg where
  absT : List TypeId := []
  opq : List TypeId := []
  hv : List (Nat × List Key) := []
  keep : List FuncId := []
  link : List (FuncId × Nat) := []
  turn : List (FuncId × List Nat) := []
  ent : List (Tmp × List TypeId) := []
  shr : List (Nat × List Key) := []
  vt : List Key := []
  mkd : List Tmp := []
  rlink : List (FuncId × Nat × Nat) := []
  pty : List (Nat × List TypeId) := []
structure S where
  t : List (Option V)
  h : Hp
  n : Nat
  kn : List (E × Bool)
  lk : List (Nat × Key)
  dp : Nat
  blk : Nat
  df : List BR

/-! ### what is below a number -/
def E.bel (n : Nat) : E → Bool
  | .v k => decide (k < n)
  | .o1 _ a => a.bel n
  | .o2 _ a b => a.bel n && b.bel n
  | _ => true
def BR.bel (n : Nat) : BR → Bool
  | .v k => decide (k < n)
  | .g _ => true
def SA.bel (n : Nat) : SA → Bool
  | .nil => true
  | .v k => decide (k < n)
  | .b r _ => r.bel n
def A.bel (n : Nat) : A → Bool
  | .int _ e => e.bel n
  | .bool e => e.bel n
  | .str e => e.bel n
  | .ptr r _ => r.bel n
  | .eptr s ix _ _ => decide (s < n) && ix.bel n
  | .sl s l c => s.bel n && l.bel n && c.bel n
  | .map r => r.bel n
  | .val k => decide (k < n)
  | .func _ cs => cs.all fun x => x.1.bel n
  | _ => true
def W.bel (n : Nat) : W → Bool
  | .a x => x.bel n
  | .agg l => l.all (A.bel n)
def V.bel (n : Nat) : V → Bool
  | .w x => x.bel n
  | .tup l => l.all (W.bel n)
  | .nx c k v => decide (c < n) && decide (k < n) && decide (v < n)
def Key.bel (n : Nat) : Key → Bool
  | .b r => r.bel n
  | .a k => decide (k < n)
def C.bel (n : Nat) : C → Bool
  | .cells l _ => l.all (A.bel n)
  | .emap => true
  | .dfr => true
  | .prop k => decide (k < n)
def hbel (n : Nat) (h : Hp) : Bool := h.all fun x => x.1.bel n && x.2.bel n
def S.bel (s : S) : Bool := (s.t.all fun | some v => v.bel s.n | none => true) && hbel s.n s.h && s.df.all (BR.bel s.n) && s.kn.all fun x => x.1.bel s.n

/-! ### small things -/
def S.put (s : S) (d : Option Tmp) (v : V) : S := match d with
  | some k => { s with t := s.t.set k (some v) }
  | none => s
def mapM' {α β : Type} (f : α → Option β) : List α → Option (List β)
  | [] => some []
  | x :: r => match f x with
    | some y => match mapM' f r with
      | some l => some (y :: l)
      | none => none
    | none => none
def ofVal1 : Value → Option A
  | .int k n => some (.int k (.i n))
  | .bool b => some (.bool (.c b))
  | .string s => some (.str (.s s.data.toList))
  | .pointer none => some .nilp
  | .slice none 0 0 => some (.sl .nil (.n 0) (.n 0))
  | .map none => some .nilm
  | .nilFunc => some .nilf
  | .nilIface => some .nili
  | _ => none
def ofVal : Value → Option W
  | .agg cs => (mapM' ofVal1 cs.toList).map .agg
  | v => (ofVal1 v).map .a
def ev (s : S) : Operand → Option V
  | .tmp t => match s.t[t]? with
    | some o => o
    | none => none
  | .const v => (ofVal v).map .w
  | .global g => some (.w (.a (.ptr (.g g) 0)))
  | .func f => some (.w (.a (.func f [])))
def evA (s : S) (x : Operand) : Option A := match ev s x with
  | some (.w (.a y)) => some y
  | _ => none
def evW (s : S) (x : Operand) : Option W := match ev s x with
  | some (.w y) => some y
  | _ => none
def W.list : W → List A
  | .a x => [x]
  | .agg l => l
def aggT (P : Program) (t : TypeId) : Bool := match P.underlying t with
  | some (.struct _) => true
  | some (.array _ _) => true
  | _ => false
def szT (P : Program) (t : TypeId) : Nat := match P.info? t with
  | some i => i.size
  | none => 0
/-- A part of a row of cells, as a value of a type. -/
def partA (P : Program) (t : TypeId) (l : List A) (off : Nat) : Option W := match P.underlying t with
  | none => none
  | some _ => if aggT P t then (if off + szT P t ≤ l.length then some (.agg ((l.drop off).take (szT P t))) else none) else (l[off]?).map .a
def isLit : E → Option Bool
  | .c b => some b
  | _ => none
def knowsL : List (E × Bool) → E → Option Bool
  | [], _ => none
  | (x, b) :: r, e => if x = e then some b else if x = .o1 .not e then some (!b) else if e = .o1 .not x then some (!b) else knowsL r e
def knows (l : List (E × Bool)) (e : E) : Option Bool := match isLit e with
  | some b => some b
  | none => knowsL l e
def noT : E → E
  | .c b => .c (!b)
  | e => .o1 .not e
def cmpE (f : F2) (a b : E) : E := match f, a, b with
  | .lt, .i x, .i y => .c (decide (x < y))
  | .le, .i x, .i y => .c (decide (x ≤ y))
  | .eq, .i x, .i y => .c (decide (x = y))
  | _, _, _ => .o2 f a b
/-- A need that shows itself falls away. -/
def need1 (e : E) (l : List E) : List E := match e with
  | .c true => l
  | _ => e :: l
def rng (k : IntKind) (e : E) : E := match e with
  | .i x => if k.min ≤ x ∧ x ≤ k.max then .c true else .o1 (.inr k) e
  | _ => .o1 (.inr k) e
def arith (op : BinOp) (a b : E) : Option E := match op, a, b with
  | .add, .i x, .i y => some (.i (x + y))
  | .sub, .i x, .i y => some (.i (x - y))
  | .mul, .i x, .i y => some (.i (x * y))
  | .add, _, _ => some (.o2 .add a b)
  | .sub, _, _ => some (.o2 .sub a b)
  | .mul, _, _ => some (.o2 .mul a b)
  | _, _, _ => none
def binInt (op : BinOp) (k : IntKind) (a b : E) : Option (List E × A) := match op with
  | .add | .sub | .mul => match arith op a b with
    | some e => if k.signed then some (need1 (rng k e) [], .int k e) else some ([], .int k (.o1 (.wrap k) e))
    | none => none
  | .quo => match a, b with
    | .i x, .i y => if y ≠ 0 ∧ k.min ≤ x.tdiv y ∧ x.tdiv y ≤ k.max then some ([], .int k (.i (x.tdiv y))) else none
    | _, _ => some (need1 (noT (cmpE .eq b (.i 0))) (need1 (rng k (.o2 .quo a b)) []), .int k (.o2 .quo a b))
  | .rem => match a, b with
    | .i x, .i y => if y ≠ 0 then some ([], .int k (.i (x.tmod y))) else none
    | _, _ => some (need1 (noT (cmpE .eq b (.i 0))) [], .int k (.o2 .rem a b))
  | .and | .or | .xor | .andNot => some ([], .int k (.o2 (.bit op k) a b))
  | .eql => some ([], .bool (cmpE .eq a b))
  | .neq => some ([], .bool (noT (cmpE .eq a b)))
  | .lss => some ([], .bool (cmpE .lt a b))
  | .leq => some ([], .bool (cmpE .le a b))
  | .gtr => some ([], .bool (cmpE .lt b a))
  | .geq => some ([], .bool (cmpE .le b a))
  | _ => none
def fitsIn (a b : IntKind) : Bool := decide (b.min ≤ a.min) && decide (a.max ≤ b.max)
def isNilT : A → Option E
  | .nilp => some (.c true)
  | .nilm => some (.c true)
  | .nilf => some (.c true)
  | .ptr _ _ => some (.c false)
  | .map _ => some (.c false)
  | .func _ _ => some (.c false)
  | .sl .nil _ _ => some (.c true)
  | .sl (.v k) _ _ => some (noT (.o1 .isSome (.v k)))
  | .sl (.b _ _) _ _ => some (.c false)
  | _ => none
def isNilC : A → Bool
  | .nilp => true
  | .nilm => true
  | .nilf => true
  | .sl .nil (.n 0) (.n 0) => true
  | _ => false
/-- Where a type's comparison with nil looks at the kind of value. -/
def nilKind (P : Program) (t : TypeId) (x : A) : Bool := match P.underlying t, x with
  | some (.pointer _), .nilp => true
  | some (.pointer _), .ptr _ _ => true
  | some (.map _ _), .nilm => true
  | some (.map _ _), .map _ => true
  | some (.slice _), .sl _ _ _ => true
  | some (.func _ _ _), .nilf => true
  | some (.func _ _ _), .func _ _ => true
  | _, _ => false
def boolT (P : Program) (t : TypeId) : Bool := match P.underlying t with
  | some .bool => true
  | _ => false
def strT (P : Program) (t : TypeId) : Bool := match P.underlying t with
  | some .string => true
  | _ => false
def binA (P : Program) (op : BinOp) (t : TypeId) (x y : A) : Option (List E × A) := match op, x, y with
  | .shl, .int k a, .int _ b => some (need1 (cmpE .le (.i 0) b) [], .int k (.o2 (.shl k) a b))
  | .shr, .int k a, .int _ b => some (need1 (cmpE .le (.i 0) b) [], .int k (.o2 (.shr k) a b))
  | _, .int k a, .int k' b => if k = k' then binInt op k a b else none
  | .eql, .bool a, .bool b => if boolT P t then some ([], .bool (.o2 .beq a b)) else none
  | .neq, .bool a, .bool b => if boolT P t then some ([], .bool (noT (.o2 .beq a b))) else none
  | .eql, .str a, .str b => some ([], .bool (.o2 .seq a b))
  | .neq, .str a, .str b => some ([], .bool (noT (.o2 .seq a b)))
  | .add, .str a, .str b => some ([.o2 .le (.o1 .ofNat (.o2 .nadd (.o1 .size a) (.o1 .size b))) (.i 9223372036854775807)], .str (.o2 .cat a b))
  | .lss, .str a, .str b => some ([], .bool (.o2 .slt a b))
  | .eql, a, b => if isNilC b && nilKind P t a && nilKind P t b then (isNilT a).map fun e => ([], .bool e) else if isNilC a && nilKind P t a && nilKind P t b then (isNilT b).map fun e => ([], .bool e) else none
  | .neq, a, b => if isNilC b && nilKind P t a && nilKind P t b then (isNilT a).map fun e => ([], .bool (noT e)) else if isNilC a && nilKind P t a && nilKind P t b then (isNilT b).map fun e => ([], .bool (noT e)) else none
  | _, _, _ => none
def capOf : V → Option (BR × Nat)
  | .w (.a (.ptr r off)) => some (r, off)
  | _ => none
def pickE (e : E) (a b : E) : E := match a, b with
  | .c true, _ => .o2 .or e b
  | _, .c false => .o2 .and e a
  | _, _ => .o2 .or (.o2 .and e a) (.o2 .and (noT e) b)
def natLit : E → Option Nat
  | .i x => if 0 ≤ x then some x.toNat else none
  | _ => none
def lenN : E → Option Nat
  | .n x => some x
  | _ => none
def findC (h : Hp) (k : Key) : Option C := match h with
  | [] => none
  | (x, c) :: r => if x = k then some c else findC r k

def pureMF (s : S) (fn : Fn) (first caps : Array Operand) : Option (List E × V) := match fn, first.toList with
  | .func f, [] => match mapM' (ev s) caps.toList with
    | some vs => (mapM' capOf vs).map fun cs => ([], .w (.a (.func f cs)))
    | none => none
  | _, _ => none
def pureLen (P : Program) (s : S) (x : Operand) (t : TypeId) : Option (List E × V) := match P.underlying t, evA s x with
  | some (.slice _), some (.sl _ len _) => some ([], .w (.a (.int .i64 (match len with | .n q => .i q | _ => .o1 .ofNat len))))
  | some .string, some (.str e) => some ([], .w (.a (.int .i64 (match e with | .s q => .i q.length | _ => .o1 .ofNat (.o1 .size e)))))
  | some (.map _ _), some .nilm => some ([], .w (.a (.int .i64 (.i 0))))
  | _, _ => none
def pureCap (P : Program) (s : S) (x : Operand) (t : TypeId) : Option (List E × V) := match P.underlying t, evA s x with
  | some (.slice _), some (.sl _ _ cap) => some ([], .w (.a (.int .i64 (.o1 .ofNat cap))))
  | _, _ => none
def pureMx (f : F2) (s : S) (x y : Operand) : Option (List E × V) := match evA s x, evA s y with
  | some (.int k a), some (.int k' b) => if k = k' then some ([], .w (.a (.int k (.o2 f a b)))) else none
  | _, _ => none
def pureCall (P : Program) (s : S) (c : Call) : Option (List E × V) := match c.callee, c.args.toList, c.argTypes.toList with
  | .builtin .len, [x], [t] => pureLen P s x t
  | .builtin .cap, [x], [t] => pureCap P s x t
  | .builtin .max, [x, y], _ => pureMx .mx s x y
  | .builtin .min, [x, y], _ => pureMx .mn s x y
  | _, _, _ => none
def pureIx (P : Program) (s : S) (t : TypeId) (x ix : Operand) : Option (List E × V) := match P.underlying t, evA s x, evA s ix with
  | some (.slice el), some (.sl (.v k) len _), some (.int _ e) => if (P.info? el).isSome then some (need1 (cmpE .le (.i 0) e) [.o2 .lt e (.o1 .ofNat len), .o1 .isSome (.v k)], .w (.a (.eptr k e (szT P el) 0))) else none
  | some (.slice el), some (.sl (.b r off) len _), some (.int _ e) => match natLit e, lenN len with
    | some i, some n => if i < n ∧ (P.info? el).isSome then some ([], .w (.a (.ptr r (off + i * szT P el)))) else none
    | _, _ => none
  | some (.array n el), some (.ptr r off), some (.int _ e) => match natLit e with
    | some i => if i < n ∧ (P.info? el).isSome then some ([], .w (.a (.ptr r (off + i * szT P el)))) else none
    | none => none
  | _, _, _ => none
/-- An operation that changes nothing: what it asks, and what it gives. -/
def pureOp (P : Program) (s : S) : Op → Option (List E × V)
  | .move x | .assign x => (ev s x).map fun v => ([], v)
  | .pick c a b => match evA s c with
    | some (.bool e) => match knows s.kn e with
      | some true => (ev s a).map fun v => ([], v)
      | some false => (ev s b).map fun v => ([], v)
      | none => match evA s a, evA s b with
        | some (.bool x), some (.bool y) => some ([], .w (.a (.bool (pickE e x y))))
        | _, _ => none
    | _ => none
  | .nilCheck x => match ev s x with
    | some (.w (.a (.ptr r off))) => some ([], .w (.a (.ptr r off)))
    | some (.w (.a (.func f cs))) => some ([], .w (.a (.func f cs)))
    | some (.w (.a (.eptr k ix sz off))) => if knows s.kn (.o1 .isSome (.v k)) = some true then some ([], .w (.a (.eptr k ix sz off))) else none
    | _ => none
  | .fieldAddr t x f => match P.underlying t with
    | some (.struct fs) => match fs[f]? with
      | some fd => if szT P fd.type = 0 then none else match evA s x with
        | some (.ptr r off) => some ([], .w (.a (.ptr r (off + fd.offset))))
        | some (.eptr k ix sz off) => if knows s.kn (.o1 .isSome (.v k)) = some true then some ([], .w (.a (.eptr k ix sz (off + fd.offset)))) else none
        | _ => none
      | none => none
    | _ => none
  | .field t x f => match P.underlying t with
    | some (.struct fs) => match fs[f]? with
      | some fd => match evW s x with
        | some (.agg l) => (partA P fd.type l fd.offset).map fun w => ([], .w w)
        | _ => none
      | none => none
    | _ => none
  | .extract x i => match ev s x with
    | some (.tup l) => (l[i]?).map fun w => ([], .w w)
    | some (.nx c _ _) => if i = 0 then some ([], .w (.a (.bool (.v c)))) else none
    | _ => none
  | .load t a => match evA s a with
    | some (.ptr r off) => match findC s.h (.b r) with
      | some (.cells l _) => (partA P t l off).map fun w => ([], .w w)
      | _ => none
    | _ => none
  | .binOp op t x y _ => match evA s x, evA s y with
    | some a, some b => (binA P op t a b).map fun r => (r.1, .w (.a r.2))
    | _, _ => none
  | .unOp .not _ x => match evA s x with
    | some (.bool e) => some ([], .w (.a (.bool (noT e))))
    | _ => none
  | .unOp .neg _ x => match evA s x with
    | some (.int k e) => (binInt .sub k (.i 0) e).map fun r => (r.1, .w (.a r.2))
    | _ => none
  | .convert src dst x => match P.underlying src, P.underlying dst, evA s x with
    | some (.int sk), some (.int k), some (.int k' e) => if sk = k' then (if fitsIn sk k then some (need1 (rng k e) [], .w (.a (.int k e))) else some ([], .w (.a (.int k (.o1 (.wrap k) e))))) else none
    | some .string, some .string, some (.str e) => some ([], .w (.a (.str e)))
    | _, _, _ => none
  | .makeFunc fn first caps => pureMF s fn first caps
  | .indexAddr t x ix => pureIx P s t x ix
  | .call c => pureCall P s c
  | _ => none

/-! ### what is new -/
structure Fresh where
  ss : List So
  l : List A
  h : Hp
  n : Nat
/-- A value like another one, as new. -/
def refA (n : Nat) : A → Fresh
  | .int k _ => ⟨[.i], [.int k (.v n)], [], n + 1⟩
  | .bool _ => ⟨[.c], [.bool (.v n)], [], n + 1⟩
  | .str _ => ⟨[.s], [.str (.v n)], [], n + 1⟩
  | .ptr _ _ => ⟨[.n, .p], [.ptr (.v n) 0], [(.b (.v n), .prop (n + 1))], n + 2⟩
  | .sl _ _ _ => ⟨[.a, .n, .n, .p], [.sl (.v n) (.v (n + 1)) (.v (n + 2))], [(.a n, .prop (n + 3))], n + 4⟩
  | .map _ => ⟨[.n, .p], [.map (.v n)], [(.b (.v n), .prop (n + 1))], n + 2⟩
  | .func f cs => ⟨[], [.func f cs], [], n⟩
  | _ => ⟨[.v, .p], [.val n], [(.a n, .prop (n + 1))], n + 2⟩
def refAs (n : Nat) : List A → Fresh
  | [] => ⟨[], [], [], n⟩
  | x :: r =>
    let a := refA n x
    let b := refAs a.n r
    ⟨a.ss ++ b.ss, a.l ++ b.l, a.h ++ b.h, b.n⟩
def repF (f : Nat → Fresh) (n : Nat) : Nat → Fresh
  | 0 => ⟨[], [], [], n⟩
  | k + 1 =>
    let a := f n
    let b := repF f a.n k
    ⟨a.ss ++ b.ss, a.l ++ b.l, a.h ++ b.h, b.n⟩
def foldF (f : TypeId → Nat → Fresh) (n : Nat) : List TypeId → Fresh
  | [] => ⟨[], [], [], n⟩
  | t :: r =>
    let a := f t n
    let b := foldF f a.n r
    ⟨a.ss ++ b.ss, a.l ++ b.l, a.h ++ b.h, b.n⟩
def ownP (own : Bool) (k : Key) (ss : List So) (l : List A) (n : Nat) : Fresh := if own then ⟨ss ++ [.p], l, [(k, .prop n)], n + 1⟩ else ⟨ss, l, [], n⟩
/-- A value of a type, as new (own: with what it owns). -/
def shT (P : Program) (cfg : Cfg) (own : Bool) : Nat → TypeId → Nat → Fresh
  | 0, _, n => ⟨[], [], [], n⟩
  | fuel + 1, t, n => match P.underlying t with
    | some .bool => ⟨[.c], [.bool (.v n)], [], n + 1⟩
    | some (.int k) => ⟨[.i], [.int k (.v n)], [], n + 1⟩
    | some .string => ⟨[.s], [.str (.v n)], [], n + 1⟩
    | some (.pointer _) => if cfg.opq.contains t then ownP own (.a n) [.v] [.val n] (n + 1) else ownP own (.b (.v n)) [.n] [.ptr (.v n) 0] (n + 1)
    | some (.slice _) => ownP own (.a n) [.a, .n, .n] [.sl (.v n) (.v (n + 1)) (.v (n + 2))] (n + 3)
    | some (.map _ _) => ownP own (.b (.v n)) [.n] [.map (.v n)] (n + 1)
    | some (.struct fs) => foldF (shT P cfg own fuel) n (fs.toList.map (·.type))
    | some (.array k e) => repF (shT P cfg own fuel e) n k
    | _ => ownP own (.a n) [.v] [.val n] (n + 1)
def asW (P : Program) (t : TypeId) (l : List A) : W := if aggT P t then .agg l else match l with
  | [x] => .a x
  | _ => .agg l
structure FreshV where
  ss : List So
  v : V
  h : Hp
  n : Nat
def shTs (P : Program) (cfg : Cfg) (own : Bool) (n : Nat) : List TypeId → List So × List W × Hp × Nat
  | [] => ([], [], [], n)
  | t :: r =>
    let a := shT P cfg own 20 t n
    let b := shTs P cfg own a.n r
    (a.ss ++ b.1, asW P t a.l :: b.2.1, a.h ++ b.2.2.1, b.2.2.2)
def shR (P : Program) (cfg : Cfg) (own : Bool) (n : Nat) : List TypeId → FreshV
  | [t] =>
    let a := shT P cfg own 20 t n
    ⟨a.ss, .w (asW P t a.l), a.h, a.n⟩
  | ts =>
    let b := shTs P cfg own n ts
    ⟨b.1, .tup b.2.1, b.2.2.1, b.2.2.2⟩
/-- The result of an operation, by its type: a tuple's parts, or one. -/
def shO (P : Program) (cfg : Cfg) (own : Bool) (n : Nat) (t : TypeId) : FreshV := match P.underlying t with
  | some (.tuple ts) => shR P cfg own n ts.toList
  | _ => shR P cfg own n [t]

/-! ### which parts of the heap something reaches -/
def keysA : A → List Key
  | .ptr r _ => [.b r]
  | .eptr k _ _ _ => [.a k]
  | .sl (.v k) _ _ => [.a k]
  | .sl (.b r _) _ _ => [.b r]
  | .map r => [.b r]
  | .func _ cs => cs.map fun x => .b x.1
  | .val k => [.a k]
  | _ => []
def keysV : V → List Key
  | .w x => x.list.flatMap keysA
  | .tup l => l.flatMap fun x => x.list.flatMap keysA
  | .nx _ k v => [.a k, .a v]
def linkOf (lk : List (Nat × Key)) : Key → List Key
  | .b (.v k) => (lk.filter fun x => x.1 == k).map (·.2)
  | .a k => (lk.filter fun x => x.1 == k).map (·.2)
  | _ => []
def reach (h : Hp) (lk : List (Nat × Key)) : Nat → List Key → List Key → List Key
  | 0, _, acc => acc
  | _, [], acc => acc
  | fuel + 1, k :: todo, acc =>
    if acc.contains k then reach h lk fuel todo acc
    else
      let more := linkOf lk k ++ match findC h k with
        | some (.cells l _) => l.flatMap keysA
        | _ => []
      reach h lk fuel (more ++ todo) (acc ++ [k])
def pickH (h : Hp) : List Key → Hp
  | [] => []
  | k :: r => match findC h k with
    | some c => (k, c) :: pickH h r
    | none => pickH h r
def nodupH : Hp → Bool
  | [] => true
  | x :: r => !r.contains x && nodupH r
def subH (m l : Hp) : Bool := nodupH m && m.all fun x => l.contains x
structure Back where
  ss : List So
  h : Hp
  n : Nat
/-- What comes back of what was handed over. -/
def backs (cfg : Cfg) (h : Hp) (n : Nat) : List Key → Back
  | [] => ⟨[], [], n⟩
  | k :: r => match findC h k with
    | none => backs cfg h n r
    | some (.cells l ty) =>
      if cfg.absT.contains ty then
        let b := backs cfg h (n + 1) r
        ⟨.p :: b.ss, (k, .prop n) :: b.h, b.n⟩
      else
        let a := refAs n l
        let b := backs cfg h a.n r
        ⟨a.ss ++ b.ss, (k, .cells a.l ty) :: a.h ++ b.h, b.n⟩
    | some _ =>
      let b := backs cfg h (n + 1) r
      ⟨.p :: b.ss, (k, .prop n) :: b.h, b.n⟩

/-! ### steps -/
def brE (s : S) (e : E) (kt kf : S → T) : T := match knows s.kn e with
  | some true => kt s
  | some false => kf s
  | none => if s.bel && e.bel s.n then .br e (kt { s with kn := (e, true) :: s.kn }) (kf { s with kn := (e, false) :: s.kn }) else .fail 1
def needs : List E → (S → T) → S → T
  | [], K, s => K s
  | e :: r, K, s => if knows s.kn e = some true then needs r K s else if e.bel s.n then .need e (needs r K { s with kn := (e, true) :: s.kn }) else .fail 2
def opTmps (o : Op) : List Tmp := o.operands.toList.filterMap fun | .tmp t => some t | _ => none
def arOf (s : S) : List Tmp → Option (List (Nat × V))
  | [] => some []
  | t :: r => match ev s (.tmp t) with
    | some v => (arOf s r).map fun l => (t, v) :: l
    | none => none
def ptrT (P : Program) (t : TypeId) : Bool := match P.underlying t with
  | some (.pointer _) => true
  | _ => false
def funT (P : Program) (t : TypeId) : Bool := match P.underlying t with
  | some (.func _ _ _) => true
  | _ => false
def isReadOp : Op → Bool
  | .lookup .. | .load .. | .binOp .. | .index .. | .slice .. | .field .. | .typeAssert .. => true
  | .call { callee := .builtin .len, .. } => true
  | .call { callee := .builtin .max, .. } => true
  | .call { callee := .builtin .min, .. } => true
  | .convert .. => true
  | .entry _ => true
  | _ => false
/-- A conversion of a string to bytes makes memory. -/
def makes (P : Program) : Op → Bool
  | .convert src _ _ => strT P src
  | .load t _ => ptrT P t
  | .lookup t _ _ _ => match P.underlying t with
    | some (.map _ e) => ptrT P e
    | _ => false
  | _ => false
def noRes : Op → Bool
  | .store .. | .mapUpdate .. | .insert .. | .entryStore .. => true
  | _ => false
/-- Slices within a value know of what it was read from. -/
def subKeys (v : V) : List Nat := (keysV v).filterMap fun
  | .a k => some k
  | _ => none
/-- A slice of a slice, and an iterator, know of what they are. -/
def linksOf (o : Op) (s : S) (n : Nat) (v : V) : List (Nat × Key) := match o with
  | .slice _ x .. => match evA s x, v with
    | some a, .w (.a (.sl (.v k) _ _)) => (keysA a).map fun q => (k, q)
    | _, _ => []
  | .range _ x => match evA s x with
    | some a => (keysA a).map fun q => (n, q)
    | _ => []
  | .load _ x => match evA s x, v with
    | some (.eptr k _ _ _), .w (.a (.ptr r _)) => [(k, .b r)]
    | some y, v => (subKeys v).flatMap fun k => (keysA y).map fun q => (k, q)
    | _, _ => []
  | .lookup _ x _ _ => match evA s x with
    | some y => (subKeys v).flatMap fun k => (keysA y).map fun q => (k, q)
    | _ => []
  | .entry x => match evA s x with
    | some y => (subKeys v).flatMap fun k => ((keysA y).flatMap (linkOf s.lk)).map fun q => (k, q)
    | _ => []
  | _ => []
/-- The operand that an operation turns; and whether what the others reach goes into it. -/
def firstOf (P : Program) : Op → List Operand × Bool
  | .mapUpdate t m _ _ | .insert t m _ _ => ([m], match P.underlying t with | some (.map _ e) => ptrT P e || funT P e | _ => false)
  | .store t ad _ => ([ad], ptrT P t)
  | .call c => match c.callee with
    | .builtin _ => (c.args.toList.take 1, match c.argTypes.toList with
      | t :: _ => match P.underlying t with
        | some (.slice e) => ptrT P e
        | _ => false
      | [] => false)
    | _ => (c.operands.toList, true)
  | .load _ x => ([x], false)
  | .lookup _ x _ _ => ([x], false)
  | o => (o.operands.toList, true)
def resO (P : Program) (cfg : Cfg) (n : Nat) (o : Oper) : FreshV := if noRes o.op then ⟨[], .tup [], [], n⟩ else match o.op with
  | .next _ false => ⟨[.c, .v, .v], .nx n (n + 1) (n + 2), [], n + 3⟩
  | .range _ _ => ⟨[.n, .p], .w (.a (.ptr (.v n) 0)), [(.b (.v n), .prop (n + 1))], n + 2⟩
  | _ => shO P cfg true n o.type
/-- What is read: an entry's parts are told by their types. -/
def resR (P : Program) (cfg : Cfg) (n : Nat) (o : Oper) : FreshV := match o.op, o.dst with
  | .entry _, some d => match cfg.ent.find? (·.1 == d) with
    | some x =>
      let b := shTs P cfg false n x.2
      ⟨b.1, .tup b.2.1, b.2.2.1, b.2.2.2⟩
    | none => shO P cfg false n o.type
  | _, _ => shO P cfg false n o.type
def isNext : Op → Bool
  | .next _ _ => true
  | _ => false
def isApp : Op → Bool
  | .call c => match c.callee with
    | .builtin .append => true
    | _ => false
  | _ => false
def isSel : Op → Bool
  | .select _ _ => true
  | _ => false
def backO (cfg : Cfg) (s : S) (o : Oper) (n : Nat) (roots : List Key) : Back := if isApp o.op then ⟨[], [], n⟩ else backs cfg s.h n roots
def keptO (b : Bool) (cons : Hp) (ks : List Key) : Hp := if b then [] else cons.filter fun x => !ks.contains x.1
def nearK (o : Op) (lk : List (Nat × Key)) (k : Key) : List Key := k :: (if isNext o then [] else linkOf lk k)
def goneK (o : Op) (s : S) (ks : List Key) : List Key := if isNext o then ks else reach s.h s.lk 60 ks []
def makesC (P : Program) (cfg : Cfg) (o : Oper) : Bool := makes P o.op || match o.dst with
  | some d => cfg.mkd.contains d
  | none => false
def genOp (P : Program) (cfg : Cfg) (s : S) (o : Oper) (K : S → T) : T :=
  if isSel o.op then .fail 9 else
  match arOf s (opTmps o.op) with
  | none => .fail 10
  | some ar =>
    let roots := ar.flatMap fun x => keysV x.2
    let ks := reach s.h s.lk 60 roots []
    let cons := pickH s.h ks
    if !subH cons (s.h.filter fun x => ks.contains x.1) then .fail 13 else
    if isReadOp o.op && !makesC P cfg o then
      let r := resR P cfg s.n o
      if s.bel && decide (r.n = s.n + r.ss.length) then
        -- what is read is owned by what it was read from: no part of its own
        let ss := r.ss
        let s' := { s with n := r.n, lk := linksOf o.op s s.n r.v ++ s.lk }
        .read o.op o.type ar cons ss r.v (K (s'.put o.dst r.v))
      else .fail 11
    else
      let r := resO P cfg s.n o
      let fo := firstOf P o.op
      let roots0 := (fo.1.flatMap fun x => match ev s x with | some v => keysV v | none => []).flatMap (nearK o.op s.lk)
      let b := backO cfg s o r.n roots0.eraseDups
      let rest := s.h.filter fun x => !ks.contains x.1
      let kept := keptO (fo.2 && !isNext o.op) cons (goneK o.op s roots0)
      if s.bel && decide (b.n = s.n + (r.ss ++ b.ss).length) then
        let nb := r.h ++ b.h ++ kept
        .op o.op o.type ar cons (r.ss ++ b.ss) r.v nb (K ({ s with n := b.n, h := nb ++ rest, lk := linksOf o.op s s.n r.v ++ s.lk }.put o.dst r.v))
      else .fail 12
def firstPtr : List A → List Nat
  | [] => []
  | .ptr (.v k) _ :: _ => [k]
  | .val k :: _ => [k]
  | _ :: r => firstPtr r
def vList : V → List A
  | .w x => x.list
  | .tup l => l.flatMap W.list
  | .nx _ _ _ => []
def partKeys (v : V) (i : Nat) : List Key := match v with
  | .tup l => (((l[i]?).map W.list).getD []).flatMap keysA
  | _ => []
def keyNum : Key → List Nat
  | .b (.v k) => [k]
  | .a k => [k]
  | _ => []
def callLinks (cfg : Cfg) (f : FuncId) (args : List W) (v : V) : List (Nat × Key) :=
  ((cfg.rlink.filter fun x => x.1 == f).flatMap fun x => (partKeys v x.2.1).flatMap fun k => (keyNum k).flatMap fun n => (partKeys v x.2.2).map fun q => (n, q)) ++
  (cfg.link.filter fun x => x.1 == f).flatMap fun x => (firstPtr (vList v)).flatMap fun k => match args[x.2]? with
    | some w => (w.list.flatMap keysA).map fun q => (k, q)
    | none => []
/-- What a call turns: all that its arguments name; or, where that is said, what some of them name. -/
def turnsOf (cfg : Cfg) (s : S) (f : FuncId) (args : List W) : List Key := match cfg.turn.find? (·.1 == f) with
  | some x => x.2.flatMap fun i => match args[i]? with
    | some w => w.list.flatMap keysA
    | none => []
  | none => (args.flatMap fun x => x.list.flatMap keysA).flatMap fun k => k :: linkOf s.lk k
def stayOf (cfg : Cfg) (f : FuncId) (cons : Hp) (ks : List Key) : Hp := if (cfg.turn.find? (·.1 == f)).isSome then cons.filter fun x => !ks.contains x.1 else []
def callF (P : Program) (cfg : Cfg) (s : S) (o : Oper) (f : FuncId) (args : List W) (K : S → T) : T :=
  match P.funcs[f]? with
  | none => .fail 20
  | some fn =>
    let roots := args.flatMap fun x => x.list.flatMap keysA
    let ks := reach s.h s.lk 60 roots []
    let cons := pickH s.h ks
    let rest := s.h.filter fun x => !ks.contains x.1
    if !subH cons (s.h.filter fun x => ks.contains x.1) then .fail 22 else
    let r := shR P cfg true s.n fn.resultTypes.toList
    let roots' := turnsOf cfg s f args
    let b := backs cfg s.h r.n (roots'.eraseDups)
    if s.bel && fn.body.isSome && fn.name != "runtime.NumGoroutine" && decide (r.n = s.n + r.ss.length) && decide (b.n = s.n + (r.ss ++ b.ss).length) then
      if cfg.keep.contains f then .call f args cons r.ss r.v (r.h ++ cons) (K ({ s with n := r.n, h := r.h ++ cons ++ rest, lk := callLinks cfg f args r.v ++ s.lk }.put o.dst r.v)) else
      let nb := r.h ++ b.h ++ stayOf cfg f cons roots'
      .call f args cons (r.ss ++ b.ss) r.v nb (K ({ s with n := b.n, h := nb ++ rest, lk := callLinks cfg f args r.v ++ s.lk }.put o.dst r.v))
    else .fail 21
/-- A new block. -/
def newB (s : S) (d : Option Tmp) (c : C) (v : BR → A) (K : S → T) : T :=
  if s.bel && c.bel s.n then .new (K ({ s with n := s.n + 1, h := (.b (.v s.n), c) :: s.h }.put d (.w (.a (v (.v s.n)))))) else .fail 30
def fillA (place : Nat → Option (Nat × Nat)) (cells : List A) : List (Nat × W) → Option (List A)
  | [] => some cells
  | (i, w) :: rest => match place i with
    | none => none
    | some (off, size) =>
      if w.list.length ≠ size || off + w.list.length > cells.length then none
      else fillA place (cells.take off ++ w.list ++ cells.drop (off + w.list.length)) rest
def zeroL (P : Program) (t : TypeId) : Option (List A) := match P.info? t with
  | some i => match i.zero with
    | some v => (ofVal v).map W.list
    | none => none
  | none => none
def partsOf (s : S) (l : List (Nat × Operand)) : Option (List (Nat × W)) := mapM' (fun x => (evW s x.2).map fun w => (x.1, w)) l
def repL {α : Type} : Nat → List α → List α
  | 0, _ => []
  | n + 1, l => l ++ repL n l
def delC (h : Hp) (k : Key) : Hp := h.filter fun x => !decide (x.1 = k)
def effCall (P : Program) (cfg : Cfg) (s : S) (o : Oper) (c : Call) (K : S → T) : T := match c.callee with
  | .value (.func f) => match mapM' (evW s) c.args.toList with
    | some ws => match P.funcs[f]? with
      | some fn => if fn.body.isSome then callF P cfg s o f ws K else genOp P cfg s o K
      | none => .fail 44
    | none => .fail 45
  | .value x => match evA s x, mapM' (evW s) c.args.toList with
    | some (.func f cs), some ws => callF P cfg s o f (ws ++ cs.map fun q => .a (.ptr q.1 q.2)) K
    | _, _ => .fail 46
  | _ => genOp P cfg s o K
def effSlice (P : Program) (s : S) (o : Oper) (t : TypeId) (len : Nat) (parts : Array (Nat × Operand)) (K : S → T) : T := match P.underlying t with
  | some (.slice el) => match (if len * szT P el = 0 then some [] else zeroL P el), partsOf s parts.toList with
    | some z, some ps => if (P.info? el).isSome ∧ (len * szT P el = 0 ∨ z.length = szT P el) then match fillA (fun i => some (i * szT P el, szT P el)) (repL len z) ps with
        | some l => if len * szT P el ≤ 16777216 then newB s o.dst (.cells l el) (fun r => .sl (.b r 0) (.n len) (.n len)) K else .fail 36
        | none => .fail 37
      else .fail 38
    | _, _ => .fail 38
  | _ => .fail 39
def effBuild (P : Program) (s : S) (o : Oper) (t : TypeId) (parts : Array (Nat × Operand)) (K : S → T) : T := match P.underlying t with
  | some (.struct fs) => match zeroL P t, partsOf s parts.toList with
    | some z, some ps => if fs.all (fun f => (P.info? f.type).isSome) then match fillA (fun i => (fs[i]?).map fun f => (f.offset, szT P f.type)) z ps with
        | some l => K (s.put o.dst (.w (.agg l)))
        | none => .fail 33
      else .fail 34
    | _, _ => .fail 34
  | some (.array _ el) => match zeroL P t, partsOf s parts.toList with
    | some z, some ps => if (P.info? el).isSome then match fillA (fun i => some (i * szT P el, szT P el)) z ps with
        | some l => K (s.put o.dst (.w (.agg l)))
        | none => .fail 33
      else .fail 34
    | _, _ => .fail 34
  | _ => .fail 35
def effStore (P : Program) (cfg : Cfg) (s : S) (o : Oper) (t : TypeId) (ad x : Operand) (K : S → T) : T := match evA s ad, evW s x with
  | some (.ptr r off), some w => match findC s.h (.b r) with
    | some (.cells l ty) =>
      if w.list.length = szT P t ∧ (P.info? t).isSome ∧ off + w.list.length ≤ l.length ∧ (s.h.filter fun x => decide (x.1 = .b r)) = [(.b r, .cells l ty)] then
        K ({ s with h := (.b r, .cells (l.take off ++ w.list ++ l.drop (off + w.list.length)) ty) :: delC s.h (.b r) }.put o.dst (.tup []))
      else .fail 40
    | _ => genOp P cfg s o K
  | _, _ => genOp P cfg s o K
def effPick (s : S) (o : Oper) (c a b : Operand) (K : S → T) : T := match evA s c with
  | some (.bool e) => brE s e (fun s => match ev s a with | some v => K (s.put o.dst v) | none => .fail 41) (fun s => match ev s b with | some v => K (s.put o.dst v) | none => .fail 42)
  | _ => .fail 43
def effOp (P : Program) (cfg : Cfg) (s : S) (o : Oper) (K : S → T) : T := match o.op with
  | .alloc e => match zeroL P e with
    | some l => newB s o.dst (.cells l e) (fun r => .ptr r 0) K
    | none => .fail 31
  | .box e x => match evW s x with
    | some w => newB s o.dst (.cells w.list e) (fun r => .ptr r 0) K
    | none => .fail 32
  | .makeMap _ none => newB s o.dst .emap .map K
  | .build t parts => effBuild P s o t parts K
  | .buildSlice t len parts => effSlice P s o t len parts K
  | .store t ad x => effStore P cfg s o t ad x K
  | .pick c a b => effPick s o c a b K
  | .call c => effCall P cfg s o c K
  | _ => genOp P cfg s o K
def stepO (P : Program) (cfg : Cfg) (s : S) (o : Oper) (K : S → T) : T := match pureOp P s o.op with
  | some (es, v) => needs es (fun s => K (s.put o.dst v)) s
  | none => effOp P cfg s o K
/-- An operation with its guard. -/
def guardO (ops : Array Oper) (s : S) (o : Oper) (run skip : S → T) : T := match o.guard with
  | none => run s
  | some (j, want) => match (ops[j]?).bind (·.dst) with
    | none => .fail 50
    | some d => match s.t[d]? with
      | some (some (.tup [])) => skip s
      | _ => match evA s (.tmp d) with
        | some (.bool e) => brE s e (fun s => if want then run s else skip s) (fun s => if want then skip s else run s)
        | _ => .fail 51
def notDefer : Op → Bool
  | .defer _ => false
  | _ => true
/-- A call of a function's value that is not known. -/
def callvOf (s : S) (o : Oper) : Option (Nat × List W) := match o.op with
  | .call c => match c.callee with
    | .value x => match evA s x, mapM' (evW s) c.args.toList with
      | some (.val k), some ws => some (k, ws)
      | _, _ => none
    | _ => none
  | _ => none
def callV (P : Program) (cfg : Cfg) (s : S) (o : Oper) (v : Nat) (args : List W) (K : S → T) : T :=
  let ks := reach s.h s.lk 60 (Key.a v :: cfg.vt ++ args.flatMap fun x => x.list.flatMap keysA) []
  let cons := pickH s.h ks
  let rest := s.h.filter fun x => !ks.contains x.1
  if !subH cons (s.h.filter fun x => ks.contains x.1) then .fail 23 else
  let r := shO P cfg true s.n o.type
  let rt := (Key.a v :: cfg.vt).eraseDups
  let b := backs cfg s.h r.n rt
  let nb := r.h ++ b.h ++ cons.filter fun x => !rt.contains x.1
  if s.bel && decide (b.n = s.n + (r.ss ++ b.ss).length) then
    .callv v args cons (r.ss ++ b.ss) r.v nb (K ({ s with n := b.n, h := nb ++ rest }.put o.dst r.v))
  else .fail 24
def stepV (P : Program) (cfg : Cfg) (s : S) (o : Oper) (K : S → T) : T := match callvOf s o with
  | some (v, args) => callV P cfg s o v args K
  | none => stepO P cfg s o K
def runL (P : Program) (cfg : Cfg) (ops : Array Oper) : List Oper → S → (S → T) → T
  | [], s, K => K s
  | o :: r, s, K => guardO ops s o (fun s => stepV P cfg s o fun s => runL P cfg ops r s K) (fun s => runL P cfg ops r (s.put o.dst (.tup [])) K)

/-! ### a region that draws its order -/
/-- What a region hands over, as far as it is seen ahead. -/
def touch1 (P : Program) (s : S) (o : Oper) : S × List Key := match pureOp P s o.op with
  | some (_, v) => (s.put o.dst v, [])
  | none =>
    let s' := match o.dst with
      | some d => { s with t := s.t.set d none }
      | none => s
    if isReadOp o.op && !makes P o.op then (s', [])
    else (s', reach s.h s.lk 60 ((opTmps o.op).flatMap fun t => match ev s (.tmp t) with | some v => keysV v | none => []) [])
def touches (P : Program) : List Oper → S → List (List Key)
  | [], _ => []
  | o :: r, s => (touch1 P s o).2 :: touches P r (touch1 P s o).1
/-- Chunks that no operation that has come up hands over. -/
def stabAt (ops : Array Oper) (tk : List (List Key)) (h0 : Hp) (listed : Array Bool) : Hp := h0.filter fun x => (List.range ops.size).all fun j => !listed.getD j false || !(tk.getD j []).contains x.1
/-- Chunks that no operation hands over but those of a list. -/
def stabBut (ops : Array Oper) (tk : List (List Key)) (h0 : Hp) (D : List Nat) : Hp := h0.filter fun x => (List.range ops.size).all fun j => D.contains j || !(tk.getD j []).contains x.1
/-- What waits for an operation. -/
def deps1 (ops : Array Oper) (i : Nat) : List Oper → Nat → List Nat → List Nat
  | [], _, D => D
  | o :: r, j, D => deps1 ops i r (j + 1) (if o.after.any fun e => Region.binds .any e && (e.on == i || D.contains e.on) then j :: D else D)
def depOk (ops : Array Oper) (listed : Array Bool) (tk : List (List Key)) (i : Nat) (D : List Nat) : Bool :=
  !D.contains i && decide (tk.getD i [] = []) && D.all fun j => !listed.getD j true && match ops[j]? with
    | some o => o.after.any fun e => Region.binds .any e && (e.on == i || D.contains e.on)
    | none => false
/-- Whether a guard says yes, no, or is open. -/
def guardIs (ops : Array Oper) (s : S) (o : Oper) : Option Bool := match o.guard with
  | none => some true
  | some (j, want) => match (ops[j]?).bind (·.dst) with
    | none => none
    | some d => match s.t[d]? with
      | some (some (.tup [])) => some false
      | _ => match evA s (.tmp d) with
        | some (.bool e) => (knows s.kn e).map fun b => b == want
        | _ => none
def mayFirst (P : Program) (ops : Array Oper) (s : S) (o : Oper) : Bool := match guardIs ops s o with
  | none => false
  | some false => true
  | some true => (pureOp P s o.op).isSome
def firstFree (P : Program) (ops : Array Oper) (tk : List (List Key)) (h0 : Hp) (listed : Array Bool) (s : S) : List Nat → Option (Nat × Oper × List Nat)
  | [] => none
  | i :: r => match ops[i]? with
    | none => none
    | some o => if Region.free .any ops listed i then
        if depOk ops listed tk i [] && mayFirst P ops { s with h := stabBut ops tk h0 [] } o then some (i, o, [])
        else
          let D := deps1 ops i ops.toList 0 []
          if depOk ops listed tk i D && mayFirst P ops { s with h := stabBut ops tk h0 D } o then some (i, o, D) else firstFree P ops tk h0 listed s r
      else firstFree P ops tk h0 listed s r
def allT (f : Nat → T) : List Nat → T
  | [] => .fail 64
  | [i] => f i
  | i :: r => .all (f i) (allT f r)
/-- The guard of an operation, where it is open. -/
def guardE (ops : Array Oper) (s : S) (i : Nat) : Option E := match ops[i]? with
  | none => none
  | some o => match o.guard with
    | none => none
    | some (j, _) => match (ops[j]?).bind (·.dst) with
      | none => none
      | some d => match evA s (.tmp d) with
        | some (.bool e) => if (knows s.kn e).isSome then none else some e
        | _ => none
/-- Guards that are open are told apart ahead. -/
def splitG (ops : Array Oper) : List Nat → S → (S → T) → T
  | [], s, K => K s
  | i :: r, s, K => match guardE ops s i with
    | some e => brE s e (fun s => splitG ops r s K) (fun s => splitG ops r s K)
    | none => splitG ops r s K
def stepD (P : Program) (cfg : Cfg) (ops : Array Oper) (tk : List (List Key)) (h0 : Hp) (listed : Array Bool) (rs : List Nat) (rec : Array Bool → S → T) (s : S) : T :=
  match firstFree P ops tk h0 listed s rs with
  | some (i, o, D) => guardO ops s o (fun s => match pureOp P { s with h := stabBut ops tk h0 D } o.op with
      | some (es, v) => needs es (fun s => rec (listed.setIfInBounds i true) (s.put o.dst v)) s
      | none => .fail 61)
    (fun s => rec (listed.setIfInBounds i true) (s.put o.dst (.tup [])))
  | none => allT (fun i => match ops[i]? with
        | none => .fail 62
        | some o => guardO ops s o (fun s => stepO P cfg s o fun s => if (stabAt ops tk h0 (listed.setIfInBounds i true)).all (fun x => s.h.contains x) then rec (listed.setIfInBounds i true) s else .fail 63)
            (fun s => rec (listed.setIfInBounds i true) (s.put o.dst (.tup [])))) rs
def runD (P : Program) (cfg : Cfg) (ops : Array Oper) (tk : List (List Key)) (h0 : Hp) : Nat → Array Bool → S → (S → T) → T
  | 0, listed, s, K => if Region.ready .any ops listed = [] then K s else .fail 60
  | fuel + 1, listed, s, K =>
    let rs := Region.ready .any ops listed
    if rs = [] then K s
    else if (firstFree P ops tk h0 listed s rs).isSome then stepD P cfg ops tk h0 listed rs (fun l s => runD P cfg ops tk h0 fuel l s K) s
    else splitG ops rs s fun s => stepD P cfg ops tk h0 listed rs (fun l s => runD P cfg ops tk h0 fuel l s K) s

/-! ### loops -/
def assigned : Code → List Tmp
  | .region _ ops _ => ops.toList.filterMap (·.dst)
  | .seq a b => assigned a ++ assigned b
  | .cond _ a b => assigned a ++ assigned b
  | .block _ b => assigned b
  | .loop b => assigned b
  | .rangeFunc _ _ a b => assigned a ++ assigned b
  | .scope b => assigned b
  | _ => []
def refL (n : Nat) : A → Fresh
  | .ptr _ _ => ⟨[.n], [.ptr (.v n) 0], [], n + 1⟩
  | .sl .nil _ _ => ⟨[.a, .n, .n, .p], [.sl (.v n) (.v (n + 1)) (.v (n + 2))], [(.a n, .prop (n + 3))], n + 4⟩
  | .sl _ _ _ => ⟨[.a, .n, .n], [.sl (.v n) (.v (n + 1)) (.v (n + 2))], [], n + 3⟩
  | .map _ => ⟨[.n], [.map (.v n)], [], n + 1⟩
  | x => refA n x
def refLs (n : Nat) : List A → Fresh
  | [] => ⟨[], [], [], n⟩
  | x :: r =>
    let a := refL n x
    let b := refLs a.n r
    ⟨a.ss ++ b.ss, a.l ++ b.l, a.h ++ b.h, b.n⟩
def W.like : W → List A → W
  | .a _, [x] => .a x
  | .a x, _ => .a x
  | .agg _, l => .agg l
/-- Which old part has which new name. -/
def renA (x y : A) : List (Key × Key) := match keysA x, keysA y with
  | [k], [q] => if k = q then [] else [(k, q)]
  | _, _ => []
def renAs : List A → List A → List (Key × Key)
  | x :: r, y :: q => renA x y ++ renAs r q
  | _, _ => []
structure Head where
  s : S
  ss : List So
  ren : List (Key × Key)
  ex : Hp := []
def headT : List Tmp → Head → Head
  | [], hd => hd
  | t :: r, hd => match hd.s.t[t]? with
    | some (some (.w w)) =>
      let f := refLs hd.s.n w.list
      headT r ⟨{ hd.s with n := f.n, t := hd.s.t.set t (some (.w (w.like f.l))) }, hd.ss ++ f.ss, hd.ren ++ renAs w.list f.l, hd.ex ++ f.h⟩
    | some (some (.tup _)) => headT r { hd with s := { hd.s with t := hd.s.t.set t none } }
    | _ => headT r hd
def renK (ren : List (Key × Key)) (k : Key) : Key := match ren.find? (·.1 = k) with
  | some x => x.2
  | none => k
def headH (hv : List Key) : Hp → Head → Hp → Head
  | [], hd, acc => { hd with s := { hd.s with h := acc } }
  | (k, c) :: r, hd, acc =>
    if hv.contains k then match c with
      | .cells l ty =>
        let f := refLs hd.s.n l
        headH hv r ⟨{ hd.s with n := f.n }, hd.ss ++ f.ss, hd.ren ++ renAs l f.l, hd.ex ++ f.h⟩ (acc ++ [(k, .cells f.l ty)])
      | _ => headH hv r ⟨{ hd.s with n := hd.s.n + 1 }, hd.ss ++ [.p], hd.ren, hd.ex⟩ (acc ++ [(k, .prop hd.s.n)])
    else headH hv r hd (acc ++ [(k, c)])
def dedup : List Tmp → List Tmp → List Tmp
  | [], acc => acc
  | t :: r, acc => dedup r (if acc.contains t then acc else acc ++ [t])
def headOf (cfg : Cfg) (body : Code) (s : S) : Head :=
  let hv := match cfg.hv.find? (·.1 == s.blk) with
    | some x => x.2
    | none => []
  let a := headT (dedup (assigned body) []) ⟨s, [], [], []⟩
  let b := headH hv s.h a []
  let ren := b.ren
  let lk2 := ren.flatMap fun x => match x.2 with
    | .b (.v j) => (linkOf s.lk x.1).map fun q => (j, renK ren q)
    | .a j => (linkOf s.lk x.1).map fun q => (j, renK ren q)
    | _ => []
  { b with s := { b.s with h := (b.s.h.filterMap fun x => if (ren.any (·.1 = x.1)) && !hv.contains x.1 then none else some (renK ren x.1, x.2)) ++ b.ex, dp := s.dp + 1, lk := lk2 ++ s.lk } }
/-- What stands for what is new, at another state. -/
def fitA (base : Nat) : A → A → Option (List (Nat × FV))
  | .int k (.v j), .int k' e => if base ≤ j ∧ k = k' then some [(j, .e (.o1 .neg (.o1 .neg e)))] else some []
  | .bool (.v j), .bool e => if base ≤ j then some [(j, .e (.o1 .not (.o1 .not e)))] else some []
  | .str (.v j), .str e => if base ≤ j then some [(j, .e (.o2 .cat e (.s [])))] else some []
  | .ptr (.v j) _, .ptr r _ => if base ≤ j then some [(j, .n r)] else some []
  | .sl (.v j) _ _, .sl s l c => if base ≤ j then some [(j, .a s), (j + 1, .e (.o2 .nadd l (.n 0))), (j + 2, .e (.o2 .nadd c (.n 0)))] else some []
  | .map (.v j), .map r => if base ≤ j then some [(j, .n r)] else some []
  | .val j, x => if base ≤ j then some [(j, .v x)] else some []
  | _, _ => some []
def fitAs (base : Nat) : List A → List A → List (Nat × FV)
  | x :: r, y :: q => ((fitA base x y).getD []) ++ fitAs base r q
  | _, _ => []
def fitTs (base : Nat) : List (Option V) → List (Option V) → List (Nat × FV)
  | some (.w x) :: r, some (.w y) :: q => fitAs base x.list y.list ++ fitTs base r q
  | _ :: r, _ :: q => fitTs base r q
  | _, _ => []
def lookF (l : List (Nat × FV)) (j : Nat) : Option FV := (l.find? (·.1 == j)).map (·.2)
def keyTo (base : Nat) (l : List (Nat × FV)) : Key → Key
  | .b (.v j) => if base ≤ j then match lookF l j with
      | some (.n r) => .b r
      | _ => .b (.v j)
    else .b (.v j)
  | .a j => if base ≤ j then match lookF l j with
      | some (.a (.v m)) => .a m
      | some (.a (.b r _)) => .b r
      | some (.v x) => ((keysA x).head?).getD (.a j)
      | _ => .a j
    else .a j
  | k => k
def fitHc (base : Nat) (s : S) (l : List (Nat × FV)) : Hp → List (Nat × FV)
  | [] => l
  | (k, .cells c _) :: r => match findC s.h (keyTo base l k) with
    | some (.cells d _) => fitHc base s (l ++ fitAs base c d) r
    | _ => fitHc base s l r
  | _ :: r => fitHc base s l r
def fitHp (base : Nat) (s : S) (l : List (Nat × FV)) : Hp → List (Nat × FV)
  | [] => l
  | (k, .prop j) :: r => if base ≤ j then
      let ks := reach s.h (if (findC s.h (keyTo base l k)).isSome then [] else s.lk) 60 [keyTo base l k] []
      fitHp base s (l ++ [(j, .p (pickH s.h ks))]) r
    else fitHp base s l r
  | _ :: r => fitHp base s l r
def fitS (base : Nat) (hd : S) (s : S) : List FV :=
  let a := fitTs base hd.t s.t
  let b := fitHc base s a hd.h
  let c := fitHp base s b hd.h
  (List.range' base (hd.n - base)).map fun j => (lookF c j).getD (.n (.g 0))
/-- A cell of the head's, and what stands there. -/
def okA (base : Nat) (fr : List FV) (x y : A) : Bool := (decide (x = y) && x.bel base) || match x, y with
  | .int k (.v j), .int k' e => decide (base ≤ j) && decide (k = k') && decide (fr[j - base]? = some (.e (.o1 .neg (.o1 .neg e))))
  | .bool (.v j), .bool e => decide (base ≤ j) && decide (fr[j - base]? = some (.e (.o1 .not (.o1 .not e))))
  | .str (.v j), .str e => decide (base ≤ j) && decide (fr[j - base]? = some (.e (.o2 .cat e (.s []))))
  | .ptr (.v j) o, .ptr r o' => decide (base ≤ j) && decide (o = o') && decide (fr[j - base]? = some (.n r))
  | .sl (.v j) (.v j1) (.v j2), .sl s l c => decide (base ≤ j) && decide (base ≤ j1) && decide (base ≤ j2) && decide (fr[j - base]? = some (.a s)) && decide (fr[j1 - base]? = some (.e (.o2 .nadd l (.n 0)))) && decide (fr[j2 - base]? = some (.e (.o2 .nadd c (.n 0))))
  | .map (.v j), .map r => decide (base ≤ j) && decide (fr[j - base]? = some (.n r))
  | .val j, x => decide (base ≤ j) && decide (fr[j - base]? = some (.v x))
  | _, _ => false
def okAs (base : Nat) (fr : List FV) : List A → List A → Bool
  | [], [] => true
  | x :: r, y :: q => okA base fr x y && okAs base fr r q
  | _, _ => false
def okW (base : Nat) (fr : List FV) : W → W → Bool
  | .a x, .a y => okA base fr x y
  | .agg l, .agg m => okAs base fr l m
  | _, _ => false
def okT (base : Nat) (fr : List FV) : List (Option V) → List (Option V) → Bool
  | [], [] => true
  | none :: r, _ :: q => okT base fr r q
  | some (.w x) :: r, some (.w y) :: q => okW base fr x y && okT base fr r q
  | some (.tup x) :: r, some (.tup y) :: q => decide (x = y) && x.all (W.bel base) && okT base fr r q
  | _, _ => false
def okK (base : Nat) (fr : List FV) : Key → Key → Bool
  | .b (.v j), .b r => if base ≤ j then decide (fr[j - base]? = some (.n r)) else decide (r = .v j)
  | .b (.g n), .b r => decide (r = .g n)
  | .a j, k => if base ≤ j then match fr[j - base]? with
      | some (.a (.v m)) => decide (k = .a m)
      | some (.a (.b r _)) => decide (k = .b r)
      | _ => false
    else decide (k = .a j)
  | _, _ => false
def isB : Key → Bool
  | .b _ => true
  | .a _ => false
/-- What the head's heap is made of, at another state. -/
def partsH (base : Nat) (fr : List FV) (h : Hp) : Hp → Option Hp
  | [] => some []
  | (k, c) :: r => match partsH base fr h r with
    | none => none
    | some l => match c with
      | .cells x ty => match h.find? (fun y => isB k && okK base fr k y.1 && (match y.2 with | .cells z ty' => okAs base fr x z && decide (ty = ty') | _ => false)) with
        | some y => some (y :: l)
        | none => none
      | .emap => if k.bel base && h.contains (k, .emap) then some ((k, .emap) :: l) else none
      | .dfr => if k.bel base && h.contains (k, .dfr) then some ((k, .dfr) :: l) else none
      | .prop j => if base ≤ j then match fr[j - base]? with
          | some (.p q) => some (q ++ l)
          | _ => none
        else if k.bel base && h.contains (k, .prop j) then some ((k, .prop j) :: l) else none
def FV.so : FV → List So
  | .n _ => [.n]
  | .a _ => [.a]
  | .v _ => [.v]
  | .p _ => [.p]
  | .e (.o1 .neg _) => [.i]
  | .e (.o1 .not _) => [.c]
  | .e (.o2 .cat _ _) => [.s]
  | .e (.o2 .nadd _ _) => [.n]
  | .e _ => []
def okS (base : Nat) (ss : List So) (hd s : S) (fr : List FV) : Bool :=
  okT base fr hd.t s.t && (match partsH base fr s.h hd.h with
    | some l => nodupH l && l.all (fun x => s.h.contains x)
    | none => false) && decide (fr.flatMap FV.so = ss) && decide (fr.length = ss.length) && decide (hd.n = base + ss.length) && hd.kn.all (fun x => x.1.bel base) && (decide (hd.df = s.df) && hd.df.all (BR.bel base))

/-- What of a head's heap is not as it was (told where a loop fails). -/
def diffH (base : Nat) (fr : List FV) (h : Hp) (m : Hp) : Hp := m.filter fun x => (partsH base fr h [x]).isNone
/-! ### code -/
inductive Ex where
  | norm | exit (id : Nat) | ret
/-- A range over a function: what goes where. -/
structure Rg where
  s1 : S
  c : Hp
  rest : Hp
  shk : List Key
  hd : Head
  fr : List FV
  pss : List So
  pvs : List W
  pch : Hp
  pn : Nat
def headR (hv : List Key) (rest : Hp) (s : S) : Head :=
  let b := headH hv rest ⟨{ s with h := [] }, [], [], []⟩ []
  let ren := b.ren
  let lk2 := ren.flatMap fun x => match x.2 with
    | .b (.v j) => (linkOf s.lk x.1).map fun q => (j, renK ren q)
    | .a j => (linkOf s.lk x.1).map fun q => (j, renK ren q)
    | _ => []
  { b with s := { b.s with t := s.t, kn := s.kn, h := (b.s.h.filterMap fun x => if (ren.any (·.1 = x.1)) && !hv.contains x.1 then none else some (renK ren x.1, x.2)) ++ b.ex, dp := s.dp + 1, lk := lk2 ++ s.lk, df := [] } }
def lookL {α : Type} (l : List (Nat × List α)) (b : Nat) : List α := match l.find? (·.1 == b) with
  | some x => x.2
  | none => []
def Rg.head (r : Rg) : S := r.hd.s
def Rg.start (r : Rg) : S := { r.s1 with h := r.rest, df := [] }
def rgOf (P : Program) (cfg : Cfg) (s : S) (gv : A) : Rg :=
  let s1 : S := { s with n := s.n + 1, h := (.b (.v s.n), .dfr) :: s.h, df := .v s.n :: s.df }
  let shk := lookL cfg.shr s.blk
  let ks := reach s.h s.lk 60 (keysA gv) []
  let c := s1.h.filter fun x => ks.contains x.1 && !shk.contains x.1
  let rest := s1.h.filter fun x => !(ks.contains x.1 && !shk.contains x.1)
  let hd := headR (lookL cfg.hv s.blk) rest s1
  let p := shTs P cfg true hd.s.n (lookL cfg.pty s.blk)
  ⟨s1, c, rest, shk, hd, fitS s1.n hd.s { s1 with h := rest, df := [] }, p.1, p.2.1, p.2.2.1, p.2.2.2⟩
def setPs (t : List (Option V)) (ps : List Tmp) (ws : List W) : List (Option V) := (ps.zip ws).foldl (fun t x => t.set x.1 (some (.w x.2))) t
def Rg.round (r : Rg) (ps : List Tmp) : S := { r.hd.s with n := r.pn, h := r.pch ++ r.hd.s.h, t := setPs r.hd.s.t ps r.pvs }
def Rg.ok (r : Rg) (gv : A) (rd : Bool) (s : S) (ps : List Tmp) : Bool :=
  !rd && (gv.bel s.n && hbel r.s1.n r.c) && s.bel && okS r.s1.n r.hd.ss r.hd.s r.start r.fr && r.hd.s.bel && decide (r.pn = r.hd.s.n + r.pss.length) && decide (r.pvs.length = ps.length)
def isFn : A → Bool
  | .func _ _ => true
  | .val _ => true
  | _ => false
/-- The state at a round's end, as the next round's beginning is. -/
def Rg.endS (r : Rg) (s : S) : S := { s with t := r.hd.s.t }
/-- The state behind the loop, when a round has left it; when it has come to its end. -/
def Rg.leftS (r : Rg) (s : S) : S := { s with t := r.s1.t, h := r.c ++ s.h, df := r.s1.df }
def Rg.doneS (r : Rg) (s : S) : S := { r.hd.s with h := r.c ++ r.hd.s.h, df := r.s1.df, dp := s.dp }
def exec (P : Program) (cfg : Cfg) (rd : Bool) : Code → S → (Ex → S → T) → T
  | .skip, s, K => K .norm s
  | .region _ ops false, s, K => if ops.all (fun o => notDefer o.op) then runL P cfg ops ops.toList s fun s => K .norm s else .fail 66
  | .region _ ops true, s, K =>
    if nodupH s.h && hbel s.n s.h && Region.noSelect ops && ops.all (fun o => notDefer o.op) then
      runD P cfg ops (touches P ops.toList s) s.h ops.size (Array.replicate ops.size false) s fun s => K .norm s
    else .fail 65
  | .seq a b, s, K => exec P cfg rd a s fun e s => match e with
    | .norm => exec P cfg rd b s K
    | e => K e s
  | .cond c a b, s, K => match evA s c with
    | some (.bool e) => brE s e (fun s => exec P cfg rd a s K) (fun s => exec P cfg rd b s K)
    | _ => .fail 70
  | .block id b, s, K => exec P cfg rd b { s with blk := id } fun e s => match e with
    | .exit i => if i = id then K .norm s else K (.exit i) s
    | e => K e s
  | .loop b, s, K =>
    let hd := headOf cfg b s
    let fr := fitS s.n hd.s s
    if okS s.n hd.ss hd.s s fr && s.bel && decide (hd.s.kn = s.kn) && decide (hd.s.dp = s.dp + 1) then
      .loop hd.ss fr (exec P cfg rd b hd.s fun e s2 => match e with
        | .norm =>
          let fr2 := fitS s.n hd.s s2
          if okS s.n hd.ss hd.s s2 fr2 then .again (s2.dp - hd.s.dp) fr2 else .all (.fail (8000 + s.blk)) (.ret (.tup []) (diffH s.n fr2 s2.h hd.s.h))
        | e => K e s2)
    else .fail 81
  | .rangeFunc g ps asg b, s, K => match evA s g with
    | none => .fail 82
    | some gv =>
      let r := rgOf P cfg s gv
      if r.ok gv rd s ps.toList then
        .new (.rangef gv r.c (r.hd.s.h.filter fun x => r.shk.contains x.1) r.hd.ss r.fr r.pss r.pvs r.pch
          (exec P cfg true asg (r.round ps.toList) fun x sA => match x with
            | .norm => exec P cfg true b sA fun x s2 => match x with
              | .norm =>
                let fr2 := fitS r.s1.n r.hd.s (r.endS s2)
                if okS r.s1.n r.hd.ss r.hd.s (r.endS s2) fr2 then .again (s2.dp - r.hd.s.dp) fr2 else .all (.fail (8000 + s.blk)) (.ret (.tup []) (diffH r.s1.n fr2 s2.h r.hd.s.h))
              | x => K x (r.leftS s2)
            | _ => .fail 84)
          (K .norm (r.doneS s)))
      else .all (.fail 85) (.ret (.tup []) (diffH r.s1.n r.fr r.rest r.hd.s.h))
  | .exit id, s, K => K (.exit id) s
  | .ret, s, K => K .ret s
  | _, _, _ => .fail 90
def resOf (P : Program) (s : S) : ResultVar → Option W
  | .tmp t => match ev s (.tmp t) with
    | some (.w x) => some x
    | _ => none
  | .cell a t => match evA s (.tmp a) with
    | some (.ptr r off) => match findC s.h (.b r) with
      | some (.cells l _) => partA P t l off
      | _ => none
    | _ => none
def leaveV (v : V) (ks : List Key) (s : S) : T :=
  let h := pickH s.h (reach s.h [] 200 (ks ++ keysV v) [])
  if subH h s.h then .ret v h else .fail 98
def leave (P : Program) (fn : Func) (ks : List Key) (s : S) : T := match mapM' (resOf P s) fn.results.toList with
  | some [x] => leaveV (.w x) ks s
  | some l => leaveV (.tup l) ks s
  | none => .fail 95
/-- The blocks for deferred calls, none of which has come. -/
def isDf (df : List BR) (x : Key × C) : Bool := df.any fun r => decide (x = (.b r, .dfr))
def nodupR : List BR → Bool
  | [] => true
  | x :: r => !r.contains x && nodupR r
def dfOk (s : S) : Bool := nodupR s.df && s.df.all fun r => s.h.contains (.b r, .dfr)
def leaveS (s : S) : S := { s with h := s.h.filter fun x => !isDf s.df x, df := [] }
def leaveD (P : Program) (fn : Func) (ks : List Key) (s : S) : T := if dfOk s then leave P fn ks (leaveS s) else .fail 99
/-- The tree of a function at some arguments, over some heap. -/
def tree (P : Program) (cfg : Cfg) (fn : Func) (args : List W) (h : Hp) (n : Nat) : T := match fn.body with
  | some c => exec P cfg false c ⟨args.map (fun w => some (.w w)) ++ List.replicate (fn.ntmps - args.length) (some (.tup [])), h, n, [], [], 0, 0, []⟩ fun e s => match e with
    | .norm => leaveD P fn (h.map (·.1)) s
    | .ret => leaveD P fn (h.map (·.1)) s
    | .exit _ => .fail 96
  | none => .fail 97
end Go.Proofs.Ytmibmjehjagmbaa.RX
