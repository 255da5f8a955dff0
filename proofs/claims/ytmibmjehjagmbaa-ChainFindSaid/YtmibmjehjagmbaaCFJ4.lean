/- Texts of this claim, joined: LawA, LawB, LawC, LawD, TrChain, ChainA, ChainB, ChainC, ChainD, ChainE. No condition. -/
import Derived.Test.YtmibmjehjagmbaaCFJ1
import Derived.Test.YtmibmjehjagmbaaCFJ3
import Derived.KernelRfl
import Derived.Lib.BufferRead
set_option linter.unusedSimpArgs false
set_option linter.unusedVariables false
/- Contracts of what the laws compare with; a list of messages that came in. No condition. -/
namespace Go.Proofs.Ytmibmjehjagmbaa
set_option linter.unusedSimpArgs false
set_option linter.unusedVariables false
open Go.Proofs.Ytmibmjehjagmbaa RX

theorem same01_ok (a : Option Addr) (n c : Nat) (la : List UInt8) (b : Option Addr) (m d : Nat) (lb : List UInt8) (Sa Sb : HP) (hA : RdL Sa a n (la.map u8v)) (hB : RdL Sb b m (lb.map u8v)) (hla : la.length = n) (hlb : lb.length = m) (hn : n ≤ 140737488355328) :
    Tri Try.prog 68 #[.slice a n c, .slice b m d] (HP.sep Sa Sb) (fun v => HP.and (v = .bool (decide (la = lb))) (HP.sep Sa Sb)) := by
  refine Tri.fact (φ := (n ≠ 0 → a.isSome = true) ∧ (m ≠ 0 → b.isSome = true)) (fun R h H => ⟨fun hn => ?_, fun hn => ?_⟩) fun ⟨ha, hb⟩ => ?_
  · cases a with
    | some x => rfl
    | none => exact absurd (hA.none R h (HP.sep_left H) rfl) hn
  · cases b with
    | some x => rfl
    | none => exact absurd (hB.none R h (HP.sep_right H) rfl) hn
  refine tri_of_tree (ρ := [.a a, .n n, .n c, .p Sa, .a b, .n m, .n d, .p Sb]) mixed Try.func68 tree_same01 ?_
  unfold t_same01
  simp only [T.den, E.prop, E.den, RX.look, F1.app, F2.app, Uni.int_i, Uni.nat_n, Uni.bool_c, Uni.str_s, Uni.adr_a, Uni.val_v, Uni.hp_p, hden, cden, V.den, W.den, A.den, BR.den, SA.den, FV.den, capV, exs, exP, allP, Cur.app, List.map_cons, List.map_nil, List.cons_append, List.nil_append, List.drop_succ_cons, List.drop_zero, List.length_cons, List.length_nil, Nat.zero_add, Nat.reduceAdd, Int.neg_neg, Bool.not_not, List.append_nil, Nat.add_zero, List.getElem?_cons_zero, List.getElem?_cons_succ, Decidable.not_not]
  refine ⟨fun h => .of fun R h' H => ⟨?_, H⟩, fun h => ?_⟩
  · rw [decide_eq_false]
    intro e; subst e; omega
  have hnm : n = m := by omega
  subst hnm
  refine ⟨fun _ i => ∃ k : Nat, i = k ∧ k ≤ n ∧ la.take k = lb.take k, fun _ i => n - i.toNat, ⟨0, rfl, Nat.zero_le _, rfl⟩, ?_⟩
  rintro x _ ⟨k, rfl, hk, hpre⟩
  refine ⟨fun hlt => ⟨by omega, fun _ => ⟨ha (by omega), fun _ => ⟨by omega, fun _ => ⟨hb (by omega), fun _ => ?_⟩⟩⟩⟩, fun hge => .of fun R h' H => ⟨?_, H⟩⟩
  · have hka : k < la.length := by omega
    have hkb : k < lb.length := by omega
    have ga : la[k]? = some la[k] := List.getElem?_eq_getElem hka
    have gb : lb[k]? = some lb[k] := List.getElem?_eq_getElem hkb
    have ra := load1_ok und8b agg8 sz8 hA.rd (k := (k : Int).toNat * 1) (off := 0) (v := u8v la[k]) (by simp [ga])
    have rb := load1_ok und8b agg8 sz8 hB.rd (k := (k : Int).toNat * 1) (off := 0) (v := u8v lb[k]) (by simp [gb])
    have no : ¬ (la[k].toNat : Int) = (lb[k].toNat : Int) → decide (la = lb) = false := fun h => by
      rw [decide_eq_false]
      intro e; subst e; exact h rfl
    have yes : (la[k].toNat : Int) = (lb[k].toNat : Int) → la.take (k + 1) = lb.take (k + 1) := fun h => by
      rw [List.take_succ_eq_append_getElem hka, List.take_succ_eq_append_getElem hkb, hpre]
      have : la[k] = lb[k] := UInt8.toNat_inj.1 (by omega)
      rw [this]
    refine ⟨⟨_, ra, _, rb, fun h1 => .of fun R h' H => ⟨by rw [no h1], H⟩, fun h1 => ⟨inI64 _ (by omega) (by omega), fun _ => ⟨⟨k + 1, by omega, by omega, yes h1⟩, by dsimp only; omega⟩⟩⟩,
      ⟨_, rb, _, ra, fun h1 => .of fun R h' H => ⟨by rw [no h1], H⟩, fun h1 => ⟨inI64 _ (by omega) (by omega), fun _ => ⟨⟨k + 1, by omega, by omega, yes h1⟩, by dsimp only; omega⟩⟩⟩⟩
  · have hke : k = n := by omega
    subst hke
    rw [List.take_of_length_le (by omega), List.take_of_length_le (by omega)] at hpre
    rw [decide_eq_true hpre]
theorem sameCell_ok (w1 : Int) (a : Option Addr) (n c : Nat) (la : List UInt8) (w2 : Int) (b : Option Addr) (m d : Nat) (lb : List UInt8) (Sa Sb : HP) (hA : RdL Sa a n (la.map u8v)) (hB : RdL Sb b m (lb.map u8v)) (hla : la.length = n) (hlb : lb.length = m) (hn : n ≤ 140737488355328) :
    Tri Try.prog 21 #[.agg #[.int .i64 w1, .slice a n c], .agg #[.int .i64 w2, .slice b m d]] (HP.sep Sa Sb) (fun v => HP.and (v = .bool (decide (w1 = w2 ∧ la = lb))) (HP.sep Sa Sb)) := by
  refine tri_of_tree (ρ := [.i w1, .a a, .n n, .n c, .p Sa, .i w2, .a b, .n m, .n d, .p Sb]) mixed Try.func21 tree_sameCell ?_
  unfold t_sameCell
  simp only [T.den, E.prop, E.den, RX.look, F1.app, F2.app, Uni.int_i, Uni.nat_n, Uni.bool_c, Uni.str_s, Uni.adr_a, Uni.val_v, Uni.hp_p, hden, cden, V.den, W.den, A.den, BR.den, SA.den, FV.den, capV, exs, exP, allP, Cur.app, List.map_cons, List.map_nil, List.cons_append, List.nil_append, List.drop_succ_cons, List.drop_zero, List.length_cons, List.length_nil, Nat.zero_add, Nat.reduceAdd, Int.neg_neg, Bool.not_not, List.append_nil, Nat.add_zero, List.getElem?_cons_zero, List.getElem?_cons_succ, Decidable.not_not]
  refine fun x y => ⟨fun h => ?_, fun h => .of fun R h' H => ⟨?_, H⟩⟩
  · refine (same01_ok a n c la b m d lb Sa Sb hA hB hla hlb hn).weak (fun _ _ h => h) ?_
    rintro v R h' ⟨rfl, H⟩
    refine ⟨_, rfl, .of fun R h' H => ⟨?_, H⟩, H⟩
    simp [h]
  · simp [h]
theorem semOf_eqB {ρ : Env} {i j : Nat} {ty u : TypeId} {x y : V} (h : i ≠ j) {r q r' q' : Int} (hx : x.den ρ = .agg #[.int .i64 r, .int .i64 q]) (hy : y.den ρ = .agg #[.int .i64 r', .int .i64 q']) {A : HP} :
    ORead Try.prog (semOf ρ (.binOp .eql 34 (.tmp i) (.tmp j) u) ty [(i, x), (j, y)]) A (.bool (decide (r = r') && decide (q = q'))) := fun w R hh F s _ => by
  have h' : (i == j) = false := by simpa using h
  have hg : Try.prog.eqGuardType Try.prog.depth 34 = false := by kernel_rfl
  simp only [semOf, execOp, arEval, List.find?_cons, beq_self_eq_true, h', hx, hy]
  simp [eqGuard, binOp, hg, program, Sem.run_bind, Sem.run, Result.andThen, run_ballot_eq]
set_option maxRecDepth 100000 in
theorem same12_ok (m1 m2 : MS) (ca1 : Option Addr) (cc1 : Nat) (va1 : Option Addr) (vc1 : Nat) (ca2 : Option Addr) (cc2 : Nat) (va2 : Option Addr) (vc2 : Nat) (hn : m1.cell.data.length ≤ 140737488355328) (hv : m1.val.length ≤ 140737488355328) :
    Tri Try.prog 46 #[.agg (m1.raw ca1 cc1 va1 vc1).vals, .agg (m2.raw ca2 cc2 va2 vc2).vals] (HP.sep (m1.Dro ca1) (HP.sep (m1.Vro va1) (HP.sep (m2.Dro ca2) (m2.Vro va2))))
    (fun v => HP.ex fun b => HP.and (v = .bool b ∧ (m1 = m2 → b = true)) (HP.sep (m1.Dro ca1) (HP.sep (m1.Vro va1) (HP.sep (m2.Dro ca2) (m2.Vro va2))))) := by
  refine tri_of_tree (ρ := [.i m1.fr, .i m1.to, .i m1.num, .c m1.rep, .i m1.kind, .i m1.ep, .i m1.at', .i m1.cell.what, .a ca1, .n m1.cell.data.length, .n cc1, .p (m1.Dro ca1), .i m1.br, .i m1.bw, .a va1, .n m1.val.length, .n vc1, .p (m1.Vro va1), .i m1.err, .i m1.tail, .i m1.low, .i m1.back,
    .i m2.fr, .i m2.to, .i m2.num, .c m2.rep, .i m2.kind, .i m2.ep, .i m2.at', .i m2.cell.what, .a ca2, .n m2.cell.data.length, .n cc2, .p (m2.Dro ca2), .i m2.br, .i m2.bw, .a va2, .n m2.val.length, .n vc2, .p (m2.Vro va2), .i m2.err, .i m2.tail, .i m2.low, .i m2.back]) mixed Try.func46 tree_same12 ?_
  unfold t_same12
  simp only [T.den, E.prop, E.den, RX.look, F1.app, F2.app, Uni.int_i, Uni.nat_n, Uni.bool_c, Uni.str_s, Uni.adr_a, Uni.val_v, Uni.hp_p, hden, cden, V.den, W.den, A.den, BR.den, SA.den, FV.den, capV, exs, exP, allP, Cur.app, List.map_cons, List.map_nil, List.cons_append, List.nil_append, List.drop_succ_cons, List.drop_zero, List.length_cons, List.length_nil, Nat.zero_add, Nat.reduceAdd, Int.neg_neg, Bool.not_not, List.append_nil, Nat.add_zero, List.getElem?_cons_zero, List.getElem?_cons_succ, Decidable.not_not]
  intro x y
  have no : ∀ {φ : Prop} {K K' : HP}, (∀ R h, K.p R h → K'.p R h) → (m1 = m2 → φ) → ¬ φ → HP.ent K (HP.ex fun b => HP.and (Value.bool false = .bool b ∧ (m1 = m2 → b = true)) K') := fun hk h1 h2 => .of fun R h H => ⟨false, ⟨rfl, fun e => absurd (h1 e) h2⟩, hk R h H⟩
  have id' : ∀ {K : HP} (R h : PH), K.p R h → K.p R h := fun _ _ h => h
  refine ⟨fun h => no id' (fun e => by rw [e]) h, fun _ => ⟨fun h => no id' (fun e => by rw [e]) h, fun _ => ⟨fun h => no id' (fun e => by rw [e]) h, fun _ => ⟨fun h => no id' (fun e => by rw [e]; simp) h, fun _ => ⟨fun h => no id' (fun e => by rw [e]) h, fun _ => ⟨fun h => no id' (fun e => by rw [e]) h, fun _ => ⟨fun h => no id' (fun e => by rw [e]) h, fun _ => ?_⟩⟩⟩⟩⟩⟩⟩
  refine (sameCell_ok m1.cell.what ca1 _ cc1 m1.cell.data m2.cell.what ca2 _ cc2 m2.cell.data (m1.Dro ca1) (m2.Dro ca2) (RdL.ro _ _ _ _) (RdL.ro _ _ _ _) rfl rfl hn).weak (fun _ _ h => h) ?_
  rintro v R h ⟨rfl, H⟩
  refine ⟨_, rfl, ⟨fun _ => ?_, fun h => no id' (fun e => by rw [e]; simp) h⟩, H⟩
  refine ⟨_, semOf_eqB (r := m1.br) (q := m1.bw) (r' := m2.br) (q' := m2.bw) (by decide) rfl rfl, fun _ => ?_, fun h => no id' (fun e => by rw [e]; simp) h⟩
  refine (same01_ok va1 _ vc1 m1.val va2 _ vc2 m2.val (m1.Vro va1) (m2.Vro va2) (RdL.ro _ _ _ _) (RdL.ro _ _ _ _) rfl rfl hv).weak (fun _ _ h => h) ?_
  rintro v R h ⟨rfl, H⟩
  refine ⟨_, rfl, ⟨fun _ => ?_, fun h => no id' (fun e => by rw [e]; simp) h⟩, H⟩
  refine ⟨fun _ => ⟨fun _ => ⟨fun _ => .of fun R h H => ⟨_, ⟨rfl, fun e => by rw [e]; simp⟩, H⟩, fun h => no id' (fun e => by rw [e]) h⟩, fun h => no id' (fun e => by rw [e]) h⟩, fun h => no id' (fun e => by rw [e]) h⟩
theorem forg0 : forgS s0 = s0 := by
  have h : (forgS s0).cells = s0.cells := funext fun k => by
    show (if k < s0.low then none else s0.cells k) = none
    split <;> rfl
  show ({ s0 with cells := (forgS s0).cells } : USt) = s0
  rw [h]
theorem laid14_ok (n : Int) (h1 : 1 ≤ n) (h2 : n ≤ 65536) : Tri Try.prog 44 #[.int .i64 n] HP.tt (fun v => HP.ex fun bd => HP.ex fun ub => HP.and (v = .tuple #[.pointer (some ⟨bd, 0, none⟩), .pointer (some ⟨ub, 0, none⟩)]) (HP.sep HP.tt (UD ub bd n s0 []))) := by
  refine tri_of_tree (ρ := [.i n]) mixed Try.func44 tree_laid14 ?_
  unfold t_laid14
  simp only [T.den, E.prop, E.den, RX.look, F1.app, F2.app, Uni.int_i, Uni.nat_n, Uni.bool_c, Uni.str_s, Uni.adr_a, Uni.val_v, Uni.hp_p, hden, cden, V.den, W.den, A.den, BR.den, SA.den, FV.den, capV, exs, exP, allP, Cur.app, List.map_cons, List.map_nil, List.cons_append, List.nil_append, List.drop_succ_cons, List.drop_zero, List.length_cons, List.length_nil, Nat.zero_add, Nat.reduceAdd, Int.neg_neg, Bool.not_not, List.append_nil, Nat.add_zero, List.getElem?_cons_zero, List.getElem?_cons_succ, Decidable.not_not]
  refine (dNew_ok n h1 h2).weak (fun _ _ h => h) ?_
  rintro v R h ⟨bd, rfl, H⟩
  refine ⟨bd, DRep bd n [] 0, 0, rfl, ⟨fun h => absurd rfl h, fun _ => ?_⟩, H⟩
  refine (uOpen_ok bd n [] 0 s0 rfl).weak (fun _ _ h => h) ?_
  rintro v R h ⟨ub, rfl, H⟩
  refine ⟨ub, UD ub bd n s0 [], 0, HP.tt, rfl, ⟨fun h => absurd rfl h, fun _ => .of fun R h H => ⟨bd, ub, rfl, H⟩⟩, HP.sep_tt ?_⟩
  rw [forg0] at H
  exact H

/-! messages that came in -/
structure RM where
  ms : MS
  ca : Option Addr
  cc : Nat
  va : Option Addr
  vc : Nat
abbrev RM.vals (x : RM) : Array Value := (x.ms.raw x.ca x.cc x.va x.vc).vals
def msCells (l : List RM) : List Value := l.flatMap fun x => x.vals.toList
def ListM (a : Option Addr) (n : Nat) (l : List RM) : HP :=
  ⟨fun R h => l.length = n ∧ (RoC 16 a n (msCells l)).p R h ∧ ∀ x ∈ l, (x.ms.cell.data.length ≤ 140737488355328 ∧ x.ms.val.length ≤ 140737488355328) ∧ (x.ms.Dro x.ca).p R h ∧ (x.ms.Vro x.va).p R h,
   fun lR lh ⟨h0, h1, h2⟩ => ⟨h0, (RoC _ _ _ _).mono lR lh h1, fun x hx => ⟨(h2 x hx).1, (RoC _ _ _ _).mono lR lh (h2 x hx).2.1, (RoC _ _ _ _).mono lR lh (h2 x hx).2.2⟩⟩⟩
theorem flat_get {α : Type} (f : α → List Value) (w : Nat) (hw : ∀ x, (f x).length = w) : ∀ (l : List α) (k j : Nat) (x : α), l[k]? = some x → j < w → (l.flatMap f)[k * w + j]? = (f x)[j]?
  | [], k, j, x, h, _ => by simp at h
  | y :: r, 0, j, x, h, hj => by
    simp at h; subst h
    rw [List.flatMap_cons, Nat.zero_mul, Nat.zero_add, List.getElem?_append_left (by rw [hw]; exact hj)]
  | y :: r, k + 1, j, x, h, hj => by
    rw [List.flatMap_cons, List.getElem?_append_right (by rw [hw, Nat.succ_mul]; omega), hw, show (k + 1) * w + j - w = k * w + j by rw [Nat.succ_mul]; omega]
    exact flat_get f w hw r k j x (by simpa using h) hj
theorem ListM.load {a : Option Addr} {n : Nat} {l : List RM} {k : Nat} {x : RM} (hk : l[k]? = some x) : ORead Try.prog (loadS 80 (.pointer (a.map fun y => (y.add ((k : Int).toNat * 16)).add 0))) (ListM a n l) (.agg x.vals) := by
  obtain ⟨pd, hpd⟩ : ∃ d, Try.prog.underlying 80 = some d := Option.isSome_iff_exists.1 (by kernel_rfl)
  have := loadN_ok (vs := x.vals.toList) hpd (by kernel_rfl) (Rd.imp (S := ListM a n l) (RoC.rd 16 a n (msCells l)) fun R h H => H.2.1) (k := (k : Int).toNat * 16) (off := 0) (by kernel_rfl) (by simp) fun j v hj => by
    have hlt : j < 16 := by
      have := (List.getElem?_eq_some_iff.1 hj).1
      simpa using this
    rw [Int.toNat_natCast, Nat.add_zero]
    unfold msCells
    rw [flat_get (fun x : RM => x.vals.toList) 16 (fun _ => rfl) l k j x hk hlt]
    exact hj
  simpa using this
theorem great14_ok (a : Option Addr) (n c : Nat) (l : List RM) (hn : n ≤ 140737488355328) : Tri Try.prog 43 #[.slice a n c] (ListM a n l) (fun v => HP.ex fun b => HP.and (v = .bool b ∧ (b = false → n ≤ 60)) (ListM a n l)) := by
  refine Tri.fact (φ := (n ≠ 0 → a.isSome = true) ∧ l.length = n) (fun R h H => ⟨fun hn => RoC.some H.2.1 (by omega), H.1⟩) fun ⟨ha, hl⟩ => ?_
  refine tri_of_tree (ρ := [.a a, .n n, .n c, .p (ListM a n l)]) mixed Try.func43 tree_great14 ?_
  unfold t_great14
  simp only [T.den, E.prop, E.den, RX.look, F1.app, F2.app, Uni.int_i, Uni.nat_n, Uni.bool_c, Uni.str_s, Uni.adr_a, Uni.val_v, Uni.hp_p, hden, cden, V.den, W.den, A.den, BR.den, SA.den, FV.den, capV, exs, exP, allP, Cur.app, List.map_cons, List.map_nil, List.cons_append, List.nil_append, List.drop_succ_cons, List.drop_zero, List.length_cons, List.length_nil, Nat.zero_add, Nat.reduceAdd, Int.neg_neg, Bool.not_not, List.append_nil, Nat.add_zero, List.getElem?_cons_zero, List.getElem?_cons_succ, Decidable.not_not]
  refine ⟨fun h => .of fun R h' H => ⟨true, ⟨rfl, fun e => by cases e⟩, H⟩, fun h => ?_⟩
  refine ⟨fun _ i => ∃ k : Nat, i = k ∧ k ≤ n, fun _ i => n - i.toNat, ⟨0, rfl, Nat.zero_le _⟩, ?_⟩
  rintro x _ ⟨k, rfl, hk⟩
  refine ⟨fun hlt => ⟨by omega, fun _ => ⟨ha (by omega), fun _ => ?_⟩⟩, fun hge => .of fun R h' H => ⟨false, ⟨rfl, fun _ => by omega⟩, H⟩⟩
  have hkl : k < l.length := by omega
  have hg : l[k]? = some l[k] := List.getElem?_eq_getElem hkl
  have hr := ListM.load (a := a) (n := n) hg
  refine ⟨_, _, _, _, _, _, _, _, _, _, _, _, _, _, _, _, _, _, _, _, hr, fun y => ⟨fun _ => .of fun R h' H => ⟨true, ⟨rfl, fun e => by cases e⟩, H⟩, fun _ => ⟨fun _ => .of fun R h' H => ⟨true, ⟨rfl, fun e => by cases e⟩, H⟩, fun _ => ⟨inI64 _ (by omega) (by omega), fun _ => ⟨⟨k + 1, by omega, by omega⟩, by dsimp only; omega⟩⟩⟩⟩⟩
end Go.Proofs.Ytmibmjehjagmbaa

/- What a unit replies, told plainly: the errors change nothing; the same message again. No condition. -/
namespace Go.Proofs.Ytmibmjehjagmbaa
open Go.Proofs.Ytmibmjehjagmbaa RX

theorem lastS_err {room : Int} {s : USt} {ps : List Pg} {l : List UInt8} {s' : USt} (h : (lastS room s ps l s').1 ≠ 0) : (lastS room s ps l s').2 = (s, ps) := by
  unfold lastS at h ⊢
  split
  · rfl
  · rename_i hc; rw [if_neg hc] at h; exact absurd rfl h
theorem lastS_ok {room : Int} {s : USt} {ps : List Pg} {l : List UInt8} {s' : USt} (h : (lastS room s ps l s').1 = 0) : (lastS room s ps l s').2 = (s', ps ++ [⟨1, l⟩]) := by
  unfold lastS at h ⊢
  split
  · rename_i hc; rw [if_pos hc] at h; simp at h
  · rfl
theorem writeS_err {room : Int} {s : USt} {ps : List Pg} {e a : Int} {c : CellS} : ∀ x, writeS room s ps e a c = x → x.2.1 ≠ 0 → x.2.2 = (s, ps) := fun x hx h => by
  unfold writeS at hx
  split at hx
  · subst hx; rfl
  split at hx
  · subst hx; rfl
  split at hx
  · subst hx; rfl
  split at hx
  · subst hx; rfl
  · subst hx; exact lastS_err h
theorem trimS_err {room : Int} {s : USt} {ps : List Pg} {e a : Int} : ∀ x, trimS room s ps e a = x → x.1 ≠ 0 → x.2 = (s, ps) := fun x hx h => by
  unfold trimS at hx
  split at hx
  · subst hx; rfl
  split at hx
  · subst hx; rfl
  · subst hx; exact lastS_err h
theorem sealS_err {room : Int} {s : USt} {ps : List Pg} {e : Int} : ∀ x, sealS room s ps e = x → x.1 ≠ 0 → x.2 = (s, ps) := fun x hx h => by
  unfold sealS at hx
  split at hx
  · subst hx; rfl
  split at hx
  · subst hx; rfl
  · subst hx; exact lastS_err h
theorem promiseS_err {room : Int} {s : USt} {ps : List Pg} {n r w : Int} : ∀ x, promiseS room s ps n r w = x → x.2.2.2.1 ≠ 0 → x.2.2.2.2 = (s, ps) := fun x hx h => by
  unfold promiseS at hx
  split at hx
  · subst hx; rfl
  split at hx
  · subst hx; rfl
  split at hx
  · subst hx; rfl
  split at hx
  · subst hx; rfl
  · subst hx; exact absurd rfl h
theorem acceptS_err {room : Int} {s : USt} {ps : List Pg} {n r w : Int} {l : List UInt8} : ∀ x, acceptS room s ps n r w l = x → x.1 ≠ 0 → x.2 = (s, ps) := fun x hx h => by
  unfold acceptS at hx
  split at hx
  · subst hx; rfl
  split at hx
  · subst hx; rfl
  split at hx
  · subst hx; rfl
  · subst hx; exact lastS_err h
/-- An error changes nothing. -/
theorem deedS_err {room : Int} {s : USt} {ps : List Pg} {m r : MS} : ∀ x, deedS room s ps m r = x → x.1 ≠ 0 → x.2.2 = (s, ps) := fun x hx h => by
  unfold deedS at hx
  split at hx
  · subst hx; exact writeS_err _ rfl h
  split at hx
  · subst hx; rfl
  split at hx
  · subst hx; exact trimS_err _ rfl h
  split at hx
  · split at hx
    · subst hx; rfl
    split at hx
    · subst hx; exact absurd rfl h
    · subst hx; exact sealS_err _ rfl h
  split at hx
  · split at hx <;> (subst hx; rfl)
  split at hx
  · subst hx; exact promiseS_err _ rfl h
  · subst hx; exact acceptS_err _ rfl h
theorem answerS_quiet {room : Int} {s : USt} {ps : List Pg} {m : MS} (h : (answerS room s ps m).1 = false ∨ (answerS room s ps m).2.1.err ≠ 0) : (answerS room s ps m).2.2 = (s, ps) := by
  unfold answerS at h ⊢
  split
  · rfl
  · rename_i hc
    rw [if_neg hc] at h
    simp only at h ⊢
    have h2 := h.resolve_left (by simp)
    refine deedS_err _ rfl fun e => h2 ?_
    unfold finS; rw [if_pos e]; exact e
theorem answerS_none {room : Int} {s : USt} {ps : List Pg} {m : MS} (h : (answerS room s ps m).1 = false) : (answerS room s ps m).2.1 = zMS := by
  unfold answerS at h ⊢
  split
  · rfl
  · rename_i hc; rw [if_neg hc] at h; cases h
theorem deedS_same {room : Int} {s : USt} {ps : List Pg} {m r : MS} : (deedS room s ps m r).2.1.fr = r.fr ∧ (deedS room s ps m r).2.1.to = r.to ∧ (deedS room s ps m r).2.1.num = r.num ∧ (deedS room s ps m r).2.1.rep = r.rep ∧ (deedS room s ps m r).2.1.kind = r.kind ∧ (deedS room s ps m r).2.1.ep = r.ep ∧ (deedS room s ps m r).2.1.at' = r.at' := by
  unfold deedS
  repeat' split
  all_goals exact ⟨rfl, rfl, rfl, rfl, rfl, rfl, rfl⟩
/-- A reply goes to who asked, with what was asked for. -/
theorem answerS_some {room : Int} {s : USt} {ps : List Pg} {m : MS} (h : (answerS room s ps m).1 = true) : (answerS room s ps m).2.1.rep = true ∧ (answerS room s ps m).2.1.fr = m.to ∧ (answerS room s ps m).2.1.to = m.fr ∧ (answerS room s ps m).2.1.num = m.num ∧ (answerS room s ps m).2.1.kind = m.kind ∧ (answerS room s ps m).2.1.at' = m.at' ∧ (answerS room s ps m).2.1.ep = m.ep ∧ (answerS room s ps m).2.1.low = (answerS room s ps m).2.2.1.low ∧ (answerS room s ps m).2.1.back = (answerS room s ps m).2.2.1.epoch := by
  unfold answerS at h ⊢
  split
  · rename_i hc; rw [if_pos hc] at h; cases h
  · obtain ⟨h1, h2, h3, h4, h5, h6, h7⟩ := deedS_same (room := room) (s := s) (ps := ps) (m := m) (r := repS m)
    simp only [finS]
    split <;> exact ⟨h4, h1, h2, h3, h5, h7, h6, rfl, rfl⟩
/-- How many pages a message may write. -/
theorem lastS_len {room : Int} {s : USt} {ps : List Pg} {l : List UInt8} {s' : USt} : (lastS room s ps l s').2.2.length ≤ ps.length + 1 := by
  unfold lastS; split <;> simp
theorem deedS_len {room : Int} {s : USt} {ps : List Pg} {m r : MS} : ∀ x, deedS room s ps m r = x → x.2.2.2.length ≤ ps.length + 1 := fun x hx => by
  have h := @lastS_len room s ps
  have le : ps.length ≤ ps.length + 1 := Nat.le_succ _
  have hseal : ∀ y, sealS room s ps m.ep = y → y.2.2.length ≤ ps.length + 1 := fun y hy => by
    unfold sealS at hy
    split at hy
    · subst hy; exact le
    split at hy
    · subst hy; exact le
    · subst hy; exact h
  unfold deedS at hx
  split at hx
  · subst hx
    generalize hy : writeS room s ps m.ep m.at' m.cell = y
    unfold writeS at hy
    split at hy
    · subst hy; exact le
    split at hy
    · subst hy; exact le
    split at hy
    · subst hy; exact le
    split at hy
    · subst hy; exact le
    · subst hy; exact h
  split at hx
  · subst hx; exact le
  split at hx
  · subst hx
    generalize hy : trimS room s ps m.ep m.at' = y
    unfold trimS at hy
    split at hy
    · subst hy; exact le
    split at hy
    · subst hy; exact le
    · subst hy; exact h
  split at hx
  · split at hx
    · subst hx; exact le
    split at hx
    · subst hx; exact hseal _ rfl
    · subst hx; exact hseal _ rfl
  split at hx
  · split at hx <;> (subst hx; exact le)
  split at hx
  · subst hx
    generalize hy : promiseS room s ps m.at' m.br m.bw = y
    unfold promiseS at hy
    split at hy
    · subst hy; exact le
    split at hy
    · subst hy; exact le
    split at hy
    · subst hy; exact le
    split at hy
    · subst hy; exact le
    · subst hy; simp
  · subst hx
    generalize hy : acceptS room s ps m.at' m.br m.bw m.val = y
    unfold acceptS at hy
    split at hy
    · subst hy; exact le
    split at hy
    · subst hy; exact le
    split at hy
    · subst hy; exact le
    · subst hy; exact h
theorem answerS_len {room : Int} {s : USt} {ps : List Pg} {m : MS} : (answerS room s ps m).2.2.2.length ≤ ps.length + 1 := by
  unfold answerS
  split
  · exact Nat.le_succ _
  · exact deedS_len _ rfl
/-! the same message again -/
theorem reachS_of {s s' : USt} {e a : Int} (h : s'.epoch = s.epoch) : reachE s' e a = reachE s e a := by simp [reachE, h]
theorem lessB_self (r w : Int) : lessB r w r w = false := by simp [lessB]
theorem instAt_put {s : USt} {n : Int} {x : InstS} : instAt { s with inst := fput s.inst n (some x) } n = x := by simp [instAt, fput]
/-- What is done a second time is told as the first time; but that a cell is written already. -/
theorem deed_again {room : Int} {s : USt} {ps : List Pg} {m : MS} (hroom : (ps.length : Int) + 1 < room) (h0 : (deedS room s ps m (repS m)).1 = 0) :
    (m.kind = 1 → (deedS room (deedS room s ps m (repS m)).2.2.1 (deedS room s ps m (repS m)).2.2.2 m (repS m)).1 = 10 ∧ (deedS room (deedS room s ps m (repS m)).2.2.1 (deedS room s ps m (repS m)).2.2.2 m (repS m)).2.1.cell = m.cell) ∧
    (m.kind ≠ 1 → (deedS room (deedS room s ps m (repS m)).2.2.1 (deedS room s ps m (repS m)).2.2.2 m (repS m)).1 = 0 ∧ (deedS room (deedS room s ps m (repS m)).2.2.1 (deedS room s ps m (repS m)).2.2.2 m (repS m)).2.1 = (deedS room s ps m (repS m)).2.1 ∧
      (deedS room (deedS room s ps m (repS m)).2.2.1 (deedS room s ps m (repS m)).2.2.2 m (repS m)).2.2.1.low = (deedS room s ps m (repS m)).2.2.1.low ∧ (deedS room (deedS room s ps m (repS m)).2.2.1 (deedS room s ps m (repS m)).2.2.2 m (repS m)).2.2.1.epoch = (deedS room s ps m (repS m)).2.2.1.epoch) := by
  generalize hx : deedS room s ps m (repS m) = x at h0
  have hx0 := hx
  unfold deedS at hx
  split at hx
  · rename_i k1
    refine ⟨fun _ => ?_, fun h => absurd k1 h⟩
    have key : ∀ y, writeS room s ps m.ep m.at' m.cell = y → y.2.1 = 0 → writeS room y.2.2.1 y.2.2.2 m.ep m.at' m.cell = (m.cell, 10, y.2.2.1, y.2.2.2) := fun y hy hy0 => by
      unfold writeS at hy
      split at hy
      · rename_i h; subst hy; exact absurd hy0 h
      rename_i hr
      split at hy
      · subst hy; simp at hy0
      rename_i hst
      split at hy
      · subst hy; simp at hy0
      rename_i hlow
      split at hy
      · subst hy; simp at hy0
      · subst hy
        have := lastS_ok hy0
        rw [this]
        dsimp only
        unfold writeS
        rw [if_neg (show ¬ reachE (putS s m.at' m.cell) m.ep m.at' ≠ 0 by rw [reachS_of (s' := putS s m.at' m.cell) (s := s) rfl]; exact hr), if_neg hst, if_neg (show ¬ m.at' < (putS s m.at' m.cell).low from hlow)]
        simp [putS, fput]
    have hy := key _ rfl (by subst hx; exact h0)
    subst hx
    simp only
    unfold deedS
    rw [if_pos k1]
    simp only
    rw [hy]
    exact ⟨rfl, rfl⟩
  rename_i k1
  refine ⟨fun h => absurd h k1, fun _ => ?_⟩
  have same : x.2.2 = (s, ps) → (deedS room x.2.2.1 x.2.2.2 m (repS m)).1 = 0 ∧ (deedS room x.2.2.1 x.2.2.2 m (repS m)).2.1 = x.2.1 ∧ (deedS room x.2.2.1 x.2.2.2 m (repS m)).2.2.1.low = x.2.2.1.low ∧ (deedS room x.2.2.1 x.2.2.2 m (repS m)).2.2.1.epoch = x.2.2.1.epoch := fun h => by
    have e1 : x.2.2.1 = s := by rw [h]
    have e2 : x.2.2.2 = ps := by rw [h]
    rw [e1, e2, hx0]
    exact ⟨h0, rfl, by rw [e1], by rw [e1]⟩
  split at hx
  · subst hx; exact same rfl
  rename_i k2
  split at hx
  · rename_i k3
    generalize hy : trimS room s ps m.ep m.at' = y at hx
    have hy0 := hy
    unfold trimS at hy
    split at hy
    · subst hy; subst hx; exact same rfl
    rename_i hr
    split at hy
    · subst hy; subst hx; exact same rfl
    rename_i hlow
    subst hx
    have hz := lastS_ok (l := pageL 3 [m.at']) (s := s) (ps := ps) (room := room) (s' := forgS { s with low := m.at' }) (by rw [hy]; exact h0)
    rw [hy] at hz
    have e : deedS room y.2.1 y.2.2 m (repS m) = (0, repS m, y.2.1, y.2.2) := by
      unfold deedS
      rw [if_neg k1, if_neg k2, if_pos k3]
      have : trimS room y.2.1 y.2.2 m.ep m.at' = (0, y.2.1, y.2.2) := by
        rw [hz]
        dsimp only
        unfold trimS
        rw [if_neg (show ¬ reachE (forgS { s with low := m.at' }) m.ep m.at' ≠ 0 by rw [reachS_of (s' := forgS { s with low := m.at' }) (s := s) rfl]; exact hr), if_pos (show m.at' ≤ (forgS { s with low := m.at' }).low from Int.le_refl _)]
      rw [this]
    simp only
    rw [e]
    exact ⟨rfl, rfl, rfl, rfl⟩
  rename_i k3
  split at hx
  · rename_i k4
    split at hx
    · subst hx; exact same rfl
    rename_i hep
    split at hx
    · rename_i hs0
      generalize hy : sealS room s ps m.ep = y at hx hs0
      unfold sealS at hy
      split at hy
      · subst hy; simp at hs0
      split at hy
      · subst hy; simp at hs0
      subst hx
      have hz := lastS_ok (l := pageL 4 [m.ep]) (s := s) (ps := ps) (room := room) (s' := { s with epoch := m.ep }) (by rw [hy]; exact hs0)
      rw [hy] at hz
      have he : y.2.1.epoch = m.ep := by rw [hz]
      have e : deedS room y.2.1 y.2.2 m (repS m) = (0, { repS m with tail := max y.2.1.top y.2.1.low }, y.2.1, y.2.2) := by
        unfold deedS
        rw [if_neg k1, if_neg k2, if_neg k3, if_pos k4, if_pos he]
      simp only
      rw [e]
      exact ⟨rfl, rfl, rfl, rfl⟩
    · rename_i hs0; subst hx; exact absurd h0 hs0
  rename_i k4
  split at hx
  · split at hx
    · subst hx; exact same rfl
    · subst hx; simp at h0
  rename_i k5
  split at hx
  · rename_i k6
    generalize hy : promiseS room s ps m.at' m.br m.bw = y at hx
    have hy0 := hy
    unfold promiseS at hy
    split at hy
    · subst hy; subst hx; simp at h0
    rename_i hp
    split at hy
    · subst hy; subst hx; simp at h0
    rename_i hl
    split at hy
    · subst hy; subst hx; exact same rfl
    split at hy
    · subst hy; subst hx; simp at h0
    subst hx
    have hin : instAt (promS s m.at' m.br m.bw) m.at' = { instAt s m.at' with pr := m.br, pw := m.bw } := instAt_put
    have e : promiseS room y.2.2.2.2.1 y.2.2.2.2.2 m.at' m.br m.bw = (y.1, y.2.1, y.2.2.1, 0, y.2.2.2.2.1, y.2.2.2.2.2) := by
      subst hy
      unfold promiseS
      rw [if_neg hp]
      simp only [hin, lessB_self]
      rw [if_neg (by simp), if_pos ⟨trivial, trivial⟩]
    have e2 : deedS room y.2.2.2.2.1 y.2.2.2.2.2 m (repS m) = (0, { repS m with br := y.1, bw := y.2.1, val := y.2.2.1 }, y.2.2.2.2.1, y.2.2.2.2.2) := by
      unfold deedS
      rw [if_neg k1, if_neg k2, if_neg k3, if_neg k4, if_neg k5, if_pos k6, e]
    simp only
    rw [e2]
    exact ⟨rfl, rfl, rfl, rfl⟩
  rename_i k6
  generalize hy : acceptS room s ps m.at' m.br m.bw m.val = y at hx
  unfold acceptS at hy
  split at hy
  · subst hy; subst hx; simp at h0
  rename_i hp
  split at hy
  · subst hy; subst hx; simp at h0
  rename_i hv
  split at hy
  · subst hy; subst hx; simp at h0
  rename_i hl
  subst hx
  have hz := lastS_ok (l := pageL 6 [m.at', m.br, m.bw] ++ beN m.val.length 4 ++ m.val) (s := s) (ps := ps) (room := room) (s' := accS s m.at' m.br m.bw m.val) (by rw [hy]; exact h0)
  rw [hy] at hz
  have hin : instAt (accS s m.at' m.br m.bw m.val) m.at' = ⟨m.br, m.bw, m.br, m.bw, m.val⟩ := instAt_put
  have e : acceptS room y.2.1 y.2.2 m.at' m.br m.bw m.val = (0, accS y.2.1 m.at' m.br m.bw m.val, y.2.2 ++ [⟨1, pageL 6 [m.at', m.br, m.bw] ++ beN m.val.length 4 ++ m.val⟩]) := by
    rw [hz]
    unfold acceptS
    rw [if_neg hp, if_neg hv]
    simp only [hin, lessB_self]
    rw [if_neg (by simp)]
    unfold lastS
    rw [if_neg (by simp; omega)]
  have e2 : deedS room y.2.1 y.2.2 m (repS m) = (0, repS m, accS y.2.1 m.at' m.br m.bw m.val, y.2.2 ++ [⟨1, pageL 6 [m.at', m.br, m.bw] ++ beN m.val.length 4 ++ m.val⟩]) := by
    unfold deedS
    rw [if_neg k1, if_neg k2, if_neg k3, if_neg k4, if_neg k5, if_neg k6, e]
  simp only
  rw [e2]
  exact ⟨rfl, rfl, rfl, rfl⟩
theorem answer_again {room : Int} {s : USt} {ps : List Pg} {m : MS} (hroom : (ps.length : Int) + 1 < room) :
    (answerS room (answerS room s ps m).2.2.1 (answerS room s ps m).2.2.2 m).1 = (answerS room s ps m).1 ∧
    (m.kind = 1 → (answerS room s ps m).1 = true → (answerS room s ps m).2.1.err = 0 → (answerS room (answerS room s ps m).2.2.1 (answerS room s ps m).2.2.2 m).2.1.err = 10 ∧ (answerS room (answerS room s ps m).2.2.1 (answerS room s ps m).2.2.2 m).2.1.cell = m.cell) ∧
    (¬ (m.kind = 1 ∧ (answerS room s ps m).1 = true ∧ (answerS room s ps m).2.1.err = 0) → (answerS room (answerS room s ps m).2.2.1 (answerS room s ps m).2.2.2 m).2.1 = (answerS room s ps m).2.1) := by
  by_cases hn : m.rep = true ∨ ¬ (1 ≤ m.kind ∧ m.kind ≤ 7)
  · have e : ∀ s' ps', answerS room s' ps' m = (false, zMS, s', ps') := fun s' ps' => if_pos hn
    simp only [e]
    exact ⟨trivial, fun _ h => (by cases h), fun _ => trivial⟩
  · have e : ∀ s' ps', answerS room s' ps' m = (true, finS (deedS room s' ps' m (repS m)).1 (deedS room s' ps' m (repS m)).2.1 (deedS room s' ps' m (repS m)).2.2.1, (deedS room s' ps' m (repS m)).2.2) := fun s' ps' => if_neg hn
    have herr : ∀ e r s', (finS e r s').err = e := fun e r s' => by unfold finS; split <;> rfl
    simp only [e, herr]
    refine ⟨trivial, fun hk _ h0 => ?_, fun h => ?_⟩
    · obtain ⟨h1, h2⟩ := (deed_again hroom h0).1 hk
      refine ⟨h1, ?_⟩
      unfold finS
      rw [if_neg (by rw [h1]; decide), if_pos h1]
      exact h2
    · by_cases h0 : (deedS room s ps m (repS m)).1 = 0
      · obtain ⟨h1, h2, h3, h4⟩ := (deed_again hroom h0).2 fun hk => h ⟨hk, trivial, h0⟩
        unfold finS
        rw [if_pos h1, if_pos h0, h2, h3, h4, h1, h0]
      · have := deedS_err _ rfl h0
        have e1 : (deedS room s ps m (repS m)).2.2.1 = s := by rw [this]
        have e2 : (deedS room s ps m (repS m)).2.2.2 = ps := by rw [this]
        rw [e1, e2]
        simp only [e1]
end Go.Proofs.Ytmibmjehjagmbaa

/- The server's laws over messages as assertions. No condition. -/
namespace Go.Proofs.Ytmibmjehjagmbaa
set_option linter.unusedSimpArgs false
set_option linter.unusedVariables false
open Go.Proofs.Ytmibmjehjagmbaa RX

/-- A unit without its device. -/
def UN (ub bd : Nat) (s : USt) : HP := HP.ex fun mc => HP.ex fun mi => HP.sep (UOne ub bd mc mi s) (HP.sep (MapE CellV iE mc s.cells) (MapE InstV iE mi s.inst))
theorem UD.split {ub bd : Nat} {room : Int} {s : USt} {ps : List Pg} {R h : PH} (H : (UD ub bd room s ps).p R h) : (HP.sep (DRep bd room ps ps.length) (UN ub bd s)).p R h := by
  obtain ⟨mc, mi, H⟩ := H
  exact HP.sep_mono (HP.swap H) (fun _ h => h) fun y hy => ⟨mc, mi, hy⟩
theorem UD.join {ub bd : Nat} {room : Int} {s : USt} {ps : List Pg} {R h : PH} (H : (HP.sep (DRep bd room ps ps.length) (UN ub bd s)).p R h) : (UD ub bd room s ps).p R h := by
  obtain ⟨h1, h2, d, l1, l2, hD, mc, mi, H⟩ := H
  exact ⟨mc, mi, HP.swap ⟨h1, h2, d, l1, l2, hD, H⟩⟩
theorem dPagesU_ok (ub bd : Nat) (room : Int) (s : USt) (ps : List Pg) : Tri Try.prog 34 #[.pointer (some ⟨bd, 0, none⟩)] (HP.sep HP.tt (UD ub bd room s ps))
    (fun v => HP.ex fun a => HP.ex fun c => HP.and (v = .slice a (wholes ps).length c) (HP.sep (LL a (wholes ps).length c (wholes ps)) (HP.sep HP.tt (UD ub bd room s ps)))) :=
  (dPages_ok bd room ps ps.length).conseq (K := UN ub bd s) (.of fun R h H => UD.split (HP.sep_right H)) fun v => .of fun R h ⟨h1, h2, d, l1, l2, ⟨a, c, ⟨e, _⟩, H⟩, HU⟩ => ⟨a, c, e, by
    have H1 := HP.swap (HP.sep_assoc ⟨h1, h2, d, l1, l2, H, HU⟩)
    exact HP.sep_mono H1 (fun _ h => h) fun y hy => HP.tt_sep (UD.join hy)⟩
theorem RoB0 (a : Option Addr) {R h : PH} : (RoB a 0 []).p R h := RoC.nil 1 a R h
/-- An answer to a message without bytes. -/
theorem answer0_ok (ub bd : Nat) (room : Int) (s : USt) (ps : List Pg) (m : MS) (h1 : m.cell.data = []) (h2 : m.val = []) :
    Tri Try.prog 45 #[.pointer (some ⟨ub, 0, none⟩), .agg (m.raw none 0 none 0).vals] (UD ub bd room s ps)
    (fun v => HP.ex fun rca => HP.ex fun rcc => HP.ex fun rva => HP.ex fun rvc => HP.and (v = .tuple #[.agg ((answerS room s ps m).2.1.raw rca rcc rva rvc).vals, .bool (answerS room s ps m).1])
      (HP.sep ((answerS room s ps m).2.1.Dro rca) (HP.sep ((answerS room s ps m).2.1.Vro rva) (UD ub bd room (answerS room s ps m).2.2.1 (answerS room s ps m).2.2.2)))) := by
  refine (answer_ok ub bd room s ps m none 0 none 0).weak (fun R h H => ?_) fun v R h ⟨rca, rcc, rva, rvc, e, H⟩ => ⟨rca, rcc, rva, rvc, e, HP.pick [_, _, _, _, _] [3, 4, 0] (by decide) rfl H⟩
  have e1 : (m.Dro none).p R h := by unfold MS.Dro; rw [h1]; exact RoB0 none
  have e2 : (m.Vro none).p R h := by unfold MS.Vro; rw [h2]; exact RoB0 none
  exact HP.sep_assoc (RoC.joinR e2 (RoC.joinR e1 H))
theorem same12z_ok (m : MS) (ca : Option Addr) (cc : Nat) (va : Option Addr) (vc : Nat) (hn : m.cell.data.length ≤ 140737488355328) (hv : m.val.length ≤ 140737488355328) :
    Tri Try.prog 46 #[.agg (m.raw ca cc va vc).vals, .agg (zMS.raw none 0 none 0).vals] (HP.sep (m.Dro ca) (m.Vro va)) (fun v => HP.ex fun b => HP.and (v = .bool b ∧ (m = zMS → b = true)) (HP.sep (m.Dro ca) (m.Vro va))) := by
  refine (same12_ok m zMS ca cc va vc none 0 none 0 hn hv).weak (fun R h H => ?_) fun v R h ⟨b, e, H⟩ => ⟨b, e, HP.pick [_, _, _, _] [0, 1] (by decide) rfl H⟩
  exact HP.sep_mono H (fun _ h => h) fun y hy => HP.sep_assoc (RoC.joinR (RoB0 none : (zMS.Vro none).p R y) (RoC.joinR (RoB0 none : (zMS.Dro none).p R y) hy))
/-- An answer to one of the messages that came in. -/
theorem answerM_ok (ub bd : Nat) (room : Int) (s : USt) (ps : List Pg) (a : Option Addr) (n : Nat) (l : List RM) (k : Nat) (x : RM) (hk : l[k]? = some x) :
    Tri Try.prog 45 #[.pointer (some ⟨ub, 0, none⟩), .agg x.vals] (HP.sep (UD ub bd room s ps) (ListM a n l))
    (fun v => HP.ex fun rca => HP.ex fun rcc => HP.ex fun rva => HP.ex fun rvc => HP.and (v = .tuple #[.agg ((answerS room s ps x.ms).2.1.raw rca rcc rva rvc).vals, .bool (answerS room s ps x.ms).1])
      (HP.sep ((answerS room s ps x.ms).2.1.Dro rca) (HP.sep ((answerS room s ps x.ms).2.1.Vro rva) (HP.sep (UD ub bd room (answerS room s ps x.ms).2.2.1 (answerS room s ps x.ms).2.2.2) (ListM a n l))))) := by
  refine (answer_ok ub bd room s ps x.ms x.ca x.cc x.va x.vc).conseq (K := ListM a n l) (.of fun R h H => ?_) fun v => .of fun R h ⟨h1, h2, d, l1, l2, ⟨rca, rcc, rva, rvc, e, H⟩, HL⟩ => ⟨rca, rcc, rva, rvc, e, ?_⟩
  · have hx := (HP.sep_right H).2.2 x (List.mem_of_getElem? hk)
    have e1 := hx.2.1
    have e2 := hx.2.2
    exact HP.sep_mono H (fun y hy => HP.sep_assoc (RoC.joinR e2 (RoC.joinR e1 hy))) fun _ h => h
  · exact HP.pick [_, _, _, _, _, _] [3, 4, 0, 5] (by decide) rfl ((sepN_app (l := [_, _, _, _, _]) (m := [_])).2 ⟨h1, h2, d, l1, l2, H, HL⟩)
set_option maxRecDepth 100000 in
theorem speaks14_ok : Tri Try.prog 42 #[] HP.tt (fun v => HP.pure (v = .bool true)) := by
  refine tri_of_tree (ρ := []) mixed Try.func42 tree_speaks14 ?_
  unfold t_speaks14
  simp only [T.den, E.prop, E.den, RX.look, F1.app, F2.app, Uni.int_i, Uni.nat_n, Uni.bool_c, Uni.str_s, Uni.adr_a, Uni.val_v, Uni.hp_p, hden, cden, V.den, W.den, A.den, BR.den, SA.den, FV.den, capV, exs, exP, allP, Cur.app, List.map_cons, List.map_nil, List.cons_append, List.nil_append, List.drop_succ_cons, List.drop_zero, List.length_cons, List.length_nil, Nat.zero_add, Nat.reduceAdd, Int.neg_neg, Bool.not_not, List.append_nil, Nat.add_zero, List.getElem?_cons_zero, List.getElem?_cons_succ, Decidable.not_not]
  refine (laid14_ok 9 (by decide) (by decide)).weak (fun _ _ h => h) ?_
  rintro v R h ⟨bd, ub, rfl, H⟩
  refine ⟨bd, HP.tt, ub, UD ub bd 9 s0 [], rfl, fun x => ?_, H⟩
  clear H
  let m : MS := ⟨1, 0, 0, false, 4, 3, 0, ⟨0, []⟩, 0, 0, [], 0, 0, 0, 0⟩
  refine (answer0_ok ub bd 9 s0 [] m rfl rfl).weak (fun _ _ h => h) ?_
  rintro v R h ⟨rca, rcc, rva, rvc, rfl, H⟩
  have a1 : (answerS 9 s0 [] m).2 = (⟨0, 1, 0, true, 4, 3, 0, zC, 0, 0, [], 0, 0, 0, 3⟩, { s0 with epoch := 3 }, [⟨1, pageL 4 [3]⟩]) := by
    simp [answerS, m, deedS, s0, sealS, lastS, finS, repS]
  have a0 : (answerS 9 s0 [] m).1 = true := by simp [answerS, m]
  rw [a1] at H
  rw [a1, a0]
  refine ⟨_, _, _, _, _, _, _, _, rca, _, rcc, _, _, _, rva, _, rvc, _, _, _, _, _, true, UD ub bd 9 { s0 with epoch := 3 } [⟨1, pageL 4 [3]⟩], rfl, fun y => ?_, H⟩
  clear H
  refine (answer0_ok ub bd 9 { s0 with epoch := 3 } [⟨1, pageL 4 [3]⟩] m rfl rfl).weak (fun _ _ h => h) ?_
  rintro v R h ⟨rca2, rcc2, rva2, rvc2, rfl, H⟩
  have b1 : (answerS 9 { s0 with epoch := 3 } [⟨1, pageL 4 [3]⟩] m).2 = (⟨0, 1, 0, true, 4, 3, 0, zC, 0, 0, [], 0, 0, 0, 3⟩, { s0 with epoch := 3 }, [⟨1, pageL 4 [3]⟩]) := by
    simp [answerS, m, deedS, s0, finS, repS]
  have b0 : (answerS 9 { s0 with epoch := 3 } [⟨1, pageL 4 [3]⟩] m).1 = true := by simp [answerS, m]
  rw [b1] at H
  rw [b1, b0]
  refine ⟨_, _, _, _, _, _, _, _, rca2, _, rcc2, _, _, _, rva2, _, rvc2, _, _, _, _, _, true, UD ub bd 9 { s0 with epoch := 3 } [⟨1, pageL 4 [3]⟩], rfl, fun z => ?_, H⟩
  refine ⟨fun _ => ⟨fun _ => ⟨fun _ => ⟨fun _ => ⟨fun _ => .of fun R h H => ?_, fun h => absurd rfl h⟩, fun h => absurd rfl h⟩, fun h => absurd rfl h⟩, fun h => absurd rfl h⟩, fun h => absurd rfl h⟩
  rfl
end Go.Proofs.Ytmibmjehjagmbaa

/- ServerAgain and ServerQuiet, over messages as assertions. No condition. -/
namespace Go.Proofs.Ytmibmjehjagmbaa
set_option linter.unusedSimpArgs false
set_option linter.unusedVariables false
open Go.Proofs.Ytmibmjehjagmbaa RX

/-- What a unit keeps is no longer than memory is. -/
def Bnd (s : USt) : Prop := (∀ a c, s.cells a = some c → c.data.length ≤ 140737488355328) ∧ ∀ n x, s.inst n = some x → x.val.length ≤ 140737488355328
theorem UD.bnd {ub bd : Nat} {room : Int} {s : USt} {ps : List Pg} {R h : PH} (H : (UD ub bd room s ps).p R h) : Bnd s := by
  obtain ⟨mc, mi, H⟩ := H
  obtain ⟨lc, cc, HC⟩ := HP.sep_left (HP.sep_right (HP.sep_right H))
  obtain ⟨li, ci, HI⟩ := HP.sep_right (HP.sep_right (HP.sep_right H))
  refine ⟨fun a c e => ?_, fun n x e => ?_⟩
  · obtain ⟨v, _, _, _, ⟨_, hb⟩, _⟩ := MapH.yes HC cellV_pers e h
    exact hb
  · obtain ⟨v, _, _, _, ⟨_, hb⟩, _⟩ := MapH.yes HI instV_pers e h
    exact hb
theorem deedS_bnd {room : Int} {s : USt} {ps : List Pg} {m : MS} (hb : Bnd s) : ∀ x, deedS room s ps m (repS m) = x → x.2.1.cell.data.length ≤ 140737488355328 ∧ x.2.1.val.length ≤ 140737488355328 := fun x hx => by
  have z : (repS m).cell.data.length ≤ 140737488355328 := by simp [repS, zC]
  have zv : (repS m).val.length ≤ 140737488355328 := by simp [repS]
  unfold deedS at hx
  split at hx
  · subst hx
    refine ⟨?_, zv⟩
    generalize hy : writeS room s ps m.ep m.at' m.cell = y
    unfold writeS at hy
    split at hy
    · subst hy; exact z
    split at hy
    · subst hy; exact z
    split at hy
    · subst hy; exact z
    split at hy
    · rename_i c e; subst hy; exact hb.1 _ _ e
    · subst hy; exact z
  split at hx
  · subst hx
    refine ⟨?_, zv⟩
    generalize hy : readS s m.ep m.at' = y
    unfold readS at hy
    split at hy
    · subst hy; exact z
    split at hy
    · subst hy; exact z
    split at hy
    · rename_i c e; subst hy; exact hb.1 _ _ e
    · subst hy; exact z
  split at hx
  · subst hx; exact ⟨z, zv⟩
  split at hx
  · split at hx
    · subst hx; exact ⟨z, zv⟩
    split at hx
    · subst hx; exact ⟨z, zv⟩
    · subst hx; exact ⟨z, zv⟩
  split at hx
  · split at hx <;> (subst hx; exact ⟨z, zv⟩)
  split at hx
  · subst hx
    refine ⟨z, ?_⟩
    have hi : (instAt s m.at').val.length ≤ 140737488355328 := by
      unfold instAt
      cases e : s.inst m.at' with
      | none => simp [zI]
      | some x => exact hb.2 _ _ e
    generalize hy : promiseS room s ps m.at' m.br m.bw = y
    unfold promiseS at hy
    split at hy
    · subst hy; exact zv
    split at hy
    · subst hy; exact zv
    split at hy
    · subst hy; exact hi
    split at hy
    · subst hy; exact zv
    · subst hy; exact hi
  · subst hx; exact ⟨z, zv⟩
theorem answerS_bnd {room : Int} {s : USt} {ps : List Pg} {m : MS} (hb : Bnd s) : (answerS room s ps m).2.1.cell.data.length ≤ 140737488355328 ∧ (answerS room s ps m).2.1.val.length ≤ 140737488355328 := by
  have z : zC.data.length ≤ 140737488355328 := by simp [zC]
  have h := deedS_bnd (room := room) (ps := ps) (m := m) hb _ rfl
  unfold answerS
  split
  · exact ⟨z, by simp [zMS]⟩
  · simp only [finS]
    split
    · exact h
    · refine ⟨?_, by simp⟩
      simp only
      split
      · exact h.1
      · exact z
theorem ListM.rd {a : Option Addr} {n : Nat} {l : List RM} {k : Nat} {x : RM} (hk : l[k]? = some x) : RdL (ListM a n l) x.ca x.ms.cell.data.length (x.ms.cell.data.map u8v) := RdL.imp fun _ _ H => (H.2.2 x (List.mem_of_getElem? hk)).2.1
set_option maxRecDepth 100000 in
set_option maxHeartbeats 1000000 in
theorem again_ok (a : Option Addr) (n c : Nat) (l : List RM) (hn : n ≤ 140737488355328) : Tri Try.prog 7 #[.slice a n c] (ListM a n l) (fun v => HP.pure (v = .bool true)) := by
  refine Tri.fact (φ := (n ≠ 0 → a.isSome = true) ∧ l.length = n) (fun R h H => ⟨fun hn => RoC.some H.2.1 (by omega), H.1⟩) fun ⟨ha, hl⟩ => ?_
  refine tri_of_tree (ρ := [.a a, .n n, .n c, .p (ListM a n l)]) mixed Try.func7 tree_again ?_
  unfold t_again
  simp only [T.den, E.prop, E.den, RX.look, F1.app, F2.app, Uni.int_i, Uni.nat_n, Uni.bool_c, Uni.str_s, Uni.adr_a, Uni.val_v, Uni.hp_p, hden, cden, V.den, W.den, A.den, BR.den, SA.den, FV.den, capV, exs, exP, allP, Cur.app, List.map_cons, List.map_nil, List.cons_append, List.nil_append, List.drop_succ_cons, List.drop_zero, List.length_cons, List.length_nil, Nat.zero_add, Nat.reduceAdd, Int.neg_neg, Bool.not_not, List.append_nil, Nat.add_zero, List.getElem?_cons_zero, List.getElem?_cons_succ, Decidable.not_not]
  refine speaks14_ok.weak (fun _ _ h => h) ?_
  rintro v R h rfl
  refine ⟨true, rfl, ⟨fun h => absurd rfl h, fun _ => ?_⟩, trivial⟩
  refine (great14_ok a n c l hn).weak (fun _ _ h => h) ?_
  rintro v R h ⟨g, ⟨rfl, hg⟩, H⟩
  refine ⟨g, rfl, ⟨fun _ => .of fun R h H => trivial, fun hgf => ?_⟩, H⟩
  have h60 : n ≤ 60 := hg (by simpa using hgf)
  clear H
  refine (laid14_ok 400 (by decide) (by decide)).weak (fun _ _ h => h) ?_
  rintro v R h ⟨bd, ub, rfl, H⟩
  refine ⟨bd, HP.tt, ub, UD ub bd 400 s0 [], rfl, ?_, H⟩
  clear H
  refine ⟨fun _ i P => ∃ (k : Nat) (s : USt) (ps : List Pg), i = k ∧ k ≤ n ∧ P = UD ub bd 400 s ps ∧ ps.length ≤ 2 * k, fun _ i _ => n - i.toNat, ⟨0, s0, [], rfl, Nat.zero_le _, rfl, Nat.le_refl _⟩, ?_⟩
  rintro _ _ _ ⟨k, s, ps, rfl, hk, rfl, hps⟩
  refine ⟨fun hlt => ⟨by omega, fun _ => ⟨ha (by omega), fun _ => ?_⟩⟩, fun _ => .of fun R h H => trivial⟩
  have hkl : k < l.length := by omega
  have hgk : l[k]? = some l[k] := List.getElem?_eq_getElem hkl
  generalize hx : l[k] = x at hgk
  have hr := ListM.load (a := a) (n := n) hgk
  refine ⟨_, _, _, _, _, _, _, _, _, _, _, _, _, _, _, _, _, _, _, _, hr, fun y => ?_⟩
  refine Tri.fact (φ := Bnd s) (fun R h H => UD.bnd (HP.sep_left H)) fun hb1 => ?_
  obtain ⟨g1, g2, g3⟩ := answer_again (room := 400) (s := s) (ps := ps) (m := x.ms) (by omega)
  have l1 := answerS_len (room := 400) (s := s) (ps := ps) (m := x.ms)
  have l2 := answerS_len (room := 400) (s := (answerS 400 s ps x.ms).2.2.1) (ps := (answerS 400 s ps x.ms).2.2.2) (m := x.ms)
  have bb := answerS_bnd (room := 400) (ps := ps) (m := x.ms) hb1
  refine (answerM_ok ub bd 400 s ps a n l k x hgk).weak (fun _ _ h => h) ?_
  rintro v R h ⟨rca, rcc, rva, rvc, rfl, H⟩
  generalize hA1 : answerS 400 s ps x.ms = A1 at *
  refine ⟨_, _, _, _, _, _, _, _, rca, _, rcc, A1.2.1.Dro rca, _, _, rva, _, rvc, A1.2.1.Vro rva, _, _, _, _, A1.1, UD ub bd 400 A1.2.2.1 A1.2.2.2, rfl, fun y2 => ?_, H⟩
  clear H
  refine (answerM_ok ub bd 400 A1.2.2.1 A1.2.2.2 a n l k x hgk).weak (fun _ _ h => h) ?_
  rintro v R h ⟨rca2, rcc2, rva2, rvc2, rfl, H⟩
  generalize hA2 : answerS 400 A1.2.2.1 A1.2.2.2 x.ms = A2 at *
  refine ⟨_, _, _, _, _, _, _, _, rca2, _, rcc2, A2.2.1.Dro rca2, _, _, rva2, _, rvc2, A2.2.1.Vro rva2, _, _, _, _, A2.1, UD ub bd 400 A2.2.2.1 A2.2.2.2, rfl, fun y3 => ?_, H⟩
  clear H
  have hi : IntKind.i64.min ≤ (k : Int) + 1 ∧ (k : Int) + 1 ≤ IntKind.i64.max := inI64 _ (by omega) (by omega)
  have next : ∃ (k' : Nat) (s' : USt) (ps' : List Pg), (k : Int) + 1 = k' ∧ k' ≤ n ∧ UD ub bd 400 A2.2.2.1 A2.2.2.2 = UD ub bd 400 s' ps' ∧ ps'.length ≤ 2 * k' := ⟨k + 1, A2.2.2.1, A2.2.2.2, by omega, by omega, rfl, by omega⟩
  have meas : n - ((k : Int) + 1).toNat < n - (k : Int).toNat := by omega
  have same : ¬ (x.ms.kind = 1 ∧ A1.1 = true ∧ A1.2.1.err = 0) → A2.2.1 = A1.2.1 := g3
  have fin : ∀ (hne : ¬ (x.ms.kind = 1 ∧ A1.1 = true ∧ A1.2.1.err = 0)) (B : Value → HP),
      (∀ R h, (HP.sep (A1.2.1.Dro rca) (HP.sep (A1.2.1.Vro rva) (HP.sep (A2.2.1.Dro rca2) (A2.2.1.Vro rva2)))).p R h → (B (.bool true)).p R h) →
      Tri Try.prog 46 #[.agg (A1.2.1.raw rca rcc rva rvc).vals, .agg (A2.2.1.raw rca2 rcc2 rva2 rvc2).vals] (HP.sep (A1.2.1.Dro rca) (HP.sep (A1.2.1.Vro rva) (HP.sep (A2.2.1.Dro rca2) (A2.2.1.Vro rva2)))) B := fun hne B hB => by
    refine (same12_ok A1.2.1 A2.2.1 rca rcc rva rvc rca2 rcc2 rva2 rvc2 bb.1 bb.2).weak (fun _ _ h => h) ?_
    rintro v R h ⟨b, ⟨rfl, hb⟩, H⟩
    rw [hb (same hne).symm]
    exact hB R h H
  refine ⟨fun h => absurd (by rw [g1]; simp) h, fun _ => ⟨fun hk1 => ⟨fun hok => ⟨fun h0 => ⟨fun h => absurd (g2 hk1 hok h0).1 h, fun _ => ?_⟩, fun h0 => ?_⟩, fun hok => ?_⟩, fun hk1 => ?_⟩⟩
  · have hcell := (g2 hk1 hok h0).2
    have hxb : A2.2.1.cell.data.length ≤ 140737488355328 → True := fun _ => trivial
    refine Tri.fact (φ := x.ms.cell.data.length ≤ 140737488355328) (fun R h H => ((HP.sep_right H).2.2 x (List.mem_of_getElem? hgk)).1.1) fun hxb => ?_
    refine (sameCell_ok A2.2.1.cell.what rca2 _ rcc2 A2.2.1.cell.data x.ms.cell.what x.ca _ x.cc x.ms.cell.data (A2.2.1.Dro rca2) (ListM a n l) (RdL.ro _ _ _ _) (ListM.rd hgk) rfl rfl (by rw [hcell]; exact hxb)).weak (fun _ _ h => h) ?_
    rintro v R h ⟨rfl, H⟩
    refine ⟨true, by rw [hcell]; simp, ⟨fun h => absurd rfl h, fun _ => ⟨hi, fun _ => ⟨next, meas⟩⟩⟩, H⟩
  · exact fin (fun e => h0 e.2.2) _ fun R h H => ⟨true, rfl, ⟨fun h => absurd rfl h, fun _ => ⟨hi, fun _ => ⟨next, meas⟩⟩⟩, H⟩
  · exact fin (fun e => hok e.2.1) _ fun R h H => ⟨true, rfl, ⟨fun h => absurd rfl h, fun _ => ⟨hi, fun _ => ⟨next, meas⟩⟩⟩, H⟩
  · exact fin (fun e => hk1 e.1) _ fun R h H => ⟨true, rfl, ⟨fun h => absurd rfl h, fun _ => ⟨hi, fun _ => ⟨next, meas⟩⟩⟩, H⟩
set_option maxRecDepth 100000 in
set_option maxHeartbeats 1000000 in
theorem quiet_ok (a : Option Addr) (n c : Nat) (l : List RM) (hn : n ≤ 140737488355328) : Tri Try.prog 8 #[.slice a n c] (ListM a n l) (fun v => HP.pure (v = .bool true)) := by
  refine Tri.fact (φ := (n ≠ 0 → a.isSome = true) ∧ l.length = n) (fun R h H => ⟨fun hn => RoC.some H.2.1 (by omega), H.1⟩) fun ⟨ha, hl⟩ => ?_
  refine tri_of_tree (ρ := [.a a, .n n, .n c, .p (ListM a n l)]) mixed Try.func8 tree_quiet ?_
  unfold t_quiet
  simp only [T.den, E.prop, E.den, RX.look, F1.app, F2.app, Uni.int_i, Uni.nat_n, Uni.bool_c, Uni.str_s, Uni.adr_a, Uni.val_v, Uni.hp_p, hden, cden, V.den, W.den, A.den, BR.den, SA.den, FV.den, capV, exs, exP, allP, Cur.app, List.map_cons, List.map_nil, List.cons_append, List.nil_append, List.drop_succ_cons, List.drop_zero, List.length_cons, List.length_nil, Nat.zero_add, Nat.reduceAdd, Int.neg_neg, Bool.not_not, List.append_nil, Nat.add_zero, List.getElem?_cons_zero, List.getElem?_cons_succ, Decidable.not_not]
  refine speaks14_ok.weak (fun _ _ h => h) ?_
  rintro v R h rfl
  refine ⟨true, rfl, ⟨fun h => absurd rfl h, fun _ => ?_⟩, trivial⟩
  refine (great14_ok a n c l hn).weak (fun _ _ h => h) ?_
  rintro v R h ⟨g, ⟨rfl, hg⟩, H⟩
  refine ⟨g, rfl, ⟨fun _ => .of fun R h H => trivial, fun hgf => ?_⟩, H⟩
  clear H
  refine (laid14_ok 200 (by decide) (by decide)).weak (fun _ _ h => h) ?_
  rintro v R h ⟨bd, ub, rfl, H⟩
  refine ⟨bd, HP.tt, ub, UD ub bd 200 s0 [], rfl, ?_, H⟩
  clear H
  refine ⟨fun _ i P => ∃ (k : Nat) (s : USt) (ps : List Pg), i = k ∧ k ≤ n ∧ P = UD ub bd 200 s ps, fun _ i _ => n - i.toNat, ⟨0, s0, [], rfl, Nat.zero_le _, rfl⟩, ?_⟩
  rintro _ _ _ ⟨k, s, ps, rfl, hk, rfl⟩
  refine ⟨fun hlt => ⟨by omega, fun _ => ⟨ha (by omega), fun _ => ?_⟩⟩, fun _ => .of fun R h H => trivial⟩
  have hkl : k < l.length := by omega
  have hgk : l[k]? = some l[k] := List.getElem?_eq_getElem hkl
  generalize hx : l[k] = x at hgk
  have hr := ListM.load (a := a) (n := n) hgk
  refine ⟨_, _, _, _, _, _, _, _, _, _, _, _, _, _, _, _, _, _, _, _, hr, fun y => ?_⟩
  refine (dPagesU_ok ub bd 200 s ps).weak (fun _ _ h => h) ?_
  rintro v R h ⟨pa, pc, rfl, H⟩
  refine ⟨pa, _, pc, LL pa (wholes ps).length pc (wholes ps), rfl, ?_, H⟩
  clear H
  refine Tri.fact (φ := Bnd s) (fun R h H => UD.bnd (HP.sep_left H)) fun hb1 => ?_
  have bb := answerS_bnd (room := 200) (ps := ps) (m := x.ms) hb1
  have hq := answerS_quiet (room := 200) (s := s) (ps := ps) (m := x.ms)
  have hz := answerS_none (room := 200) (s := s) (ps := ps) (m := x.ms)
  have hs := answerS_some (room := 200) (s := s) (ps := ps) (m := x.ms)
  refine (answerM_ok ub bd 200 s ps a n l k x hgk).weak (fun _ _ h => h) ?_
  rintro v R h ⟨rca, rcc, rva, rvc, rfl, H⟩
  generalize hA1 : answerS 200 s ps x.ms = A1 at *
  refine ⟨_, _, _, _, _, _, _, _, rca, _, rcc, A1.2.1.Dro rca, _, _, rva, _, rvc, A1.2.1.Vro rva, _, _, _, _, A1.1, UD ub bd 200 A1.2.2.1 A1.2.2.2, rfl, fun y2 => ?_, H⟩
  clear H
  have hi : IntKind.i64.min ≤ (k : Int) + 1 ∧ (k : Int) + 1 ≤ IntKind.i64.max := inI64 _ (by omega) (by omega)
  have next : ∃ (k' : Nat) (s' : USt) (ps' : List Pg), (k : Int) + 1 = k' ∧ k' ≤ n ∧ UD ub bd 200 A1.2.2.1 A1.2.2.2 = UD ub bd 200 s' ps' := ⟨k + 1, A1.2.2.1, A1.2.2.2, by omega, by omega, rfl⟩
  have meas : n - ((k : Int) + 1).toNat < n - (k : Int).toNat := by omega
  refine ⟨fun hno => ?_, fun hyes => ⟨fun herr => ?_, fun h0 => ?_⟩⟩
  · have hf : A1.1 = false := by simpa using hno
    refine (dPagesU_ok ub bd 200 A1.2.2.1 A1.2.2.2).weak (fun _ _ h => h) ?_
    rintro v R h ⟨pa2, pc2, rfl, H⟩
    have e : A1.2.2.2 = ps := by rw [hq (.inl hf)]
    refine ⟨pa2, _, pc2, LL pa2 (wholes A1.2.2.2).length pc2 (wholes A1.2.2.2), rfl, ⟨fun h => absurd (by rw [e]) h, fun _ => ?_⟩, H⟩
    clear H
    refine (same12z_ok A1.2.1 rca rcc rva rvc bb.1 bb.2).weak (fun _ _ h => h) ?_
    rintro v R h ⟨b, ⟨rfl, hb⟩, H⟩
    rw [hb (hz hf)]
    exact ⟨true, rfl, ⟨fun h => absurd rfl h, fun _ => ⟨hi, fun _ => ⟨next, meas⟩⟩⟩, H⟩
  · obtain ⟨s1, s2, s3, s4, s5, s6, s7, s8, s9⟩ := hs (by simpa using hyes)
    refine (dPagesU_ok ub bd 200 A1.2.2.1 A1.2.2.2).weak (fun _ _ h => h) ?_
    rintro v R h ⟨pa2, pc2, rfl, H⟩
    have e : A1.2.2.2 = ps := by rw [hq (.inr herr)]
    refine ⟨pa2, _, pc2, LL pa2 (wholes A1.2.2.2).length pc2 (wholes A1.2.2.2), rfl, ⟨fun h => absurd (by rw [e]) h, fun _ => ?_⟩, H⟩
    clear H
    refine ⟨fun h => absurd s1 h, fun _ => ⟨fun h => absurd s2 h, fun _ => ⟨fun h => absurd s3 h, fun _ => ⟨fun h => absurd s4 h, fun _ => ⟨fun h => absurd s5 h, fun _ => ⟨fun h => absurd s6 h, fun _ => ⟨fun h => absurd s7 h, fun _ => ?_⟩⟩⟩⟩⟩⟩⟩
    refine (uLow_ok ub bd _ A1.2.2.1).weak (fun _ _ h => h) ?_
    rintro v R h ⟨rfl, H⟩
    refine ⟨_, rfl, ⟨fun h => absurd s8 h, fun _ => ?_⟩, H⟩
    clear H
    refine (uEpoch_ok ub bd _ A1.2.2.1).weak (fun _ _ h => h) ?_
    rintro v R h ⟨rfl, H⟩
    exact ⟨_, rfl, ⟨fun h => absurd s9 h, fun _ => ⟨hi, fun _ => ⟨next, meas⟩⟩⟩, H⟩
  · obtain ⟨s1, s2, s3, s4, s5, s6, s7, s8, s9⟩ := hs (by simpa using hyes)
    refine ⟨fun h => absurd s1 h, fun _ => ⟨fun h => absurd s2 h, fun _ => ⟨fun h => absurd s3 h, fun _ => ⟨fun h => absurd s4 h, fun _ => ⟨fun h => absurd s5 h, fun _ => ⟨fun h => absurd s6 h, fun _ => ⟨fun h => absurd s7 h, fun _ => ?_⟩⟩⟩⟩⟩⟩⟩
    refine (uLow_ok ub bd _ A1.2.2.1).weak (fun _ _ h => h) ?_
    rintro v R h ⟨rfl, H⟩
    refine ⟨_, rfl, ⟨fun h => absurd s8 h, fun _ => ?_⟩, H⟩
    clear H
    refine (uEpoch_ok ub bd _ A1.2.2.1).weak (fun _ _ h => h) ?_
    rintro v R h ⟨rfl, H⟩
    exact ⟨_, rfl, ⟨fun h => absurd s9 h, fun _ => ⟨hi, fun _ => ⟨next, meas⟩⟩⟩, H⟩
end Go.Proofs.Ytmibmjehjagmbaa

/- Trees of functions, printed by rx.lean. No condition. -/
namespace Go.Proofs.Ytmibmjehjagmbaa.RX
set_option maxRecDepth 100000
-- slices.Clone[[]int,int]: ρ := [.a sa, .n sl, .n sc, .p sP]
def t_cloneI : T :=
(.br (.o1 .not (.o1 .isSome (.v 0)))
 (.ret (.w (.a (.sl .nil (.n 0) (.n 0)))) [((.a 0), (.prop 3))])
 (.new
 (.op (.call ⟨.builtin .append, #[(.tmp 5), (.tmp 6)], #[86, 86]⟩) 86 [(5, (.w (.a (.sl (.b (.v 4) 0) (.n 0) (.n 0))))), (6, (.w (.a (.sl (.v 0) (.v 1) (.v 2)))))] [((.b (.v 4)), (.cells [] 3)), ((.a 0), (.prop 3))] [.a, .n, .n, .p] (.w (.a (.sl (.v 5) (.v 6) (.v 7)))) [((.a 5), (.prop 8)), ((.a 0), (.prop 3))]
 (.ret (.w (.a (.sl (.v 5) (.v 6) (.v 7)))) [((.a 0), (.prop 3)), ((.a 5), (.prop 8))]))))
theorem tree_cloneI : tree Try.prog { absT := [], opq := [], hv := [], keep := [128, 52, 54, 53, 56, 93, 92, 137, 127, 126, 72, 91, 90, 21], link := [], ent := [], turn := [(94, [0]), (129, [0])], shr := [], vt := [], mkd := [], rlink := [], pty := [], outl := false, stay := [], snk := [] } Try.f126 [(.a (.sl (.v 0) (.v 1) (.v 2)))] [((.a 0), (.prop 3))] 4 = t_cloneI := by kernel_rfl
-- bytes.Clone: ρ := [.a ba, .n bl, .n bc, .p bP]
def t_bclone : T :=
(.br (.o1 .not (.o1 .isSome (.v 0)))
 (.ret (.w (.a (.sl .nil (.n 0) (.n 0)))) [((.a 0), (.prop 3))])
 (.new
 (.op (.call ⟨.builtin .append, #[(.tmp 5), (.tmp 6)], #[30, 30]⟩) 30 [(5, (.w (.a (.sl (.b (.v 4) 0) (.n 0) (.n 0))))), (6, (.w (.a (.sl (.v 0) (.v 1) (.v 2)))))] [((.b (.v 4)), (.cells [] 5)), ((.a 0), (.prop 3))] [.a, .n, .n, .p] (.w (.a (.sl (.v 5) (.v 6) (.v 7)))) [((.a 5), (.prop 8)), ((.a 0), (.prop 3))]
 (.ret (.w (.a (.sl (.v 5) (.v 6) (.v 7)))) [((.a 0), (.prop 3)), ((.a 5), (.prop 8))]))))
theorem tree_bclone : tree Try.prog { absT := [], opq := [], hv := [], keep := [128, 52, 54, 53, 56, 93, 92, 137, 127, 126, 72, 91, 90, 21], link := [], ent := [], turn := [(94, [0]), (129, [0])], shr := [], vt := [], mkd := [], rlink := [], pty := [], outl := false, stay := [], snk := [] } Try.f127 [(.a (.sl (.v 0) (.v 1) (.v 2)))] [((.a 0), (.prop 3))] 4 = t_bclone := by kernel_rfl
-- bytes.Equal: ρ := [.a aa, .n al, .n ac, .p aP, .a ba, .n bl, .n bc, .p bP]
def t_bequal : T :=
(.read (.convert 30 9 (.tmp 5)) 9 [(5, (.w (.a (.sl (.v 0) (.v 1) (.v 2)))))] [((.a 0), (.prop 3))] [.s] (.w (.a (.str (.v 8))))
(.read (.convert 30 9 (.tmp 7)) 9 [(7, (.w (.a (.sl (.v 4) (.v 5) (.v 6)))))] [((.a 4), (.prop 7))] [.s] (.w (.a (.str (.v 9))))
(.ret (.w (.a (.bool (.o2 .seq (.v 8) (.v 9))))) [((.a 0), (.prop 3)), ((.a 4), (.prop 7))])))
theorem tree_bequal : tree Try.prog { absT := [], opq := [], hv := [], keep := [128, 52, 54, 53, 56, 93, 92, 137, 127, 126, 72, 91, 90, 21], link := [], ent := [], turn := [(94, [0]), (129, [0])], shr := [], vt := [], mkd := [], rlink := [], pty := [], outl := false, stay := [], snk := [] } Try.f137 [(.a (.sl (.v 0) (.v 1) (.v 2))), (.a (.sl (.v 4) (.v 5) (.v 6)))] [((.a 0), (.prop 3)), ((.a 4), (.prop 7))] 8 = t_bequal := by kernel_rfl
-- tideline/chain.begin: ρ := [.i at, .a unitsa, .n unitsl, .n unitsc, .p unitsP]
def t_begin : T :=
(.call 126 [(.a (.sl (.v 1) (.v 2) (.v 3)))] [((.a 1), (.prop 4))] [.a, .n, .n, .p] (.w (.a (.sl (.v 5) (.v 6) (.v 7)))) [((.a 5), (.prop 8)), ((.a 1), (.prop 4))]
(.new
(.br (.o2 .eq (.o1 .ofNat (.v 2)) (.i 0))
 (.ret (.w (.a (.ptr (.v 9) 0))) [((.a 1), (.prop 4)), ((.b (.v 9)), (.cells [(.int .i64 (.v 0)), (.int .i64 (.i 3)), (.int .i64 (.i 0)), (.sl (.v 5) (.v 6) (.v 7)), (.int .i64 (.i 0)), (.int .i64 (.i 0)), (.int .i64 (.i 0)), (.sl .nil (.n 0) (.n 0))] 156)), ((.a 5), (.prop 8))])
 (.ret (.w (.a (.ptr (.v 9) 0))) [((.a 1), (.prop 4)), ((.b (.v 9)), (.cells [(.int .i64 (.v 0)), (.int .i64 (.i 1)), (.int .i64 (.i 0)), (.sl (.v 5) (.v 6) (.v 7)), (.int .i64 (.i 0)), (.int .i64 (.i 0)), (.int .i64 (.i 0)), (.sl .nil (.n 0) (.n 0))] 156)), ((.a 5), (.prop 8))]))))
theorem tree_begin : tree Try.prog { absT := [], opq := [], hv := [], keep := [128, 52, 54, 53, 56, 93, 92, 137, 127, 126, 72, 91, 90, 21], link := [], ent := [], turn := [(94, [0]), (129, [0])], shr := [], vt := [], mkd := [], rlink := [], pty := [], outl := false, stay := [], snk := [] } Try.f90 [(.a (.int .i64 (.v 0))), (.a (.sl (.v 1) (.v 2) (.v 3)))] [((.a 1), (.prop 4))] 5 = t_begin := by kernel_rfl
-- tideline/chain.twin: ρ := [.i x_What, .a x_Dataa, .n x_Datal, .n x_Datac, .p x_DataP]
def t_twin : T :=
(.new
(.new
(.call 127 [(.a (.sl (.v 1) (.v 2) (.v 3)))] [((.a 1), (.prop 4))] [.a, .n, .n, .p] (.w (.a (.sl (.v 7) (.v 8) (.v 9)))) [((.a 7), (.prop 10)), ((.a 1), (.prop 4))]
(.ret (.w (.agg [(.int .i64 (.v 0)), (.sl (.v 7) (.v 8) (.v 9))])) [((.a 1), (.prop 4)), ((.a 7), (.prop 10))]))))
theorem tree_twin : tree Try.prog { absT := [], opq := [], hv := [], keep := [128, 52, 54, 53, 56, 93, 92, 137, 127, 126, 72, 91, 90, 21], link := [], ent := [], turn := [(94, [0]), (129, [0])], shr := [], vt := [], mkd := [], rlink := [], pty := [], outl := false, stay := [], snk := [] } Try.f91 [(.agg [(.int .i64 (.v 0)), (.sl (.v 1) (.v 2) (.v 3))])] [((.a 1), (.prop 4))] 5 = t_twin := by kernel_rfl
-- tideline/chain.same: ρ := [.i x_What, .a x_Dataa, .n x_Datal, .n x_Datac, .p x_DataP, .i y_What, .a y_Dataa, .n y_Datal, .n y_Datac, .p y_DataP]
def t_same17 : T :=
(.new
(.new
(.br (.o2 .eq (.v 0) (.v 5))
 (.call 137 [(.a (.sl (.v 1) (.v 2) (.v 3))), (.a (.sl (.v 6) (.v 7) (.v 8)))] [((.a 1), (.prop 4)), ((.a 6), (.prop 9))] [.c] (.w (.a (.bool (.v 12)))) [((.a 1), (.prop 4)), ((.a 6), (.prop 9))]
 (.ret (.w (.a (.bool (.v 12)))) [((.a 1), (.prop 4)), ((.a 6), (.prop 9))]))
 (.ret (.w (.a (.bool (.c false)))) [((.a 1), (.prop 4)), ((.a 6), (.prop 9))]))))
theorem tree_same17 : tree Try.prog { absT := [], opq := [], hv := [], keep := [128, 52, 54, 53, 56, 93, 92, 137, 127, 126, 72, 91, 90, 21], link := [], ent := [], turn := [(94, [0]), (129, [0])], shr := [], vt := [], mkd := [], rlink := [], pty := [], outl := false, stay := [], snk := [] } Try.f128 [(.agg [(.int .i64 (.v 0)), (.sl (.v 1) (.v 2) (.v 3))]), (.agg [(.int .i64 (.v 5)), (.sl (.v 6) (.v 7) (.v 8))])] [((.a 1), (.prop 4)), ((.a 6), (.prop 9))] 10 = t_same17 := by kernel_rfl
-- tideline/chain.Append: ρ := [.i at, .a unitsa, .n unitsl, .n unitsc, .p unitsP, .i x_What, .a x_Dataa, .n x_Datal, .n x_Datac, .p x_DataP]
def t_cAppend : T :=
(.new
(.call 90 [(.a (.int .i64 (.v 0))), (.a (.sl (.v 1) (.v 2) (.v 3)))] [((.a 1), (.prop 4))] [.n, .p] (.w (.a (.ptr (.v 11) 0))) [((.b (.v 11)), (.prop 12)), ((.a 1), (.prop 4))]
(.call 91 [(.agg [(.int .i64 (.v 5)), (.sl (.v 6) (.v 7) (.v 8))])] [((.a 6), (.prop 9))] [.i, .a, .n, .n, .p] (.w (.agg [(.int .i64 (.v 13)), (.sl (.v 14) (.v 15) (.v 16))])) [((.a 14), (.prop 17)), ((.a 6), (.prop 9))]
(.op (.store 3 (.tmp 16) (.const (.int .i64 0))) 0 [(16, (.w (.a (.ptr (.v 11) 4))))] [((.b (.v 11)), (.prop 12))] [.p] (.tup []) [((.b (.v 11)), (.prop 18))]
(.op (.store 32 (.tmp 18) (.tmp 14)) 0 [(18, (.w (.a (.ptr (.v 11) 6)))), (14, (.w (.agg [(.int .i64 (.v 13)), (.sl (.v 14) (.v 15) (.v 16))])))] [((.b (.v 11)), (.prop 18)), ((.a 14), (.prop 17))] [.p] (.tup []) [((.b (.v 11)), (.prop 19)), ((.a 14), (.prop 17))]
(.ret (.w (.a (.ptr (.v 11) 0))) [((.a 1), (.prop 4)), ((.a 6), (.prop 9)), ((.b (.v 11)), (.prop 19))]))))))
theorem tree_cAppend : tree Try.prog { absT := [], opq := [], hv := [], keep := [128, 52, 54, 53, 56, 93, 92, 137, 127, 126, 72, 91, 90, 21], link := [], ent := [], turn := [(94, [0]), (129, [0])], shr := [], vt := [], mkd := [], rlink := [], pty := [], outl := false, stay := [], snk := [] } Try.f50 [(.a (.int .i64 (.v 0))), (.a (.sl (.v 1) (.v 2) (.v 3))), (.agg [(.int .i64 (.v 5)), (.sl (.v 6) (.v 7) (.v 8))])] [((.a 1), (.prop 4)), ((.a 6), (.prop 9))] 10 = t_cAppend := by kernel_rfl
-- tideline/chain.Resolve: ρ := [.i at, .a unitsa, .n unitsl, .n unitsc, .p unitsP]
def t_cResolve : T :=
(.call 90 [(.a (.int .i64 (.v 0))), (.a (.sl (.v 1) (.v 2) (.v 3)))] [((.a 1), (.prop 4))] [.n, .p] (.w (.a (.ptr (.v 5) 0))) [((.b (.v 5)), (.prop 6)), ((.a 1), (.prop 4))]
(.need (.o1 (.inr .i64) (.o2 .sub (.o1 .ofNat (.v 2)) (.i 1)))
(.op (.store 3 (.tmp 15) (.const (.int .i64 1))) 0 [(15, (.w (.a (.ptr (.v 5) 4))))] [((.b (.v 5)), (.prop 6))] [.p] (.tup []) [((.b (.v 5)), (.prop 7))]
(.op (.store 3 (.tmp 17) (.tmp 13)) 0 [(17, (.w (.a (.ptr (.v 5) 5)))), (13, (.w (.a (.int .i64 (.o2 .sub (.o1 .ofNat (.v 2)) (.i 1))))))] [((.b (.v 5)), (.prop 7))] [.p] (.tup []) [((.b (.v 5)), (.prop 8))]
(.ret (.w (.a (.ptr (.v 5) 0))) [((.a 1), (.prop 4)), ((.b (.v 5)), (.prop 8))])))))
theorem tree_cResolve : tree Try.prog { absT := [], opq := [], hv := [], keep := [128, 52, 54, 53, 56, 93, 92, 137, 127, 126, 72, 91, 90, 21], link := [], ent := [], turn := [(94, [0]), (129, [0])], shr := [], vt := [], mkd := [], rlink := [], pty := [], outl := false, stay := [], snk := [] } Try.f49 [(.a (.int .i64 (.v 0))), (.a (.sl (.v 1) (.v 2) (.v 3)))] [((.a 1), (.prop 4))] 5 = t_cResolve := by kernel_rfl
-- (*tideline/chain.Op).State: ρ := [.n o, .i o_at, .i o_state, .i o_low, .a o_unitsa, .n o_unitsl, .n o_unitsc, .p o_unitsP, .i o_step, .i o_place, .i o_cell_What, .a o_cell_Dataa, .n o_cell_Datal, .n o_cell_Datac, .p o_cell_DataP]
def t_cState : T :=
(.ret (.w (.a (.int .i64 (.v 2)))) [((.b (.v 0)), (.cells [(.int .i64 (.v 1)), (.int .i64 (.v 2)), (.int .i64 (.v 3)), (.sl (.v 4) (.v 5) (.v 6)), (.int .i64 (.v 8)), (.int .i64 (.v 9)), (.int .i64 (.v 10)), (.sl (.v 11) (.v 12) (.v 13))] 156)), ((.a 4), (.prop 7)), ((.a 11), (.prop 14))])
theorem tree_cState : tree Try.prog { absT := [], opq := [], hv := [], keep := [128, 52, 54, 53, 56, 93, 92, 137, 127, 126, 72, 91, 90, 21], link := [], ent := [], turn := [(94, [0]), (129, [0])], shr := [], vt := [], mkd := [], rlink := [], pty := [], outl := false, stay := [], snk := [] } Try.f52 [(.a (.ptr (.v 0) 0))] [((.b (.v 0)), (.cells [(.int .i64 (.v 1)), (.int .i64 (.v 2)), (.int .i64 (.v 3)), (.sl (.v 4) (.v 5) (.v 6)), (.int .i64 (.v 8)), (.int .i64 (.v 9)), (.int .i64 (.v 10)), (.sl (.v 11) (.v 12) (.v 13))] 156)), ((.a 4), (.prop 7)), ((.a 11), (.prop 14))] 15 = t_cState := by kernel_rfl
-- (*tideline/chain.Op).At: ρ := [.n o, .i o_at, .i o_state, .i o_low, .a o_unitsa, .n o_unitsl, .n o_unitsc, .p o_unitsP, .i o_step, .i o_place, .i o_cell_What, .a o_cell_Dataa, .n o_cell_Datal, .n o_cell_Datac, .p o_cell_DataP]
def t_cAt : T :=
(.ret (.w (.a (.int .i64 (.v 1)))) [((.b (.v 0)), (.cells [(.int .i64 (.v 1)), (.int .i64 (.v 2)), (.int .i64 (.v 3)), (.sl (.v 4) (.v 5) (.v 6)), (.int .i64 (.v 8)), (.int .i64 (.v 9)), (.int .i64 (.v 10)), (.sl (.v 11) (.v 12) (.v 13))] 156)), ((.a 4), (.prop 7)), ((.a 11), (.prop 14))])
theorem tree_cAt : tree Try.prog { absT := [], opq := [], hv := [], keep := [128, 52, 54, 53, 56, 93, 92, 137, 127, 126, 72, 91, 90, 21], link := [], ent := [], turn := [(94, [0]), (129, [0])], shr := [], vt := [], mkd := [], rlink := [], pty := [], outl := false, stay := [], snk := [] } Try.f54 [(.a (.ptr (.v 0) 0))] [((.b (.v 0)), (.cells [(.int .i64 (.v 1)), (.int .i64 (.v 2)), (.int .i64 (.v 3)), (.sl (.v 4) (.v 5) (.v 6)), (.int .i64 (.v 8)), (.int .i64 (.v 9)), (.int .i64 (.v 10)), (.sl (.v 11) (.v 12) (.v 13))] 156)), ((.a 4), (.prop 7)), ((.a 11), (.prop 14))] 15 = t_cAt := by kernel_rfl
-- (*tideline/chain.Op).Low: ρ := [.n o, .i o_at, .i o_state, .i o_low, .a o_unitsa, .n o_unitsl, .n o_unitsc, .p o_unitsP, .i o_step, .i o_place, .i o_cell_What, .a o_cell_Dataa, .n o_cell_Datal, .n o_cell_Datac, .p o_cell_DataP]
def t_cLow : T :=
(.ret (.w (.a (.int .i64 (.v 3)))) [((.b (.v 0)), (.cells [(.int .i64 (.v 1)), (.int .i64 (.v 2)), (.int .i64 (.v 3)), (.sl (.v 4) (.v 5) (.v 6)), (.int .i64 (.v 8)), (.int .i64 (.v 9)), (.int .i64 (.v 10)), (.sl (.v 11) (.v 12) (.v 13))] 156)), ((.a 4), (.prop 7)), ((.a 11), (.prop 14))])
theorem tree_cLow : tree Try.prog { absT := [], opq := [], hv := [], keep := [128, 52, 54, 53, 56, 93, 92, 137, 127, 126, 72, 91, 90, 21], link := [], ent := [], turn := [(94, [0]), (129, [0])], shr := [], vt := [], mkd := [], rlink := [], pty := [], outl := false, stay := [], snk := [] } Try.f56 [(.a (.ptr (.v 0) 0))] [((.b (.v 0)), (.cells [(.int .i64 (.v 1)), (.int .i64 (.v 2)), (.int .i64 (.v 3)), (.sl (.v 4) (.v 5) (.v 6)), (.int .i64 (.v 8)), (.int .i64 (.v 9)), (.int .i64 (.v 10)), (.sl (.v 11) (.v 12) (.v 13))] 156)), ((.a 4), (.prop 7)), ((.a 11), (.prop 14))] 15 = t_cLow := by kernel_rfl
-- (*tideline/chain.Op).Cell: ρ := [.n o, .i o_at, .i o_state, .i o_low, .a o_unitsa, .n o_unitsl, .n o_unitsc, .p o_unitsP, .i o_step, .i o_place, .i o_cell_What, .a o_cell_Dataa, .n o_cell_Datal, .n o_cell_Datac, .p o_cell_DataP]
def t_cCell : T :=
(.new
(.br (.o1 .not (.o2 .eq (.v 2) (.i 2)))
 (.ret (.w (.agg [(.int .i64 (.i 0)), (.sl .nil (.n 0) (.n 0))])) [((.b (.v 0)), (.cells [(.int .i64 (.v 1)), (.int .i64 (.v 2)), (.int .i64 (.v 3)), (.sl (.v 4) (.v 5) (.v 6)), (.int .i64 (.v 8)), (.int .i64 (.v 9)), (.int .i64 (.v 10)), (.sl (.v 11) (.v 12) (.v 13))] 156)), ((.a 4), (.prop 7)), ((.a 11), (.prop 14))])
 (.call 91 [(.agg [(.int .i64 (.v 10)), (.sl (.v 11) (.v 12) (.v 13))])] [((.a 11), (.prop 14))] [.i, .a, .n, .n, .p] (.w (.agg [(.int .i64 (.v 16)), (.sl (.v 17) (.v 18) (.v 19))])) [((.a 17), (.prop 20)), ((.a 11), (.prop 14))]
 (.ret (.w (.agg [(.int .i64 (.v 16)), (.sl (.v 17) (.v 18) (.v 19))])) [((.b (.v 0)), (.cells [(.int .i64 (.v 1)), (.int .i64 (.v 2)), (.int .i64 (.v 3)), (.sl (.v 4) (.v 5) (.v 6)), (.int .i64 (.v 8)), (.int .i64 (.v 9)), (.int .i64 (.v 10)), (.sl (.v 11) (.v 12) (.v 13))] 156)), ((.a 4), (.prop 7)), ((.a 11), (.prop 14)), ((.a 17), (.prop 20))]))))
theorem tree_cCell : tree Try.prog { absT := [], opq := [], hv := [], keep := [128, 52, 54, 53, 56, 93, 92, 137, 127, 126, 72, 91, 90, 21], link := [], ent := [], turn := [(94, [0]), (129, [0])], shr := [], vt := [], mkd := [], rlink := [], pty := [], outl := false, stay := [], snk := [] } Try.f53 [(.a (.ptr (.v 0) 0))] [((.b (.v 0)), (.cells [(.int .i64 (.v 1)), (.int .i64 (.v 2)), (.int .i64 (.v 3)), (.sl (.v 4) (.v 5) (.v 6)), (.int .i64 (.v 8)), (.int .i64 (.v 9)), (.int .i64 (.v 10)), (.sl (.v 11) (.v 12) (.v 13))] 156)), ((.a 4), (.prop 7)), ((.a 11), (.prop 14))] 15 = t_cCell := by kernel_rfl
-- (*tideline/chain.Op).kind: ρ := [.n o, .i o_at, .i o_state, .i o_low, .a o_unitsa, .n o_unitsl, .n o_unitsc, .p o_unitsP, .i o_step, .i o_place, .i o_cell_What, .a o_cell_Dataa, .n o_cell_Datal, .n o_cell_Datac, .p o_cell_DataP]
def t_cKind : T :=
(.br (.o2 .eq (.v 8) (.i 1))
 (.ret (.w (.a (.int .i64 (.i 2)))) [((.b (.v 0)), (.cells [(.int .i64 (.v 1)), (.int .i64 (.v 2)), (.int .i64 (.v 3)), (.sl (.v 4) (.v 5) (.v 6)), (.int .i64 (.v 8)), (.int .i64 (.v 9)), (.int .i64 (.v 10)), (.sl (.v 11) (.v 12) (.v 13))] 156)), ((.a 4), (.prop 7)), ((.a 11), (.prop 14))])
 (.br (.o2 .eq (.v 8) (.i 2))
  (.ret (.w (.a (.int .i64 (.i 2)))) [((.b (.v 0)), (.cells [(.int .i64 (.v 1)), (.int .i64 (.v 2)), (.int .i64 (.v 3)), (.sl (.v 4) (.v 5) (.v 6)), (.int .i64 (.v 8)), (.int .i64 (.v 9)), (.int .i64 (.v 10)), (.sl (.v 11) (.v 12) (.v 13))] 156)), ((.a 4), (.prop 7)), ((.a 11), (.prop 14))])
  (.ret (.w (.a (.int .i64 (.i 1)))) [((.b (.v 0)), (.cells [(.int .i64 (.v 1)), (.int .i64 (.v 2)), (.int .i64 (.v 3)), (.sl (.v 4) (.v 5) (.v 6)), (.int .i64 (.v 8)), (.int .i64 (.v 9)), (.int .i64 (.v 10)), (.sl (.v 11) (.v 12) (.v 13))] 156)), ((.a 4), (.prop 7)), ((.a 11), (.prop 14))])))
theorem tree_cKind : tree Try.prog { absT := [], opq := [], hv := [], keep := [128, 52, 54, 53, 56, 93, 92, 137, 127, 126, 72, 91, 90, 21], link := [], ent := [], turn := [(94, [0]), (129, [0])], shr := [], vt := [], mkd := [], rlink := [], pty := [], outl := false, stay := [], snk := [] } Try.f93 [(.a (.ptr (.v 0) 0))] [((.b (.v 0)), (.cells [(.int .i64 (.v 1)), (.int .i64 (.v 2)), (.int .i64 (.v 3)), (.sl (.v 4) (.v 5) (.v 6)), (.int .i64 (.v 8)), (.int .i64 (.v 9)), (.int .i64 (.v 10)), (.sl (.v 11) (.v 12) (.v 13))] 156)), ((.a 4), (.prop 7)), ((.a 11), (.prop 14))] 15 = t_cKind := by kernel_rfl
-- (*tideline/chain.Op).Ask: ρ := [.n o, .i o_at, .i o_state, .i o_low, .a o_unitsa, .n o_unitsl, .n o_unitsc, .p o_unitsP, .i o_step, .i o_place, .i o_cell_What, .a o_cell_Dataa, .n o_cell_Datal, .n o_cell_Datac, .p o_cell_DataP]
def t_cAsk : T :=
(.new
(.br (.o1 .not (.o2 .eq (.v 2) (.i 1)))
 (.ret (.tup [(.a (.int .i64 (.i 0))), (.a (.int .i64 (.i 0))), (.agg [(.int .i64 (.i 0)), (.sl .nil (.n 0) (.n 0))]), (.a (.bool (.c false)))]) [((.b (.v 0)), (.cells [(.int .i64 (.v 1)), (.int .i64 (.v 2)), (.int .i64 (.v 3)), (.sl (.v 4) (.v 5) (.v 6)), (.int .i64 (.v 8)), (.int .i64 (.v 9)), (.int .i64 (.v 10)), (.sl (.v 11) (.v 12) (.v 13))] 156)), ((.a 4), (.prop 7)), ((.a 11), (.prop 14))])
 (.br (.o2 .eq (.v 8) (.i 0))
  (.call 91 [(.agg [(.int .i64 (.v 10)), (.sl (.v 11) (.v 12) (.v 13))])] [((.a 11), (.prop 14))] [.i, .a, .n, .n, .p] (.w (.agg [(.int .i64 (.v 16)), (.sl (.v 17) (.v 18) (.v 19))])) [((.a 17), (.prop 20)), ((.a 11), (.prop 14))]
  (.all
   (.all
    (.need (.o2 .le (.i 0) (.v 9))
    (.need (.o2 .lt (.v 9) (.o1 .ofNat (.v 5)))
    (.need (.o1 .isSome (.v 4))
    (.all
     (.read (.load 3 (.tmp 34)) 3 [(34, (.w (.a (.eptr 4 (.v 9) 1 0))))] [((.a 4), (.prop 7))] [.i] (.w (.a (.int .i64 (.v 21))))
     (.call 93 [(.a (.ptr (.v 0) 0))] [((.b (.v 0)), (.cells [(.int .i64 (.v 1)), (.int .i64 (.v 2)), (.int .i64 (.v 3)), (.sl (.v 4) (.v 5) (.v 6)), (.int .i64 (.v 8)), (.int .i64 (.v 9)), (.int .i64 (.v 10)), (.sl (.v 11) (.v 12) (.v 13))] 156)), ((.a 4), (.prop 7)), ((.a 11), (.prop 14))] [.i] (.w (.a (.int .i64 (.v 22)))) [((.b (.v 0)), (.cells [(.int .i64 (.v 1)), (.int .i64 (.v 2)), (.int .i64 (.v 3)), (.sl (.v 4) (.v 5) (.v 6)), (.int .i64 (.v 8)), (.int .i64 (.v 9)), (.int .i64 (.v 10)), (.sl (.v 11) (.v 12) (.v 13))] 156)), ((.a 4), (.prop 7)), ((.a 11), (.prop 14))]
     (.ret (.tup [(.a (.int .i64 (.v 21))), (.a (.int .i64 (.v 22))), (.agg [(.int .i64 (.v 16)), (.sl (.v 17) (.v 18) (.v 19))]), (.a (.bool (.c true)))]) [((.b (.v 0)), (.cells [(.int .i64 (.v 1)), (.int .i64 (.v 2)), (.int .i64 (.v 3)), (.sl (.v 4) (.v 5) (.v 6)), (.int .i64 (.v 8)), (.int .i64 (.v 9)), (.int .i64 (.v 10)), (.sl (.v 11) (.v 12) (.v 13))] 156)), ((.a 4), (.prop 7)), ((.a 11), (.prop 14)), ((.a 17), (.prop 20))])))
     (.call 93 [(.a (.ptr (.v 0) 0))] [((.b (.v 0)), (.cells [(.int .i64 (.v 1)), (.int .i64 (.v 2)), (.int .i64 (.v 3)), (.sl (.v 4) (.v 5) (.v 6)), (.int .i64 (.v 8)), (.int .i64 (.v 9)), (.int .i64 (.v 10)), (.sl (.v 11) (.v 12) (.v 13))] 156)), ((.a 4), (.prop 7)), ((.a 11), (.prop 14))] [.i] (.w (.a (.int .i64 (.v 21)))) [((.b (.v 0)), (.cells [(.int .i64 (.v 1)), (.int .i64 (.v 2)), (.int .i64 (.v 3)), (.sl (.v 4) (.v 5) (.v 6)), (.int .i64 (.v 8)), (.int .i64 (.v 9)), (.int .i64 (.v 10)), (.sl (.v 11) (.v 12) (.v 13))] 156)), ((.a 4), (.prop 7)), ((.a 11), (.prop 14))]
     (.read (.load 3 (.tmp 34)) 3 [(34, (.w (.a (.eptr 4 (.v 9) 1 0))))] [((.a 4), (.prop 7))] [.i] (.w (.a (.int .i64 (.v 22))))
     (.ret (.tup [(.a (.int .i64 (.v 22))), (.a (.int .i64 (.v 21))), (.agg [(.int .i64 (.v 16)), (.sl (.v 17) (.v 18) (.v 19))]), (.a (.bool (.c true)))]) [((.b (.v 0)), (.cells [(.int .i64 (.v 1)), (.int .i64 (.v 2)), (.int .i64 (.v 3)), (.sl (.v 4) (.v 5) (.v 6)), (.int .i64 (.v 8)), (.int .i64 (.v 9)), (.int .i64 (.v 10)), (.sl (.v 11) (.v 12) (.v 13))] 156)), ((.a 4), (.prop 7)), ((.a 11), (.prop 14)), ((.a 17), (.prop 20))])))))))
    (.call 93 [(.a (.ptr (.v 0) 0))] [((.b (.v 0)), (.cells [(.int .i64 (.v 1)), (.int .i64 (.v 2)), (.int .i64 (.v 3)), (.sl (.v 4) (.v 5) (.v 6)), (.int .i64 (.v 8)), (.int .i64 (.v 9)), (.int .i64 (.v 10)), (.sl (.v 11) (.v 12) (.v 13))] 156)), ((.a 4), (.prop 7)), ((.a 11), (.prop 14))] [.i] (.w (.a (.int .i64 (.v 21)))) [((.b (.v 0)), (.cells [(.int .i64 (.v 1)), (.int .i64 (.v 2)), (.int .i64 (.v 3)), (.sl (.v 4) (.v 5) (.v 6)), (.int .i64 (.v 8)), (.int .i64 (.v 9)), (.int .i64 (.v 10)), (.sl (.v 11) (.v 12) (.v 13))] 156)), ((.a 4), (.prop 7)), ((.a 11), (.prop 14))]
    (.need (.o2 .le (.i 0) (.v 9))
    (.need (.o2 .lt (.v 9) (.o1 .ofNat (.v 5)))
    (.need (.o1 .isSome (.v 4))
    (.read (.load 3 (.tmp 34)) 3 [(34, (.w (.a (.eptr 4 (.v 9) 1 0))))] [((.a 4), (.prop 7))] [.i] (.w (.a (.int .i64 (.v 22))))
    (.ret (.tup [(.a (.int .i64 (.v 22))), (.a (.int .i64 (.v 21))), (.agg [(.int .i64 (.v 16)), (.sl (.v 17) (.v 18) (.v 19))]), (.a (.bool (.c true)))]) [((.b (.v 0)), (.cells [(.int .i64 (.v 1)), (.int .i64 (.v 2)), (.int .i64 (.v 3)), (.sl (.v 4) (.v 5) (.v 6)), (.int .i64 (.v 8)), (.int .i64 (.v 9)), (.int .i64 (.v 10)), (.sl (.v 11) (.v 12) (.v 13))] 156)), ((.a 4), (.prop 7)), ((.a 11), (.prop 14)), ((.a 17), (.prop 20))])))))))
   (.all
    (.all
     (.need (.o2 .le (.i 0) (.v 9))
     (.need (.o2 .lt (.v 9) (.o1 .ofNat (.v 5)))
     (.need (.o1 .isSome (.v 4))
     (.all
      (.read (.load 3 (.tmp 34)) 3 [(34, (.w (.a (.eptr 4 (.v 9) 1 0))))] [((.a 4), (.prop 7))] [.i] (.w (.a (.int .i64 (.v 21))))
      (.call 93 [(.a (.ptr (.v 0) 0))] [((.b (.v 0)), (.cells [(.int .i64 (.v 1)), (.int .i64 (.v 2)), (.int .i64 (.v 3)), (.sl (.v 4) (.v 5) (.v 6)), (.int .i64 (.v 8)), (.int .i64 (.v 9)), (.int .i64 (.v 10)), (.sl (.v 11) (.v 12) (.v 13))] 156)), ((.a 4), (.prop 7)), ((.a 11), (.prop 14))] [.i] (.w (.a (.int .i64 (.v 22)))) [((.b (.v 0)), (.cells [(.int .i64 (.v 1)), (.int .i64 (.v 2)), (.int .i64 (.v 3)), (.sl (.v 4) (.v 5) (.v 6)), (.int .i64 (.v 8)), (.int .i64 (.v 9)), (.int .i64 (.v 10)), (.sl (.v 11) (.v 12) (.v 13))] 156)), ((.a 4), (.prop 7)), ((.a 11), (.prop 14))]
      (.ret (.tup [(.a (.int .i64 (.v 21))), (.a (.int .i64 (.v 22))), (.agg [(.int .i64 (.v 16)), (.sl (.v 17) (.v 18) (.v 19))]), (.a (.bool (.c true)))]) [((.b (.v 0)), (.cells [(.int .i64 (.v 1)), (.int .i64 (.v 2)), (.int .i64 (.v 3)), (.sl (.v 4) (.v 5) (.v 6)), (.int .i64 (.v 8)), (.int .i64 (.v 9)), (.int .i64 (.v 10)), (.sl (.v 11) (.v 12) (.v 13))] 156)), ((.a 4), (.prop 7)), ((.a 11), (.prop 14)), ((.a 17), (.prop 20))])))
      (.call 93 [(.a (.ptr (.v 0) 0))] [((.b (.v 0)), (.cells [(.int .i64 (.v 1)), (.int .i64 (.v 2)), (.int .i64 (.v 3)), (.sl (.v 4) (.v 5) (.v 6)), (.int .i64 (.v 8)), (.int .i64 (.v 9)), (.int .i64 (.v 10)), (.sl (.v 11) (.v 12) (.v 13))] 156)), ((.a 4), (.prop 7)), ((.a 11), (.prop 14))] [.i] (.w (.a (.int .i64 (.v 21)))) [((.b (.v 0)), (.cells [(.int .i64 (.v 1)), (.int .i64 (.v 2)), (.int .i64 (.v 3)), (.sl (.v 4) (.v 5) (.v 6)), (.int .i64 (.v 8)), (.int .i64 (.v 9)), (.int .i64 (.v 10)), (.sl (.v 11) (.v 12) (.v 13))] 156)), ((.a 4), (.prop 7)), ((.a 11), (.prop 14))]
      (.read (.load 3 (.tmp 34)) 3 [(34, (.w (.a (.eptr 4 (.v 9) 1 0))))] [((.a 4), (.prop 7))] [.i] (.w (.a (.int .i64 (.v 22))))
      (.ret (.tup [(.a (.int .i64 (.v 22))), (.a (.int .i64 (.v 21))), (.agg [(.int .i64 (.v 16)), (.sl (.v 17) (.v 18) (.v 19))]), (.a (.bool (.c true)))]) [((.b (.v 0)), (.cells [(.int .i64 (.v 1)), (.int .i64 (.v 2)), (.int .i64 (.v 3)), (.sl (.v 4) (.v 5) (.v 6)), (.int .i64 (.v 8)), (.int .i64 (.v 9)), (.int .i64 (.v 10)), (.sl (.v 11) (.v 12) (.v 13))] 156)), ((.a 4), (.prop 7)), ((.a 11), (.prop 14)), ((.a 17), (.prop 20))])))))))
     (.call 93 [(.a (.ptr (.v 0) 0))] [((.b (.v 0)), (.cells [(.int .i64 (.v 1)), (.int .i64 (.v 2)), (.int .i64 (.v 3)), (.sl (.v 4) (.v 5) (.v 6)), (.int .i64 (.v 8)), (.int .i64 (.v 9)), (.int .i64 (.v 10)), (.sl (.v 11) (.v 12) (.v 13))] 156)), ((.a 4), (.prop 7)), ((.a 11), (.prop 14))] [.i] (.w (.a (.int .i64 (.v 21)))) [((.b (.v 0)), (.cells [(.int .i64 (.v 1)), (.int .i64 (.v 2)), (.int .i64 (.v 3)), (.sl (.v 4) (.v 5) (.v 6)), (.int .i64 (.v 8)), (.int .i64 (.v 9)), (.int .i64 (.v 10)), (.sl (.v 11) (.v 12) (.v 13))] 156)), ((.a 4), (.prop 7)), ((.a 11), (.prop 14))]
     (.need (.o2 .le (.i 0) (.v 9))
     (.need (.o2 .lt (.v 9) (.o1 .ofNat (.v 5)))
     (.need (.o1 .isSome (.v 4))
     (.read (.load 3 (.tmp 34)) 3 [(34, (.w (.a (.eptr 4 (.v 9) 1 0))))] [((.a 4), (.prop 7))] [.i] (.w (.a (.int .i64 (.v 22))))
     (.ret (.tup [(.a (.int .i64 (.v 22))), (.a (.int .i64 (.v 21))), (.agg [(.int .i64 (.v 16)), (.sl (.v 17) (.v 18) (.v 19))]), (.a (.bool (.c true)))]) [((.b (.v 0)), (.cells [(.int .i64 (.v 1)), (.int .i64 (.v 2)), (.int .i64 (.v 3)), (.sl (.v 4) (.v 5) (.v 6)), (.int .i64 (.v 8)), (.int .i64 (.v 9)), (.int .i64 (.v 10)), (.sl (.v 11) (.v 12) (.v 13))] 156)), ((.a 4), (.prop 7)), ((.a 11), (.prop 14)), ((.a 17), (.prop 20))])))))))
    (.call 93 [(.a (.ptr (.v 0) 0))] [((.b (.v 0)), (.cells [(.int .i64 (.v 1)), (.int .i64 (.v 2)), (.int .i64 (.v 3)), (.sl (.v 4) (.v 5) (.v 6)), (.int .i64 (.v 8)), (.int .i64 (.v 9)), (.int .i64 (.v 10)), (.sl (.v 11) (.v 12) (.v 13))] 156)), ((.a 4), (.prop 7)), ((.a 11), (.prop 14))] [.i] (.w (.a (.int .i64 (.v 21)))) [((.b (.v 0)), (.cells [(.int .i64 (.v 1)), (.int .i64 (.v 2)), (.int .i64 (.v 3)), (.sl (.v 4) (.v 5) (.v 6)), (.int .i64 (.v 8)), (.int .i64 (.v 9)), (.int .i64 (.v 10)), (.sl (.v 11) (.v 12) (.v 13))] 156)), ((.a 4), (.prop 7)), ((.a 11), (.prop 14))]
    (.all
     (.need (.o2 .le (.i 0) (.v 9))
     (.need (.o2 .lt (.v 9) (.o1 .ofNat (.v 5)))
     (.need (.o1 .isSome (.v 4))
     (.read (.load 3 (.tmp 34)) 3 [(34, (.w (.a (.eptr 4 (.v 9) 1 0))))] [((.a 4), (.prop 7))] [.i] (.w (.a (.int .i64 (.v 22))))
     (.ret (.tup [(.a (.int .i64 (.v 22))), (.a (.int .i64 (.v 21))), (.agg [(.int .i64 (.v 16)), (.sl (.v 17) (.v 18) (.v 19))]), (.a (.bool (.c true)))]) [((.b (.v 0)), (.cells [(.int .i64 (.v 1)), (.int .i64 (.v 2)), (.int .i64 (.v 3)), (.sl (.v 4) (.v 5) (.v 6)), (.int .i64 (.v 8)), (.int .i64 (.v 9)), (.int .i64 (.v 10)), (.sl (.v 11) (.v 12) (.v 13))] 156)), ((.a 4), (.prop 7)), ((.a 11), (.prop 14)), ((.a 17), (.prop 20))])))))
     (.need (.o2 .le (.i 0) (.v 9))
     (.need (.o2 .lt (.v 9) (.o1 .ofNat (.v 5)))
     (.need (.o1 .isSome (.v 4))
     (.read (.load 3 (.tmp 34)) 3 [(34, (.w (.a (.eptr 4 (.v 9) 1 0))))] [((.a 4), (.prop 7))] [.i] (.w (.a (.int .i64 (.v 22))))
     (.ret (.tup [(.a (.int .i64 (.v 22))), (.a (.int .i64 (.v 21))), (.agg [(.int .i64 (.v 16)), (.sl (.v 17) (.v 18) (.v 19))]), (.a (.bool (.c true)))]) [((.b (.v 0)), (.cells [(.int .i64 (.v 1)), (.int .i64 (.v 2)), (.int .i64 (.v 3)), (.sl (.v 4) (.v 5) (.v 6)), (.int .i64 (.v 8)), (.int .i64 (.v 9)), (.int .i64 (.v 10)), (.sl (.v 11) (.v 12) (.v 13))] 156)), ((.a 4), (.prop 7)), ((.a 11), (.prop 14)), ((.a 17), (.prop 20))]))))))))))
  (.br (.o2 .eq (.v 8) (.i 3))
   (.all
    (.all
     (.need (.o2 .le (.i 0) (.v 9))
     (.need (.o2 .lt (.v 9) (.o1 .ofNat (.v 5)))
     (.need (.o1 .isSome (.v 4))
     (.all
      (.read (.load 3 (.tmp 34)) 3 [(34, (.w (.a (.eptr 4 (.v 9) 1 0))))] [((.a 4), (.prop 7))] [.i] (.w (.a (.int .i64 (.v 16))))
      (.call 93 [(.a (.ptr (.v 0) 0))] [((.b (.v 0)), (.cells [(.int .i64 (.v 1)), (.int .i64 (.v 2)), (.int .i64 (.v 3)), (.sl (.v 4) (.v 5) (.v 6)), (.int .i64 (.v 8)), (.int .i64 (.v 9)), (.int .i64 (.v 10)), (.sl (.v 11) (.v 12) (.v 13))] 156)), ((.a 4), (.prop 7)), ((.a 11), (.prop 14))] [.i] (.w (.a (.int .i64 (.v 17)))) [((.b (.v 0)), (.cells [(.int .i64 (.v 1)), (.int .i64 (.v 2)), (.int .i64 (.v 3)), (.sl (.v 4) (.v 5) (.v 6)), (.int .i64 (.v 8)), (.int .i64 (.v 9)), (.int .i64 (.v 10)), (.sl (.v 11) (.v 12) (.v 13))] 156)), ((.a 4), (.prop 7)), ((.a 11), (.prop 14))]
      (.ret (.tup [(.a (.int .i64 (.v 16))), (.a (.int .i64 (.v 17))), (.agg [(.int .i64 (.i 2)), (.sl .nil (.n 0) (.n 0))]), (.a (.bool (.c true)))]) [((.b (.v 0)), (.cells [(.int .i64 (.v 1)), (.int .i64 (.v 2)), (.int .i64 (.v 3)), (.sl (.v 4) (.v 5) (.v 6)), (.int .i64 (.v 8)), (.int .i64 (.v 9)), (.int .i64 (.v 10)), (.sl (.v 11) (.v 12) (.v 13))] 156)), ((.a 4), (.prop 7)), ((.a 11), (.prop 14))])))
      (.call 93 [(.a (.ptr (.v 0) 0))] [((.b (.v 0)), (.cells [(.int .i64 (.v 1)), (.int .i64 (.v 2)), (.int .i64 (.v 3)), (.sl (.v 4) (.v 5) (.v 6)), (.int .i64 (.v 8)), (.int .i64 (.v 9)), (.int .i64 (.v 10)), (.sl (.v 11) (.v 12) (.v 13))] 156)), ((.a 4), (.prop 7)), ((.a 11), (.prop 14))] [.i] (.w (.a (.int .i64 (.v 16)))) [((.b (.v 0)), (.cells [(.int .i64 (.v 1)), (.int .i64 (.v 2)), (.int .i64 (.v 3)), (.sl (.v 4) (.v 5) (.v 6)), (.int .i64 (.v 8)), (.int .i64 (.v 9)), (.int .i64 (.v 10)), (.sl (.v 11) (.v 12) (.v 13))] 156)), ((.a 4), (.prop 7)), ((.a 11), (.prop 14))]
      (.read (.load 3 (.tmp 34)) 3 [(34, (.w (.a (.eptr 4 (.v 9) 1 0))))] [((.a 4), (.prop 7))] [.i] (.w (.a (.int .i64 (.v 17))))
      (.ret (.tup [(.a (.int .i64 (.v 17))), (.a (.int .i64 (.v 16))), (.agg [(.int .i64 (.i 2)), (.sl .nil (.n 0) (.n 0))]), (.a (.bool (.c true)))]) [((.b (.v 0)), (.cells [(.int .i64 (.v 1)), (.int .i64 (.v 2)), (.int .i64 (.v 3)), (.sl (.v 4) (.v 5) (.v 6)), (.int .i64 (.v 8)), (.int .i64 (.v 9)), (.int .i64 (.v 10)), (.sl (.v 11) (.v 12) (.v 13))] 156)), ((.a 4), (.prop 7)), ((.a 11), (.prop 14))])))))))
     (.call 93 [(.a (.ptr (.v 0) 0))] [((.b (.v 0)), (.cells [(.int .i64 (.v 1)), (.int .i64 (.v 2)), (.int .i64 (.v 3)), (.sl (.v 4) (.v 5) (.v 6)), (.int .i64 (.v 8)), (.int .i64 (.v 9)), (.int .i64 (.v 10)), (.sl (.v 11) (.v 12) (.v 13))] 156)), ((.a 4), (.prop 7)), ((.a 11), (.prop 14))] [.i] (.w (.a (.int .i64 (.v 16)))) [((.b (.v 0)), (.cells [(.int .i64 (.v 1)), (.int .i64 (.v 2)), (.int .i64 (.v 3)), (.sl (.v 4) (.v 5) (.v 6)), (.int .i64 (.v 8)), (.int .i64 (.v 9)), (.int .i64 (.v 10)), (.sl (.v 11) (.v 12) (.v 13))] 156)), ((.a 4), (.prop 7)), ((.a 11), (.prop 14))]
     (.need (.o2 .le (.i 0) (.v 9))
     (.need (.o2 .lt (.v 9) (.o1 .ofNat (.v 5)))
     (.need (.o1 .isSome (.v 4))
     (.read (.load 3 (.tmp 34)) 3 [(34, (.w (.a (.eptr 4 (.v 9) 1 0))))] [((.a 4), (.prop 7))] [.i] (.w (.a (.int .i64 (.v 17))))
     (.ret (.tup [(.a (.int .i64 (.v 17))), (.a (.int .i64 (.v 16))), (.agg [(.int .i64 (.i 2)), (.sl .nil (.n 0) (.n 0))]), (.a (.bool (.c true)))]) [((.b (.v 0)), (.cells [(.int .i64 (.v 1)), (.int .i64 (.v 2)), (.int .i64 (.v 3)), (.sl (.v 4) (.v 5) (.v 6)), (.int .i64 (.v 8)), (.int .i64 (.v 9)), (.int .i64 (.v 10)), (.sl (.v 11) (.v 12) (.v 13))] 156)), ((.a 4), (.prop 7)), ((.a 11), (.prop 14))])))))))
    (.all
     (.all
      (.need (.o2 .le (.i 0) (.v 9))
      (.need (.o2 .lt (.v 9) (.o1 .ofNat (.v 5)))
      (.need (.o1 .isSome (.v 4))
      (.all
       (.read (.load 3 (.tmp 34)) 3 [(34, (.w (.a (.eptr 4 (.v 9) 1 0))))] [((.a 4), (.prop 7))] [.i] (.w (.a (.int .i64 (.v 16))))
       (.call 93 [(.a (.ptr (.v 0) 0))] [((.b (.v 0)), (.cells [(.int .i64 (.v 1)), (.int .i64 (.v 2)), (.int .i64 (.v 3)), (.sl (.v 4) (.v 5) (.v 6)), (.int .i64 (.v 8)), (.int .i64 (.v 9)), (.int .i64 (.v 10)), (.sl (.v 11) (.v 12) (.v 13))] 156)), ((.a 4), (.prop 7)), ((.a 11), (.prop 14))] [.i] (.w (.a (.int .i64 (.v 17)))) [((.b (.v 0)), (.cells [(.int .i64 (.v 1)), (.int .i64 (.v 2)), (.int .i64 (.v 3)), (.sl (.v 4) (.v 5) (.v 6)), (.int .i64 (.v 8)), (.int .i64 (.v 9)), (.int .i64 (.v 10)), (.sl (.v 11) (.v 12) (.v 13))] 156)), ((.a 4), (.prop 7)), ((.a 11), (.prop 14))]
       (.ret (.tup [(.a (.int .i64 (.v 16))), (.a (.int .i64 (.v 17))), (.agg [(.int .i64 (.i 2)), (.sl .nil (.n 0) (.n 0))]), (.a (.bool (.c true)))]) [((.b (.v 0)), (.cells [(.int .i64 (.v 1)), (.int .i64 (.v 2)), (.int .i64 (.v 3)), (.sl (.v 4) (.v 5) (.v 6)), (.int .i64 (.v 8)), (.int .i64 (.v 9)), (.int .i64 (.v 10)), (.sl (.v 11) (.v 12) (.v 13))] 156)), ((.a 4), (.prop 7)), ((.a 11), (.prop 14))])))
       (.call 93 [(.a (.ptr (.v 0) 0))] [((.b (.v 0)), (.cells [(.int .i64 (.v 1)), (.int .i64 (.v 2)), (.int .i64 (.v 3)), (.sl (.v 4) (.v 5) (.v 6)), (.int .i64 (.v 8)), (.int .i64 (.v 9)), (.int .i64 (.v 10)), (.sl (.v 11) (.v 12) (.v 13))] 156)), ((.a 4), (.prop 7)), ((.a 11), (.prop 14))] [.i] (.w (.a (.int .i64 (.v 16)))) [((.b (.v 0)), (.cells [(.int .i64 (.v 1)), (.int .i64 (.v 2)), (.int .i64 (.v 3)), (.sl (.v 4) (.v 5) (.v 6)), (.int .i64 (.v 8)), (.int .i64 (.v 9)), (.int .i64 (.v 10)), (.sl (.v 11) (.v 12) (.v 13))] 156)), ((.a 4), (.prop 7)), ((.a 11), (.prop 14))]
       (.read (.load 3 (.tmp 34)) 3 [(34, (.w (.a (.eptr 4 (.v 9) 1 0))))] [((.a 4), (.prop 7))] [.i] (.w (.a (.int .i64 (.v 17))))
       (.ret (.tup [(.a (.int .i64 (.v 17))), (.a (.int .i64 (.v 16))), (.agg [(.int .i64 (.i 2)), (.sl .nil (.n 0) (.n 0))]), (.a (.bool (.c true)))]) [((.b (.v 0)), (.cells [(.int .i64 (.v 1)), (.int .i64 (.v 2)), (.int .i64 (.v 3)), (.sl (.v 4) (.v 5) (.v 6)), (.int .i64 (.v 8)), (.int .i64 (.v 9)), (.int .i64 (.v 10)), (.sl (.v 11) (.v 12) (.v 13))] 156)), ((.a 4), (.prop 7)), ((.a 11), (.prop 14))])))))))
      (.call 93 [(.a (.ptr (.v 0) 0))] [((.b (.v 0)), (.cells [(.int .i64 (.v 1)), (.int .i64 (.v 2)), (.int .i64 (.v 3)), (.sl (.v 4) (.v 5) (.v 6)), (.int .i64 (.v 8)), (.int .i64 (.v 9)), (.int .i64 (.v 10)), (.sl (.v 11) (.v 12) (.v 13))] 156)), ((.a 4), (.prop 7)), ((.a 11), (.prop 14))] [.i] (.w (.a (.int .i64 (.v 16)))) [((.b (.v 0)), (.cells [(.int .i64 (.v 1)), (.int .i64 (.v 2)), (.int .i64 (.v 3)), (.sl (.v 4) (.v 5) (.v 6)), (.int .i64 (.v 8)), (.int .i64 (.v 9)), (.int .i64 (.v 10)), (.sl (.v 11) (.v 12) (.v 13))] 156)), ((.a 4), (.prop 7)), ((.a 11), (.prop 14))]
      (.need (.o2 .le (.i 0) (.v 9))
      (.need (.o2 .lt (.v 9) (.o1 .ofNat (.v 5)))
      (.need (.o1 .isSome (.v 4))
      (.read (.load 3 (.tmp 34)) 3 [(34, (.w (.a (.eptr 4 (.v 9) 1 0))))] [((.a 4), (.prop 7))] [.i] (.w (.a (.int .i64 (.v 17))))
      (.ret (.tup [(.a (.int .i64 (.v 17))), (.a (.int .i64 (.v 16))), (.agg [(.int .i64 (.i 2)), (.sl .nil (.n 0) (.n 0))]), (.a (.bool (.c true)))]) [((.b (.v 0)), (.cells [(.int .i64 (.v 1)), (.int .i64 (.v 2)), (.int .i64 (.v 3)), (.sl (.v 4) (.v 5) (.v 6)), (.int .i64 (.v 8)), (.int .i64 (.v 9)), (.int .i64 (.v 10)), (.sl (.v 11) (.v 12) (.v 13))] 156)), ((.a 4), (.prop 7)), ((.a 11), (.prop 14))])))))))
     (.call 93 [(.a (.ptr (.v 0) 0))] [((.b (.v 0)), (.cells [(.int .i64 (.v 1)), (.int .i64 (.v 2)), (.int .i64 (.v 3)), (.sl (.v 4) (.v 5) (.v 6)), (.int .i64 (.v 8)), (.int .i64 (.v 9)), (.int .i64 (.v 10)), (.sl (.v 11) (.v 12) (.v 13))] 156)), ((.a 4), (.prop 7)), ((.a 11), (.prop 14))] [.i] (.w (.a (.int .i64 (.v 16)))) [((.b (.v 0)), (.cells [(.int .i64 (.v 1)), (.int .i64 (.v 2)), (.int .i64 (.v 3)), (.sl (.v 4) (.v 5) (.v 6)), (.int .i64 (.v 8)), (.int .i64 (.v 9)), (.int .i64 (.v 10)), (.sl (.v 11) (.v 12) (.v 13))] 156)), ((.a 4), (.prop 7)), ((.a 11), (.prop 14))]
     (.all
      (.need (.o2 .le (.i 0) (.v 9))
      (.need (.o2 .lt (.v 9) (.o1 .ofNat (.v 5)))
      (.need (.o1 .isSome (.v 4))
      (.read (.load 3 (.tmp 34)) 3 [(34, (.w (.a (.eptr 4 (.v 9) 1 0))))] [((.a 4), (.prop 7))] [.i] (.w (.a (.int .i64 (.v 17))))
      (.ret (.tup [(.a (.int .i64 (.v 17))), (.a (.int .i64 (.v 16))), (.agg [(.int .i64 (.i 2)), (.sl .nil (.n 0) (.n 0))]), (.a (.bool (.c true)))]) [((.b (.v 0)), (.cells [(.int .i64 (.v 1)), (.int .i64 (.v 2)), (.int .i64 (.v 3)), (.sl (.v 4) (.v 5) (.v 6)), (.int .i64 (.v 8)), (.int .i64 (.v 9)), (.int .i64 (.v 10)), (.sl (.v 11) (.v 12) (.v 13))] 156)), ((.a 4), (.prop 7)), ((.a 11), (.prop 14))])))))
      (.need (.o2 .le (.i 0) (.v 9))
      (.need (.o2 .lt (.v 9) (.o1 .ofNat (.v 5)))
      (.need (.o1 .isSome (.v 4))
      (.read (.load 3 (.tmp 34)) 3 [(34, (.w (.a (.eptr 4 (.v 9) 1 0))))] [((.a 4), (.prop 7))] [.i] (.w (.a (.int .i64 (.v 17))))
      (.ret (.tup [(.a (.int .i64 (.v 17))), (.a (.int .i64 (.v 16))), (.agg [(.int .i64 (.i 2)), (.sl .nil (.n 0) (.n 0))]), (.a (.bool (.c true)))]) [((.b (.v 0)), (.cells [(.int .i64 (.v 1)), (.int .i64 (.v 2)), (.int .i64 (.v 3)), (.sl (.v 4) (.v 5) (.v 6)), (.int .i64 (.v 8)), (.int .i64 (.v 9)), (.int .i64 (.v 10)), (.sl (.v 11) (.v 12) (.v 13))] 156)), ((.a 4), (.prop 7)), ((.a 11), (.prop 14))])))))))))
   (.all
    (.all
     (.need (.o2 .le (.i 0) (.v 9))
     (.need (.o2 .lt (.v 9) (.o1 .ofNat (.v 5)))
     (.need (.o1 .isSome (.v 4))
     (.all
      (.read (.load 3 (.tmp 34)) 3 [(34, (.w (.a (.eptr 4 (.v 9) 1 0))))] [((.a 4), (.prop 7))] [.i] (.w (.a (.int .i64 (.v 16))))
      (.call 93 [(.a (.ptr (.v 0) 0))] [((.b (.v 0)), (.cells [(.int .i64 (.v 1)), (.int .i64 (.v 2)), (.int .i64 (.v 3)), (.sl (.v 4) (.v 5) (.v 6)), (.int .i64 (.v 8)), (.int .i64 (.v 9)), (.int .i64 (.v 10)), (.sl (.v 11) (.v 12) (.v 13))] 156)), ((.a 4), (.prop 7)), ((.a 11), (.prop 14))] [.i] (.w (.a (.int .i64 (.v 17)))) [((.b (.v 0)), (.cells [(.int .i64 (.v 1)), (.int .i64 (.v 2)), (.int .i64 (.v 3)), (.sl (.v 4) (.v 5) (.v 6)), (.int .i64 (.v 8)), (.int .i64 (.v 9)), (.int .i64 (.v 10)), (.sl (.v 11) (.v 12) (.v 13))] 156)), ((.a 4), (.prop 7)), ((.a 11), (.prop 14))]
      (.ret (.tup [(.a (.int .i64 (.v 16))), (.a (.int .i64 (.v 17))), (.agg [(.int .i64 (.i 0)), (.sl .nil (.n 0) (.n 0))]), (.a (.bool (.c true)))]) [((.b (.v 0)), (.cells [(.int .i64 (.v 1)), (.int .i64 (.v 2)), (.int .i64 (.v 3)), (.sl (.v 4) (.v 5) (.v 6)), (.int .i64 (.v 8)), (.int .i64 (.v 9)), (.int .i64 (.v 10)), (.sl (.v 11) (.v 12) (.v 13))] 156)), ((.a 4), (.prop 7)), ((.a 11), (.prop 14))])))
      (.call 93 [(.a (.ptr (.v 0) 0))] [((.b (.v 0)), (.cells [(.int .i64 (.v 1)), (.int .i64 (.v 2)), (.int .i64 (.v 3)), (.sl (.v 4) (.v 5) (.v 6)), (.int .i64 (.v 8)), (.int .i64 (.v 9)), (.int .i64 (.v 10)), (.sl (.v 11) (.v 12) (.v 13))] 156)), ((.a 4), (.prop 7)), ((.a 11), (.prop 14))] [.i] (.w (.a (.int .i64 (.v 16)))) [((.b (.v 0)), (.cells [(.int .i64 (.v 1)), (.int .i64 (.v 2)), (.int .i64 (.v 3)), (.sl (.v 4) (.v 5) (.v 6)), (.int .i64 (.v 8)), (.int .i64 (.v 9)), (.int .i64 (.v 10)), (.sl (.v 11) (.v 12) (.v 13))] 156)), ((.a 4), (.prop 7)), ((.a 11), (.prop 14))]
      (.read (.load 3 (.tmp 34)) 3 [(34, (.w (.a (.eptr 4 (.v 9) 1 0))))] [((.a 4), (.prop 7))] [.i] (.w (.a (.int .i64 (.v 17))))
      (.ret (.tup [(.a (.int .i64 (.v 17))), (.a (.int .i64 (.v 16))), (.agg [(.int .i64 (.i 0)), (.sl .nil (.n 0) (.n 0))]), (.a (.bool (.c true)))]) [((.b (.v 0)), (.cells [(.int .i64 (.v 1)), (.int .i64 (.v 2)), (.int .i64 (.v 3)), (.sl (.v 4) (.v 5) (.v 6)), (.int .i64 (.v 8)), (.int .i64 (.v 9)), (.int .i64 (.v 10)), (.sl (.v 11) (.v 12) (.v 13))] 156)), ((.a 4), (.prop 7)), ((.a 11), (.prop 14))])))))))
     (.call 93 [(.a (.ptr (.v 0) 0))] [((.b (.v 0)), (.cells [(.int .i64 (.v 1)), (.int .i64 (.v 2)), (.int .i64 (.v 3)), (.sl (.v 4) (.v 5) (.v 6)), (.int .i64 (.v 8)), (.int .i64 (.v 9)), (.int .i64 (.v 10)), (.sl (.v 11) (.v 12) (.v 13))] 156)), ((.a 4), (.prop 7)), ((.a 11), (.prop 14))] [.i] (.w (.a (.int .i64 (.v 16)))) [((.b (.v 0)), (.cells [(.int .i64 (.v 1)), (.int .i64 (.v 2)), (.int .i64 (.v 3)), (.sl (.v 4) (.v 5) (.v 6)), (.int .i64 (.v 8)), (.int .i64 (.v 9)), (.int .i64 (.v 10)), (.sl (.v 11) (.v 12) (.v 13))] 156)), ((.a 4), (.prop 7)), ((.a 11), (.prop 14))]
     (.need (.o2 .le (.i 0) (.v 9))
     (.need (.o2 .lt (.v 9) (.o1 .ofNat (.v 5)))
     (.need (.o1 .isSome (.v 4))
     (.read (.load 3 (.tmp 34)) 3 [(34, (.w (.a (.eptr 4 (.v 9) 1 0))))] [((.a 4), (.prop 7))] [.i] (.w (.a (.int .i64 (.v 17))))
     (.ret (.tup [(.a (.int .i64 (.v 17))), (.a (.int .i64 (.v 16))), (.agg [(.int .i64 (.i 0)), (.sl .nil (.n 0) (.n 0))]), (.a (.bool (.c true)))]) [((.b (.v 0)), (.cells [(.int .i64 (.v 1)), (.int .i64 (.v 2)), (.int .i64 (.v 3)), (.sl (.v 4) (.v 5) (.v 6)), (.int .i64 (.v 8)), (.int .i64 (.v 9)), (.int .i64 (.v 10)), (.sl (.v 11) (.v 12) (.v 13))] 156)), ((.a 4), (.prop 7)), ((.a 11), (.prop 14))])))))))
    (.all
     (.all
      (.need (.o2 .le (.i 0) (.v 9))
      (.need (.o2 .lt (.v 9) (.o1 .ofNat (.v 5)))
      (.need (.o1 .isSome (.v 4))
      (.all
       (.read (.load 3 (.tmp 34)) 3 [(34, (.w (.a (.eptr 4 (.v 9) 1 0))))] [((.a 4), (.prop 7))] [.i] (.w (.a (.int .i64 (.v 16))))
       (.call 93 [(.a (.ptr (.v 0) 0))] [((.b (.v 0)), (.cells [(.int .i64 (.v 1)), (.int .i64 (.v 2)), (.int .i64 (.v 3)), (.sl (.v 4) (.v 5) (.v 6)), (.int .i64 (.v 8)), (.int .i64 (.v 9)), (.int .i64 (.v 10)), (.sl (.v 11) (.v 12) (.v 13))] 156)), ((.a 4), (.prop 7)), ((.a 11), (.prop 14))] [.i] (.w (.a (.int .i64 (.v 17)))) [((.b (.v 0)), (.cells [(.int .i64 (.v 1)), (.int .i64 (.v 2)), (.int .i64 (.v 3)), (.sl (.v 4) (.v 5) (.v 6)), (.int .i64 (.v 8)), (.int .i64 (.v 9)), (.int .i64 (.v 10)), (.sl (.v 11) (.v 12) (.v 13))] 156)), ((.a 4), (.prop 7)), ((.a 11), (.prop 14))]
       (.ret (.tup [(.a (.int .i64 (.v 16))), (.a (.int .i64 (.v 17))), (.agg [(.int .i64 (.i 0)), (.sl .nil (.n 0) (.n 0))]), (.a (.bool (.c true)))]) [((.b (.v 0)), (.cells [(.int .i64 (.v 1)), (.int .i64 (.v 2)), (.int .i64 (.v 3)), (.sl (.v 4) (.v 5) (.v 6)), (.int .i64 (.v 8)), (.int .i64 (.v 9)), (.int .i64 (.v 10)), (.sl (.v 11) (.v 12) (.v 13))] 156)), ((.a 4), (.prop 7)), ((.a 11), (.prop 14))])))
       (.call 93 [(.a (.ptr (.v 0) 0))] [((.b (.v 0)), (.cells [(.int .i64 (.v 1)), (.int .i64 (.v 2)), (.int .i64 (.v 3)), (.sl (.v 4) (.v 5) (.v 6)), (.int .i64 (.v 8)), (.int .i64 (.v 9)), (.int .i64 (.v 10)), (.sl (.v 11) (.v 12) (.v 13))] 156)), ((.a 4), (.prop 7)), ((.a 11), (.prop 14))] [.i] (.w (.a (.int .i64 (.v 16)))) [((.b (.v 0)), (.cells [(.int .i64 (.v 1)), (.int .i64 (.v 2)), (.int .i64 (.v 3)), (.sl (.v 4) (.v 5) (.v 6)), (.int .i64 (.v 8)), (.int .i64 (.v 9)), (.int .i64 (.v 10)), (.sl (.v 11) (.v 12) (.v 13))] 156)), ((.a 4), (.prop 7)), ((.a 11), (.prop 14))]
       (.read (.load 3 (.tmp 34)) 3 [(34, (.w (.a (.eptr 4 (.v 9) 1 0))))] [((.a 4), (.prop 7))] [.i] (.w (.a (.int .i64 (.v 17))))
       (.ret (.tup [(.a (.int .i64 (.v 17))), (.a (.int .i64 (.v 16))), (.agg [(.int .i64 (.i 0)), (.sl .nil (.n 0) (.n 0))]), (.a (.bool (.c true)))]) [((.b (.v 0)), (.cells [(.int .i64 (.v 1)), (.int .i64 (.v 2)), (.int .i64 (.v 3)), (.sl (.v 4) (.v 5) (.v 6)), (.int .i64 (.v 8)), (.int .i64 (.v 9)), (.int .i64 (.v 10)), (.sl (.v 11) (.v 12) (.v 13))] 156)), ((.a 4), (.prop 7)), ((.a 11), (.prop 14))])))))))
      (.call 93 [(.a (.ptr (.v 0) 0))] [((.b (.v 0)), (.cells [(.int .i64 (.v 1)), (.int .i64 (.v 2)), (.int .i64 (.v 3)), (.sl (.v 4) (.v 5) (.v 6)), (.int .i64 (.v 8)), (.int .i64 (.v 9)), (.int .i64 (.v 10)), (.sl (.v 11) (.v 12) (.v 13))] 156)), ((.a 4), (.prop 7)), ((.a 11), (.prop 14))] [.i] (.w (.a (.int .i64 (.v 16)))) [((.b (.v 0)), (.cells [(.int .i64 (.v 1)), (.int .i64 (.v 2)), (.int .i64 (.v 3)), (.sl (.v 4) (.v 5) (.v 6)), (.int .i64 (.v 8)), (.int .i64 (.v 9)), (.int .i64 (.v 10)), (.sl (.v 11) (.v 12) (.v 13))] 156)), ((.a 4), (.prop 7)), ((.a 11), (.prop 14))]
      (.need (.o2 .le (.i 0) (.v 9))
      (.need (.o2 .lt (.v 9) (.o1 .ofNat (.v 5)))
      (.need (.o1 .isSome (.v 4))
      (.read (.load 3 (.tmp 34)) 3 [(34, (.w (.a (.eptr 4 (.v 9) 1 0))))] [((.a 4), (.prop 7))] [.i] (.w (.a (.int .i64 (.v 17))))
      (.ret (.tup [(.a (.int .i64 (.v 17))), (.a (.int .i64 (.v 16))), (.agg [(.int .i64 (.i 0)), (.sl .nil (.n 0) (.n 0))]), (.a (.bool (.c true)))]) [((.b (.v 0)), (.cells [(.int .i64 (.v 1)), (.int .i64 (.v 2)), (.int .i64 (.v 3)), (.sl (.v 4) (.v 5) (.v 6)), (.int .i64 (.v 8)), (.int .i64 (.v 9)), (.int .i64 (.v 10)), (.sl (.v 11) (.v 12) (.v 13))] 156)), ((.a 4), (.prop 7)), ((.a 11), (.prop 14))])))))))
     (.call 93 [(.a (.ptr (.v 0) 0))] [((.b (.v 0)), (.cells [(.int .i64 (.v 1)), (.int .i64 (.v 2)), (.int .i64 (.v 3)), (.sl (.v 4) (.v 5) (.v 6)), (.int .i64 (.v 8)), (.int .i64 (.v 9)), (.int .i64 (.v 10)), (.sl (.v 11) (.v 12) (.v 13))] 156)), ((.a 4), (.prop 7)), ((.a 11), (.prop 14))] [.i] (.w (.a (.int .i64 (.v 16)))) [((.b (.v 0)), (.cells [(.int .i64 (.v 1)), (.int .i64 (.v 2)), (.int .i64 (.v 3)), (.sl (.v 4) (.v 5) (.v 6)), (.int .i64 (.v 8)), (.int .i64 (.v 9)), (.int .i64 (.v 10)), (.sl (.v 11) (.v 12) (.v 13))] 156)), ((.a 4), (.prop 7)), ((.a 11), (.prop 14))]
     (.all
      (.need (.o2 .le (.i 0) (.v 9))
      (.need (.o2 .lt (.v 9) (.o1 .ofNat (.v 5)))
      (.need (.o1 .isSome (.v 4))
      (.read (.load 3 (.tmp 34)) 3 [(34, (.w (.a (.eptr 4 (.v 9) 1 0))))] [((.a 4), (.prop 7))] [.i] (.w (.a (.int .i64 (.v 17))))
      (.ret (.tup [(.a (.int .i64 (.v 17))), (.a (.int .i64 (.v 16))), (.agg [(.int .i64 (.i 0)), (.sl .nil (.n 0) (.n 0))]), (.a (.bool (.c true)))]) [((.b (.v 0)), (.cells [(.int .i64 (.v 1)), (.int .i64 (.v 2)), (.int .i64 (.v 3)), (.sl (.v 4) (.v 5) (.v 6)), (.int .i64 (.v 8)), (.int .i64 (.v 9)), (.int .i64 (.v 10)), (.sl (.v 11) (.v 12) (.v 13))] 156)), ((.a 4), (.prop 7)), ((.a 11), (.prop 14))])))))
      (.need (.o2 .le (.i 0) (.v 9))
      (.need (.o2 .lt (.v 9) (.o1 .ofNat (.v 5)))
      (.need (.o1 .isSome (.v 4))
      (.read (.load 3 (.tmp 34)) 3 [(34, (.w (.a (.eptr 4 (.v 9) 1 0))))] [((.a 4), (.prop 7))] [.i] (.w (.a (.int .i64 (.v 17))))
      (.ret (.tup [(.a (.int .i64 (.v 17))), (.a (.int .i64 (.v 16))), (.agg [(.int .i64 (.i 0)), (.sl .nil (.n 0) (.n 0))]), (.a (.bool (.c true)))]) [((.b (.v 0)), (.cells [(.int .i64 (.v 1)), (.int .i64 (.v 2)), (.int .i64 (.v 3)), (.sl (.v 4) (.v 5) (.v 6)), (.int .i64 (.v 8)), (.int .i64 (.v 9)), (.int .i64 (.v 10)), (.sl (.v 11) (.v 12) (.v 13))] 156)), ((.a 4), (.prop 7)), ((.a 11), (.prop 14))])))))))))))))
theorem tree_cAsk : tree Try.prog { absT := [], opq := [], hv := [], keep := [128, 52, 54, 53, 56, 93, 92, 137, 127, 126, 72, 91, 90, 21], link := [], ent := [], turn := [(94, [0]), (129, [0])], shr := [], vt := [], mkd := [], rlink := [], pty := [], outl := false, stay := [], snk := [] } Try.f92 [(.a (.ptr (.v 0) 0))] [((.b (.v 0)), (.cells [(.int .i64 (.v 1)), (.int .i64 (.v 2)), (.int .i64 (.v 3)), (.sl (.v 4) (.v 5) (.v 6)), (.int .i64 (.v 8)), (.int .i64 (.v 9)), (.int .i64 (.v 10)), (.sl (.v 11) (.v 12) (.v 13))] 156)), ((.a 4), (.prop 7)), ((.a 11), (.prop 14))] 15 = t_cAsk := by kernel_rfl
-- (*tideline/chain.Op).write: ρ := [.n o, .i o_at, .i o_state, .i o_low, .a o_unitsa, .n o_unitsl, .n o_unitsc, .p o_unitsP, .i o_step, .i o_place, .i o_cell_What, .a o_cell_Dataa, .n o_cell_Datal, .n o_cell_Datac, .p o_cell_DataP, .i place, .i x_What, .a x_Dataa, .n x_Datal, .n x_Datac, .p x_DataP]
def t_cWrite : T :=
(.new
(.call 91 [(.agg [(.int .i64 (.v 16)), (.sl (.v 17) (.v 18) (.v 19))])] [((.a 17), (.prop 20))] [.i, .a, .n, .n, .p] (.w (.agg [(.int .i64 (.v 22)), (.sl (.v 23) (.v 24) (.v 25))])) [((.a 23), (.prop 26)), ((.a 17), (.prop 20))]
(.br (.o2 .le (.o1 .ofNat (.v 5)) (.v 15))
 (.ret (.tup []) [((.b (.v 0)), (.cells [(.int .i64 (.v 1)), (.int .i64 (.i 2)), (.int .i64 (.v 3)), (.sl (.v 4) (.v 5) (.v 6)), (.int .i64 (.i 0)), (.int .i64 (.v 15)), (.int .i64 (.v 22)), (.sl (.v 23) (.v 24) (.v 25))] 156)), ((.a 4), (.prop 7)), ((.a 23), (.prop 26)), ((.a 11), (.prop 14)), ((.a 17), (.prop 20))])
 (.ret (.tup []) [((.b (.v 0)), (.cells [(.int .i64 (.v 1)), (.int .i64 (.v 2)), (.int .i64 (.v 3)), (.sl (.v 4) (.v 5) (.v 6)), (.int .i64 (.i 0)), (.int .i64 (.v 15)), (.int .i64 (.v 22)), (.sl (.v 23) (.v 24) (.v 25))] 156)), ((.a 4), (.prop 7)), ((.a 23), (.prop 26)), ((.a 11), (.prop 14)), ((.a 17), (.prop 20))]))))
theorem tree_cWrite : tree Try.prog { absT := [], opq := [], hv := [], keep := [128, 52, 54, 53, 56, 93, 92, 137, 127, 126, 72, 91, 90, 21], link := [], ent := [], turn := [(94, [0]), (129, [0])], shr := [], vt := [], mkd := [], rlink := [], pty := [], outl := false, stay := [], snk := [] } Try.f129 [(.a (.ptr (.v 0) 0)), (.a (.int .i64 (.v 15))), (.agg [(.int .i64 (.v 16)), (.sl (.v 17) (.v 18) (.v 19))])] [((.b (.v 0)), (.cells [(.int .i64 (.v 1)), (.int .i64 (.v 2)), (.int .i64 (.v 3)), (.sl (.v 4) (.v 5) (.v 6)), (.int .i64 (.v 8)), (.int .i64 (.v 9)), (.int .i64 (.v 10)), (.sl (.v 11) (.v 12) (.v 13))] 156)), ((.a 4), (.prop 7)), ((.a 11), (.prop 14)), ((.a 17), (.prop 20))] 21 = t_cWrite := by kernel_rfl
-- (*tideline/chain.Op).goOn: ρ := [.n o, .i o_at, .i o_state, .i o_low, .a o_unitsa, .n o_unitsl, .n o_unitsc, .p o_unitsP, .i o_step, .i o_place, .i o_cell_What, .a o_cell_Dataa, .n o_cell_Datal, .n o_cell_Datac, .p o_cell_DataP, .i r_From, .i r_To, .i r_Number, .c r_Reply, .i r_Kind, .i r_Epoch, .i r_At, .i r_Cell_What, .a r_Cell_Dataa, .n r_Cell_Datal, .n r_Cell_Datac, .p r_Cell_DataP, .i r_Ballot_Round, .i r_Ballot_Who, .a r_Valuea, .n r_Valuel, .n r_Valuec, .p r_ValueP, .i r_Err, .i r_Tail, .i r_Low, .i r_Back]
def t_cGoOn : T :=
(.new
(.br (.o2 .eq (.v 8) (.i 0))
 (.br (.o2 .eq (.v 33) (.i 0))
  (.need (.o1 (.inr .i64) (.o2 .add (.v 9) (.i 1)))
  (.call 129 [(.a (.ptr (.v 0) 0)), (.a (.int .i64 (.o2 .add (.v 9) (.i 1)))), (.agg [(.int .i64 (.v 10)), (.sl (.v 11) (.v 12) (.v 13))])] [((.b (.v 0)), (.cells [(.int .i64 (.v 1)), (.int .i64 (.v 2)), (.int .i64 (.v 3)), (.sl (.v 4) (.v 5) (.v 6)), (.int .i64 (.v 8)), (.int .i64 (.v 9)), (.int .i64 (.v 10)), (.sl (.v 11) (.v 12) (.v 13))] 156)), ((.a 4), (.prop 7)), ((.a 11), (.prop 14))] [.i, .i, .i, .a, .n, .n, .p, .i, .i, .i, .a, .n, .n, .p] (.tup []) [((.b (.v 0)), (.cells [(.int .i64 (.v 38)), (.int .i64 (.v 39)), (.int .i64 (.v 40)), (.sl (.v 41) (.v 42) (.v 43)), (.int .i64 (.v 45)), (.int .i64 (.v 46)), (.int .i64 (.v 47)), (.sl (.v 48) (.v 49) (.v 50))] 156)), ((.a 41), (.prop 44)), ((.a 48), (.prop 51)), ((.a 4), (.prop 7)), ((.a 11), (.prop 14))]
  (.ret (.tup []) [((.b (.v 0)), (.cells [(.int .i64 (.v 38)), (.int .i64 (.v 39)), (.int .i64 (.v 40)), (.sl (.v 41) (.v 42) (.v 43)), (.int .i64 (.v 45)), (.int .i64 (.v 46)), (.int .i64 (.v 47)), (.sl (.v 48) (.v 49) (.v 50))] 156)), ((.a 41), (.prop 44)), ((.a 48), (.prop 51)), ((.a 4), (.prop 7)), ((.a 11), (.prop 14)), ((.a 23), (.prop 26)), ((.a 29), (.prop 32))])))
  (.br (.o2 .eq (.v 33) (.i 10))
   (.call 128 [(.agg [(.int .i64 (.v 22)), (.sl (.v 23) (.v 24) (.v 25))]), (.agg [(.int .i64 (.v 10)), (.sl (.v 11) (.v 12) (.v 13))])] [((.a 23), (.prop 26)), ((.a 11), (.prop 14))] [.c] (.w (.a (.bool (.v 38)))) [((.a 23), (.prop 26)), ((.a 11), (.prop 14))]
   (.br (.v 38)
    (.need (.o1 (.inr .i64) (.o2 .add (.v 9) (.i 1)))
    (.call 129 [(.a (.ptr (.v 0) 0)), (.a (.int .i64 (.o2 .add (.v 9) (.i 1)))), (.agg [(.int .i64 (.v 10)), (.sl (.v 11) (.v 12) (.v 13))])] [((.b (.v 0)), (.cells [(.int .i64 (.v 1)), (.int .i64 (.v 2)), (.int .i64 (.v 3)), (.sl (.v 4) (.v 5) (.v 6)), (.int .i64 (.v 8)), (.int .i64 (.v 9)), (.int .i64 (.v 10)), (.sl (.v 11) (.v 12) (.v 13))] 156)), ((.a 4), (.prop 7)), ((.a 11), (.prop 14))] [.i, .i, .i, .a, .n, .n, .p, .i, .i, .i, .a, .n, .n, .p] (.tup []) [((.b (.v 0)), (.cells [(.int .i64 (.v 39)), (.int .i64 (.v 40)), (.int .i64 (.v 41)), (.sl (.v 42) (.v 43) (.v 44)), (.int .i64 (.v 46)), (.int .i64 (.v 47)), (.int .i64 (.v 48)), (.sl (.v 49) (.v 50) (.v 51))] 156)), ((.a 42), (.prop 45)), ((.a 49), (.prop 52)), ((.a 4), (.prop 7)), ((.a 11), (.prop 14))]
    (.ret (.tup []) [((.b (.v 0)), (.cells [(.int .i64 (.v 39)), (.int .i64 (.v 40)), (.int .i64 (.v 41)), (.sl (.v 42) (.v 43) (.v 44)), (.int .i64 (.v 46)), (.int .i64 (.v 47)), (.int .i64 (.v 48)), (.sl (.v 49) (.v 50) (.v 51))] 156)), ((.a 42), (.prop 45)), ((.a 49), (.prop 52)), ((.a 4), (.prop 7)), ((.a 11), (.prop 14)), ((.a 23), (.prop 26)), ((.a 29), (.prop 32))])))
    (.br (.o2 .eq (.v 8) (.i 1))
     (.br (.o2 .eq (.v 33) (.i 9))
      (.br (.o2 .eq (.o1 .ofNat (.v 5)) (.i 1))
       (.ret (.tup []) [((.b (.v 0)), (.cells [(.int .i64 (.v 1)), (.int .i64 (.v 2)), (.int .i64 (.v 3)), (.sl (.v 4) (.v 5) (.v 6)), (.int .i64 (.i 3)), (.int .i64 (.i 0)), (.int .i64 (.v 10)), (.sl (.v 11) (.v 12) (.v 13))] 156)), ((.a 4), (.prop 7)), ((.a 11), (.prop 14)), ((.a 23), (.prop 26)), ((.a 29), (.prop 32))])
       (.ret (.tup []) [((.b (.v 0)), (.cells [(.int .i64 (.v 1)), (.int .i64 (.v 2)), (.int .i64 (.v 3)), (.sl (.v 4) (.v 5) (.v 6)), (.int .i64 (.i 2)), (.int .i64 (.i 0)), (.int .i64 (.v 10)), (.sl (.v 11) (.v 12) (.v 13))] 156)), ((.a 4), (.prop 7)), ((.a 11), (.prop 14)), ((.a 23), (.prop 26)), ((.a 29), (.prop 32))]))
      (.br (.o2 .eq (.v 8) (.i 2))
       (.br (.o2 .eq (.v 8) (.i 3))
        (.call 129 [(.a (.ptr (.v 0) 0)), (.a (.int .i64 (.i 1))), (.agg [(.int .i64 (.v 22)), (.sl (.v 23) (.v 24) (.v 25))])] [((.b (.v 0)), (.cells [(.int .i64 (.v 1)), (.int .i64 (.v 2)), (.int .i64 (.v 3)), (.sl (.v 4) (.v 5) (.v 6)), (.int .i64 (.v 8)), (.int .i64 (.v 9)), (.int .i64 (.v 10)), (.sl (.v 11) (.v 12) (.v 13))] 156)), ((.a 4), (.prop 7)), ((.a 11), (.prop 14)), ((.a 23), (.prop 26))] [.i, .i, .i, .a, .n, .n, .p, .i, .i, .i, .a, .n, .n, .p] (.tup []) [((.b (.v 0)), (.cells [(.int .i64 (.v 39)), (.int .i64 (.v 40)), (.int .i64 (.v 41)), (.sl (.v 42) (.v 43) (.v 44)), (.int .i64 (.v 46)), (.int .i64 (.v 47)), (.int .i64 (.v 48)), (.sl (.v 49) (.v 50) (.v 51))] 156)), ((.a 42), (.prop 45)), ((.a 49), (.prop 52)), ((.a 4), (.prop 7)), ((.a 11), (.prop 14)), ((.a 23), (.prop 26))]
        (.ret (.tup []) [((.b (.v 0)), (.cells [(.int .i64 (.v 39)), (.int .i64 (.v 40)), (.int .i64 (.v 41)), (.sl (.v 42) (.v 43) (.v 44)), (.int .i64 (.v 46)), (.int .i64 (.v 47)), (.int .i64 (.v 48)), (.sl (.v 49) (.v 50) (.v 51))] 156)), ((.a 42), (.prop 45)), ((.a 49), (.prop 52)), ((.a 4), (.prop 7)), ((.a 11), (.prop 14)), ((.a 23), (.prop 26)), ((.a 29), (.prop 32))]))
        (.ret (.tup []) [((.b (.v 0)), (.cells [(.int .i64 (.v 1)), (.int .i64 (.i 3)), (.int .i64 (.v 3)), (.sl (.v 4) (.v 5) (.v 6)), (.int .i64 (.v 8)), (.int .i64 (.v 9)), (.int .i64 (.v 10)), (.sl (.v 11) (.v 12) (.v 13))] 156)), ((.a 4), (.prop 7)), ((.a 11), (.prop 14)), ((.a 23), (.prop 26)), ((.a 29), (.prop 32))]))
       (.br (.o2 .eq (.v 8) (.i 3))
        (.call 129 [(.a (.ptr (.v 0) 0)), (.a (.int .i64 (.i 1))), (.agg [(.int .i64 (.v 22)), (.sl (.v 23) (.v 24) (.v 25))])] [((.b (.v 0)), (.cells [(.int .i64 (.v 1)), (.int .i64 (.v 2)), (.int .i64 (.v 3)), (.sl (.v 4) (.v 5) (.v 6)), (.int .i64 (.v 8)), (.int .i64 (.v 9)), (.int .i64 (.v 10)), (.sl (.v 11) (.v 12) (.v 13))] 156)), ((.a 4), (.prop 7)), ((.a 11), (.prop 14)), ((.a 23), (.prop 26))] [.i, .i, .i, .a, .n, .n, .p, .i, .i, .i, .a, .n, .n, .p] (.tup []) [((.b (.v 0)), (.cells [(.int .i64 (.v 39)), (.int .i64 (.v 40)), (.int .i64 (.v 41)), (.sl (.v 42) (.v 43) (.v 44)), (.int .i64 (.v 46)), (.int .i64 (.v 47)), (.int .i64 (.v 48)), (.sl (.v 49) (.v 50) (.v 51))] 156)), ((.a 42), (.prop 45)), ((.a 49), (.prop 52)), ((.a 4), (.prop 7)), ((.a 11), (.prop 14)), ((.a 23), (.prop 26))]
        (.ret (.tup []) [((.b (.v 0)), (.cells [(.int .i64 (.v 39)), (.int .i64 (.v 40)), (.int .i64 (.v 41)), (.sl (.v 42) (.v 43) (.v 44)), (.int .i64 (.v 46)), (.int .i64 (.v 47)), (.int .i64 (.v 48)), (.sl (.v 49) (.v 50) (.v 51))] 156)), ((.a 42), (.prop 45)), ((.a 49), (.prop 52)), ((.a 4), (.prop 7)), ((.a 11), (.prop 14)), ((.a 23), (.prop 26)), ((.a 29), (.prop 32))]))
        (.ret (.tup []) [((.b (.v 0)), (.cells [(.int .i64 (.v 1)), (.int .i64 (.i 3)), (.int .i64 (.v 3)), (.sl (.v 4) (.v 5) (.v 6)), (.int .i64 (.v 8)), (.int .i64 (.v 9)), (.int .i64 (.v 10)), (.sl (.v 11) (.v 12) (.v 13))] 156)), ((.a 4), (.prop 7)), ((.a 11), (.prop 14)), ((.a 23), (.prop 26)), ((.a 29), (.prop 32))]))))
     (.br (.o2 .eq (.v 8) (.i 2))
      (.br (.o2 .eq (.v 33) (.i 9))
       (.ret (.tup []) [((.b (.v 0)), (.cells [(.int .i64 (.v 1)), (.int .i64 (.v 2)), (.int .i64 (.v 3)), (.sl (.v 4) (.v 5) (.v 6)), (.int .i64 (.i 3)), (.int .i64 (.v 9)), (.int .i64 (.v 10)), (.sl (.v 11) (.v 12) (.v 13))] 156)), ((.a 4), (.prop 7)), ((.a 11), (.prop 14)), ((.a 23), (.prop 26)), ((.a 29), (.prop 32))])
       (.br (.o2 .eq (.v 8) (.i 3))
        (.call 129 [(.a (.ptr (.v 0) 0)), (.a (.int .i64 (.i 1))), (.agg [(.int .i64 (.v 22)), (.sl (.v 23) (.v 24) (.v 25))])] [((.b (.v 0)), (.cells [(.int .i64 (.v 1)), (.int .i64 (.v 2)), (.int .i64 (.v 3)), (.sl (.v 4) (.v 5) (.v 6)), (.int .i64 (.v 8)), (.int .i64 (.v 9)), (.int .i64 (.v 10)), (.sl (.v 11) (.v 12) (.v 13))] 156)), ((.a 4), (.prop 7)), ((.a 11), (.prop 14)), ((.a 23), (.prop 26))] [.i, .i, .i, .a, .n, .n, .p, .i, .i, .i, .a, .n, .n, .p] (.tup []) [((.b (.v 0)), (.cells [(.int .i64 (.v 39)), (.int .i64 (.v 40)), (.int .i64 (.v 41)), (.sl (.v 42) (.v 43) (.v 44)), (.int .i64 (.v 46)), (.int .i64 (.v 47)), (.int .i64 (.v 48)), (.sl (.v 49) (.v 50) (.v 51))] 156)), ((.a 42), (.prop 45)), ((.a 49), (.prop 52)), ((.a 4), (.prop 7)), ((.a 11), (.prop 14)), ((.a 23), (.prop 26))]
        (.ret (.tup []) [((.b (.v 0)), (.cells [(.int .i64 (.v 39)), (.int .i64 (.v 40)), (.int .i64 (.v 41)), (.sl (.v 42) (.v 43) (.v 44)), (.int .i64 (.v 46)), (.int .i64 (.v 47)), (.int .i64 (.v 48)), (.sl (.v 49) (.v 50) (.v 51))] 156)), ((.a 42), (.prop 45)), ((.a 49), (.prop 52)), ((.a 4), (.prop 7)), ((.a 11), (.prop 14)), ((.a 23), (.prop 26)), ((.a 29), (.prop 32))]))
        (.ret (.tup []) [((.b (.v 0)), (.cells [(.int .i64 (.v 1)), (.int .i64 (.i 3)), (.int .i64 (.v 3)), (.sl (.v 4) (.v 5) (.v 6)), (.int .i64 (.v 8)), (.int .i64 (.v 9)), (.int .i64 (.v 10)), (.sl (.v 11) (.v 12) (.v 13))] 156)), ((.a 4), (.prop 7)), ((.a 11), (.prop 14)), ((.a 23), (.prop 26)), ((.a 29), (.prop 32))])))
      (.br (.o2 .eq (.v 8) (.i 3))
       (.call 129 [(.a (.ptr (.v 0) 0)), (.a (.int .i64 (.i 1))), (.agg [(.int .i64 (.v 22)), (.sl (.v 23) (.v 24) (.v 25))])] [((.b (.v 0)), (.cells [(.int .i64 (.v 1)), (.int .i64 (.v 2)), (.int .i64 (.v 3)), (.sl (.v 4) (.v 5) (.v 6)), (.int .i64 (.v 8)), (.int .i64 (.v 9)), (.int .i64 (.v 10)), (.sl (.v 11) (.v 12) (.v 13))] 156)), ((.a 4), (.prop 7)), ((.a 11), (.prop 14)), ((.a 23), (.prop 26))] [.i, .i, .i, .a, .n, .n, .p, .i, .i, .i, .a, .n, .n, .p] (.tup []) [((.b (.v 0)), (.cells [(.int .i64 (.v 39)), (.int .i64 (.v 40)), (.int .i64 (.v 41)), (.sl (.v 42) (.v 43) (.v 44)), (.int .i64 (.v 46)), (.int .i64 (.v 47)), (.int .i64 (.v 48)), (.sl (.v 49) (.v 50) (.v 51))] 156)), ((.a 42), (.prop 45)), ((.a 49), (.prop 52)), ((.a 4), (.prop 7)), ((.a 11), (.prop 14)), ((.a 23), (.prop 26))]
       (.ret (.tup []) [((.b (.v 0)), (.cells [(.int .i64 (.v 39)), (.int .i64 (.v 40)), (.int .i64 (.v 41)), (.sl (.v 42) (.v 43) (.v 44)), (.int .i64 (.v 46)), (.int .i64 (.v 47)), (.int .i64 (.v 48)), (.sl (.v 49) (.v 50) (.v 51))] 156)), ((.a 42), (.prop 45)), ((.a 49), (.prop 52)), ((.a 4), (.prop 7)), ((.a 11), (.prop 14)), ((.a 23), (.prop 26)), ((.a 29), (.prop 32))]))
       (.ret (.tup []) [((.b (.v 0)), (.cells [(.int .i64 (.v 1)), (.int .i64 (.i 3)), (.int .i64 (.v 3)), (.sl (.v 4) (.v 5) (.v 6)), (.int .i64 (.v 8)), (.int .i64 (.v 9)), (.int .i64 (.v 10)), (.sl (.v 11) (.v 12) (.v 13))] 156)), ((.a 4), (.prop 7)), ((.a 11), (.prop 14)), ((.a 23), (.prop 26)), ((.a 29), (.prop 32))]))))))
   (.br (.o2 .eq (.v 8) (.i 1))
    (.br (.o2 .eq (.v 33) (.i 9))
     (.br (.o2 .eq (.o1 .ofNat (.v 5)) (.i 1))
      (.ret (.tup []) [((.b (.v 0)), (.cells [(.int .i64 (.v 1)), (.int .i64 (.v 2)), (.int .i64 (.v 3)), (.sl (.v 4) (.v 5) (.v 6)), (.int .i64 (.i 3)), (.int .i64 (.i 0)), (.int .i64 (.v 10)), (.sl (.v 11) (.v 12) (.v 13))] 156)), ((.a 4), (.prop 7)), ((.a 11), (.prop 14)), ((.a 23), (.prop 26)), ((.a 29), (.prop 32))])
      (.ret (.tup []) [((.b (.v 0)), (.cells [(.int .i64 (.v 1)), (.int .i64 (.v 2)), (.int .i64 (.v 3)), (.sl (.v 4) (.v 5) (.v 6)), (.int .i64 (.i 2)), (.int .i64 (.i 0)), (.int .i64 (.v 10)), (.sl (.v 11) (.v 12) (.v 13))] 156)), ((.a 4), (.prop 7)), ((.a 11), (.prop 14)), ((.a 23), (.prop 26)), ((.a 29), (.prop 32))]))
     (.br (.o2 .eq (.v 8) (.i 2))
      (.br (.o2 .eq (.v 8) (.i 3))
       (.ret (.tup []) [((.b (.v 0)), (.cells [(.int .i64 (.v 1)), (.int .i64 (.i 3)), (.int .i64 (.v 3)), (.sl (.v 4) (.v 5) (.v 6)), (.int .i64 (.v 8)), (.int .i64 (.v 9)), (.int .i64 (.v 10)), (.sl (.v 11) (.v 12) (.v 13))] 156)), ((.a 4), (.prop 7)), ((.a 11), (.prop 14)), ((.a 23), (.prop 26)), ((.a 29), (.prop 32))])
       (.ret (.tup []) [((.b (.v 0)), (.cells [(.int .i64 (.v 1)), (.int .i64 (.i 3)), (.int .i64 (.v 3)), (.sl (.v 4) (.v 5) (.v 6)), (.int .i64 (.v 8)), (.int .i64 (.v 9)), (.int .i64 (.v 10)), (.sl (.v 11) (.v 12) (.v 13))] 156)), ((.a 4), (.prop 7)), ((.a 11), (.prop 14)), ((.a 23), (.prop 26)), ((.a 29), (.prop 32))]))
      (.br (.o2 .eq (.v 8) (.i 3))
       (.ret (.tup []) [((.b (.v 0)), (.cells [(.int .i64 (.v 1)), (.int .i64 (.i 3)), (.int .i64 (.v 3)), (.sl (.v 4) (.v 5) (.v 6)), (.int .i64 (.v 8)), (.int .i64 (.v 9)), (.int .i64 (.v 10)), (.sl (.v 11) (.v 12) (.v 13))] 156)), ((.a 4), (.prop 7)), ((.a 11), (.prop 14)), ((.a 23), (.prop 26)), ((.a 29), (.prop 32))])
       (.ret (.tup []) [((.b (.v 0)), (.cells [(.int .i64 (.v 1)), (.int .i64 (.i 3)), (.int .i64 (.v 3)), (.sl (.v 4) (.v 5) (.v 6)), (.int .i64 (.v 8)), (.int .i64 (.v 9)), (.int .i64 (.v 10)), (.sl (.v 11) (.v 12) (.v 13))] 156)), ((.a 4), (.prop 7)), ((.a 11), (.prop 14)), ((.a 23), (.prop 26)), ((.a 29), (.prop 32))]))))
    (.br (.o2 .eq (.v 8) (.i 2))
     (.br (.o2 .eq (.v 33) (.i 9))
      (.ret (.tup []) [((.b (.v 0)), (.cells [(.int .i64 (.v 1)), (.int .i64 (.v 2)), (.int .i64 (.v 3)), (.sl (.v 4) (.v 5) (.v 6)), (.int .i64 (.i 3)), (.int .i64 (.v 9)), (.int .i64 (.v 10)), (.sl (.v 11) (.v 12) (.v 13))] 156)), ((.a 4), (.prop 7)), ((.a 11), (.prop 14)), ((.a 23), (.prop 26)), ((.a 29), (.prop 32))])
      (.br (.o2 .eq (.v 8) (.i 3))
       (.ret (.tup []) [((.b (.v 0)), (.cells [(.int .i64 (.v 1)), (.int .i64 (.i 3)), (.int .i64 (.v 3)), (.sl (.v 4) (.v 5) (.v 6)), (.int .i64 (.v 8)), (.int .i64 (.v 9)), (.int .i64 (.v 10)), (.sl (.v 11) (.v 12) (.v 13))] 156)), ((.a 4), (.prop 7)), ((.a 11), (.prop 14)), ((.a 23), (.prop 26)), ((.a 29), (.prop 32))])
       (.ret (.tup []) [((.b (.v 0)), (.cells [(.int .i64 (.v 1)), (.int .i64 (.i 3)), (.int .i64 (.v 3)), (.sl (.v 4) (.v 5) (.v 6)), (.int .i64 (.v 8)), (.int .i64 (.v 9)), (.int .i64 (.v 10)), (.sl (.v 11) (.v 12) (.v 13))] 156)), ((.a 4), (.prop 7)), ((.a 11), (.prop 14)), ((.a 23), (.prop 26)), ((.a 29), (.prop 32))])))
     (.br (.o2 .eq (.v 8) (.i 3))
      (.ret (.tup []) [((.b (.v 0)), (.cells [(.int .i64 (.v 1)), (.int .i64 (.i 3)), (.int .i64 (.v 3)), (.sl (.v 4) (.v 5) (.v 6)), (.int .i64 (.v 8)), (.int .i64 (.v 9)), (.int .i64 (.v 10)), (.sl (.v 11) (.v 12) (.v 13))] 156)), ((.a 4), (.prop 7)), ((.a 11), (.prop 14)), ((.a 23), (.prop 26)), ((.a 29), (.prop 32))])
      (.ret (.tup []) [((.b (.v 0)), (.cells [(.int .i64 (.v 1)), (.int .i64 (.i 3)), (.int .i64 (.v 3)), (.sl (.v 4) (.v 5) (.v 6)), (.int .i64 (.v 8)), (.int .i64 (.v 9)), (.int .i64 (.v 10)), (.sl (.v 11) (.v 12) (.v 13))] 156)), ((.a 4), (.prop 7)), ((.a 11), (.prop 14)), ((.a 23), (.prop 26)), ((.a 29), (.prop 32))]))))))
 (.br (.o2 .eq (.v 8) (.i 1))
  (.br (.o2 .eq (.v 33) (.i 0))
   (.call 91 [(.agg [(.int .i64 (.v 22)), (.sl (.v 23) (.v 24) (.v 25))])] [((.a 23), (.prop 26))] [.i, .a, .n, .n, .p] (.w (.agg [(.int .i64 (.v 38)), (.sl (.v 39) (.v 40) (.v 41))])) [((.a 39), (.prop 42)), ((.a 23), (.prop 26))]
   (.ret (.tup []) [((.b (.v 0)), (.cells [(.int .i64 (.v 1)), (.int .i64 (.i 2)), (.int .i64 (.v 3)), (.sl (.v 4) (.v 5) (.v 6)), (.int .i64 (.v 8)), (.int .i64 (.v 9)), (.int .i64 (.v 38)), (.sl (.v 39) (.v 40) (.v 41))] 156)), ((.a 4), (.prop 7)), ((.a 39), (.prop 42)), ((.a 11), (.prop 14)), ((.a 23), (.prop 26)), ((.a 29), (.prop 32))]))
   (.br (.o2 .eq (.v 33) (.i 9))
    (.br (.o2 .eq (.o1 .ofNat (.v 5)) (.i 1))
     (.ret (.tup []) [((.b (.v 0)), (.cells [(.int .i64 (.v 1)), (.int .i64 (.v 2)), (.int .i64 (.v 3)), (.sl (.v 4) (.v 5) (.v 6)), (.int .i64 (.i 3)), (.int .i64 (.i 0)), (.int .i64 (.v 10)), (.sl (.v 11) (.v 12) (.v 13))] 156)), ((.a 4), (.prop 7)), ((.a 11), (.prop 14)), ((.a 23), (.prop 26)), ((.a 29), (.prop 32))])
     (.ret (.tup []) [((.b (.v 0)), (.cells [(.int .i64 (.v 1)), (.int .i64 (.v 2)), (.int .i64 (.v 3)), (.sl (.v 4) (.v 5) (.v 6)), (.int .i64 (.i 2)), (.int .i64 (.i 0)), (.int .i64 (.v 10)), (.sl (.v 11) (.v 12) (.v 13))] 156)), ((.a 4), (.prop 7)), ((.a 11), (.prop 14)), ((.a 23), (.prop 26)), ((.a 29), (.prop 32))]))
    (.br (.o2 .eq (.v 8) (.i 2))
     (.br (.o2 .eq (.v 8) (.i 3))
      (.br (.o2 .eq (.v 33) (.i 10))
       (.call 129 [(.a (.ptr (.v 0) 0)), (.a (.int .i64 (.i 1))), (.agg [(.int .i64 (.v 22)), (.sl (.v 23) (.v 24) (.v 25))])] [((.b (.v 0)), (.cells [(.int .i64 (.v 1)), (.int .i64 (.v 2)), (.int .i64 (.v 3)), (.sl (.v 4) (.v 5) (.v 6)), (.int .i64 (.v 8)), (.int .i64 (.v 9)), (.int .i64 (.v 10)), (.sl (.v 11) (.v 12) (.v 13))] 156)), ((.a 4), (.prop 7)), ((.a 11), (.prop 14)), ((.a 23), (.prop 26))] [.i, .i, .i, .a, .n, .n, .p, .i, .i, .i, .a, .n, .n, .p] (.tup []) [((.b (.v 0)), (.cells [(.int .i64 (.v 38)), (.int .i64 (.v 39)), (.int .i64 (.v 40)), (.sl (.v 41) (.v 42) (.v 43)), (.int .i64 (.v 45)), (.int .i64 (.v 46)), (.int .i64 (.v 47)), (.sl (.v 48) (.v 49) (.v 50))] 156)), ((.a 41), (.prop 44)), ((.a 48), (.prop 51)), ((.a 4), (.prop 7)), ((.a 11), (.prop 14)), ((.a 23), (.prop 26))]
       (.ret (.tup []) [((.b (.v 0)), (.cells [(.int .i64 (.v 38)), (.int .i64 (.v 39)), (.int .i64 (.v 40)), (.sl (.v 41) (.v 42) (.v 43)), (.int .i64 (.v 45)), (.int .i64 (.v 46)), (.int .i64 (.v 47)), (.sl (.v 48) (.v 49) (.v 50))] 156)), ((.a 41), (.prop 44)), ((.a 48), (.prop 51)), ((.a 4), (.prop 7)), ((.a 11), (.prop 14)), ((.a 23), (.prop 26)), ((.a 29), (.prop 32))]))
       (.ret (.tup []) [((.b (.v 0)), (.cells [(.int .i64 (.v 1)), (.int .i64 (.i 3)), (.int .i64 (.v 3)), (.sl (.v 4) (.v 5) (.v 6)), (.int .i64 (.v 8)), (.int .i64 (.v 9)), (.int .i64 (.v 10)), (.sl (.v 11) (.v 12) (.v 13))] 156)), ((.a 4), (.prop 7)), ((.a 11), (.prop 14)), ((.a 23), (.prop 26)), ((.a 29), (.prop 32))]))
      (.ret (.tup []) [((.b (.v 0)), (.cells [(.int .i64 (.v 1)), (.int .i64 (.i 3)), (.int .i64 (.v 3)), (.sl (.v 4) (.v 5) (.v 6)), (.int .i64 (.v 8)), (.int .i64 (.v 9)), (.int .i64 (.v 10)), (.sl (.v 11) (.v 12) (.v 13))] 156)), ((.a 4), (.prop 7)), ((.a 11), (.prop 14)), ((.a 23), (.prop 26)), ((.a 29), (.prop 32))]))
     (.br (.o2 .eq (.v 8) (.i 3))
      (.br (.o2 .eq (.v 33) (.i 10))
       (.call 129 [(.a (.ptr (.v 0) 0)), (.a (.int .i64 (.i 1))), (.agg [(.int .i64 (.v 22)), (.sl (.v 23) (.v 24) (.v 25))])] [((.b (.v 0)), (.cells [(.int .i64 (.v 1)), (.int .i64 (.v 2)), (.int .i64 (.v 3)), (.sl (.v 4) (.v 5) (.v 6)), (.int .i64 (.v 8)), (.int .i64 (.v 9)), (.int .i64 (.v 10)), (.sl (.v 11) (.v 12) (.v 13))] 156)), ((.a 4), (.prop 7)), ((.a 11), (.prop 14)), ((.a 23), (.prop 26))] [.i, .i, .i, .a, .n, .n, .p, .i, .i, .i, .a, .n, .n, .p] (.tup []) [((.b (.v 0)), (.cells [(.int .i64 (.v 38)), (.int .i64 (.v 39)), (.int .i64 (.v 40)), (.sl (.v 41) (.v 42) (.v 43)), (.int .i64 (.v 45)), (.int .i64 (.v 46)), (.int .i64 (.v 47)), (.sl (.v 48) (.v 49) (.v 50))] 156)), ((.a 41), (.prop 44)), ((.a 48), (.prop 51)), ((.a 4), (.prop 7)), ((.a 11), (.prop 14)), ((.a 23), (.prop 26))]
       (.ret (.tup []) [((.b (.v 0)), (.cells [(.int .i64 (.v 38)), (.int .i64 (.v 39)), (.int .i64 (.v 40)), (.sl (.v 41) (.v 42) (.v 43)), (.int .i64 (.v 45)), (.int .i64 (.v 46)), (.int .i64 (.v 47)), (.sl (.v 48) (.v 49) (.v 50))] 156)), ((.a 41), (.prop 44)), ((.a 48), (.prop 51)), ((.a 4), (.prop 7)), ((.a 11), (.prop 14)), ((.a 23), (.prop 26)), ((.a 29), (.prop 32))]))
       (.ret (.tup []) [((.b (.v 0)), (.cells [(.int .i64 (.v 1)), (.int .i64 (.i 3)), (.int .i64 (.v 3)), (.sl (.v 4) (.v 5) (.v 6)), (.int .i64 (.v 8)), (.int .i64 (.v 9)), (.int .i64 (.v 10)), (.sl (.v 11) (.v 12) (.v 13))] 156)), ((.a 4), (.prop 7)), ((.a 11), (.prop 14)), ((.a 23), (.prop 26)), ((.a 29), (.prop 32))]))
      (.ret (.tup []) [((.b (.v 0)), (.cells [(.int .i64 (.v 1)), (.int .i64 (.i 3)), (.int .i64 (.v 3)), (.sl (.v 4) (.v 5) (.v 6)), (.int .i64 (.v 8)), (.int .i64 (.v 9)), (.int .i64 (.v 10)), (.sl (.v 11) (.v 12) (.v 13))] 156)), ((.a 4), (.prop 7)), ((.a 11), (.prop 14)), ((.a 23), (.prop 26)), ((.a 29), (.prop 32))])))))
  (.br (.o2 .eq (.v 8) (.i 2))
   (.br (.o2 .eq (.v 33) (.i 0))
    (.call 129 [(.a (.ptr (.v 0) 0)), (.a (.int .i64 (.i 1))), (.agg [(.int .i64 (.v 22)), (.sl (.v 23) (.v 24) (.v 25))])] [((.b (.v 0)), (.cells [(.int .i64 (.v 1)), (.int .i64 (.v 2)), (.int .i64 (.v 3)), (.sl (.v 4) (.v 5) (.v 6)), (.int .i64 (.v 8)), (.int .i64 (.v 9)), (.int .i64 (.v 10)), (.sl (.v 11) (.v 12) (.v 13))] 156)), ((.a 4), (.prop 7)), ((.a 11), (.prop 14)), ((.a 23), (.prop 26))] [.i, .i, .i, .a, .n, .n, .p, .i, .i, .i, .a, .n, .n, .p] (.tup []) [((.b (.v 0)), (.cells [(.int .i64 (.v 38)), (.int .i64 (.v 39)), (.int .i64 (.v 40)), (.sl (.v 41) (.v 42) (.v 43)), (.int .i64 (.v 45)), (.int .i64 (.v 46)), (.int .i64 (.v 47)), (.sl (.v 48) (.v 49) (.v 50))] 156)), ((.a 41), (.prop 44)), ((.a 48), (.prop 51)), ((.a 4), (.prop 7)), ((.a 11), (.prop 14)), ((.a 23), (.prop 26))]
    (.ret (.tup []) [((.b (.v 0)), (.cells [(.int .i64 (.v 38)), (.int .i64 (.v 39)), (.int .i64 (.v 40)), (.sl (.v 41) (.v 42) (.v 43)), (.int .i64 (.v 45)), (.int .i64 (.v 46)), (.int .i64 (.v 47)), (.sl (.v 48) (.v 49) (.v 50))] 156)), ((.a 41), (.prop 44)), ((.a 48), (.prop 51)), ((.a 4), (.prop 7)), ((.a 11), (.prop 14)), ((.a 23), (.prop 26)), ((.a 29), (.prop 32))]))
    (.br (.o2 .eq (.v 33) (.i 9))
     (.ret (.tup []) [((.b (.v 0)), (.cells [(.int .i64 (.v 1)), (.int .i64 (.v 2)), (.int .i64 (.v 3)), (.sl (.v 4) (.v 5) (.v 6)), (.int .i64 (.i 3)), (.int .i64 (.v 9)), (.int .i64 (.v 10)), (.sl (.v 11) (.v 12) (.v 13))] 156)), ((.a 4), (.prop 7)), ((.a 11), (.prop 14)), ((.a 23), (.prop 26)), ((.a 29), (.prop 32))])
     (.br (.o2 .eq (.v 8) (.i 3))
      (.br (.o2 .eq (.v 33) (.i 10))
       (.call 129 [(.a (.ptr (.v 0) 0)), (.a (.int .i64 (.i 1))), (.agg [(.int .i64 (.v 22)), (.sl (.v 23) (.v 24) (.v 25))])] [((.b (.v 0)), (.cells [(.int .i64 (.v 1)), (.int .i64 (.v 2)), (.int .i64 (.v 3)), (.sl (.v 4) (.v 5) (.v 6)), (.int .i64 (.v 8)), (.int .i64 (.v 9)), (.int .i64 (.v 10)), (.sl (.v 11) (.v 12) (.v 13))] 156)), ((.a 4), (.prop 7)), ((.a 11), (.prop 14)), ((.a 23), (.prop 26))] [.i, .i, .i, .a, .n, .n, .p, .i, .i, .i, .a, .n, .n, .p] (.tup []) [((.b (.v 0)), (.cells [(.int .i64 (.v 38)), (.int .i64 (.v 39)), (.int .i64 (.v 40)), (.sl (.v 41) (.v 42) (.v 43)), (.int .i64 (.v 45)), (.int .i64 (.v 46)), (.int .i64 (.v 47)), (.sl (.v 48) (.v 49) (.v 50))] 156)), ((.a 41), (.prop 44)), ((.a 48), (.prop 51)), ((.a 4), (.prop 7)), ((.a 11), (.prop 14)), ((.a 23), (.prop 26))]
       (.ret (.tup []) [((.b (.v 0)), (.cells [(.int .i64 (.v 38)), (.int .i64 (.v 39)), (.int .i64 (.v 40)), (.sl (.v 41) (.v 42) (.v 43)), (.int .i64 (.v 45)), (.int .i64 (.v 46)), (.int .i64 (.v 47)), (.sl (.v 48) (.v 49) (.v 50))] 156)), ((.a 41), (.prop 44)), ((.a 48), (.prop 51)), ((.a 4), (.prop 7)), ((.a 11), (.prop 14)), ((.a 23), (.prop 26)), ((.a 29), (.prop 32))]))
       (.ret (.tup []) [((.b (.v 0)), (.cells [(.int .i64 (.v 1)), (.int .i64 (.i 3)), (.int .i64 (.v 3)), (.sl (.v 4) (.v 5) (.v 6)), (.int .i64 (.v 8)), (.int .i64 (.v 9)), (.int .i64 (.v 10)), (.sl (.v 11) (.v 12) (.v 13))] 156)), ((.a 4), (.prop 7)), ((.a 11), (.prop 14)), ((.a 23), (.prop 26)), ((.a 29), (.prop 32))]))
      (.ret (.tup []) [((.b (.v 0)), (.cells [(.int .i64 (.v 1)), (.int .i64 (.i 3)), (.int .i64 (.v 3)), (.sl (.v 4) (.v 5) (.v 6)), (.int .i64 (.v 8)), (.int .i64 (.v 9)), (.int .i64 (.v 10)), (.sl (.v 11) (.v 12) (.v 13))] 156)), ((.a 4), (.prop 7)), ((.a 11), (.prop 14)), ((.a 23), (.prop 26)), ((.a 29), (.prop 32))]))))
   (.br (.o2 .eq (.v 8) (.i 3))
    (.br (.o2 .eq (.v 33) (.i 0))
     (.call 129 [(.a (.ptr (.v 0) 0)), (.a (.int .i64 (.i 1))), (.agg [(.int .i64 (.i 2)), (.sl .nil (.n 0) (.n 0))])] [((.b (.v 0)), (.cells [(.int .i64 (.v 1)), (.int .i64 (.v 2)), (.int .i64 (.v 3)), (.sl (.v 4) (.v 5) (.v 6)), (.int .i64 (.v 8)), (.int .i64 (.v 9)), (.int .i64 (.v 10)), (.sl (.v 11) (.v 12) (.v 13))] 156)), ((.a 4), (.prop 7)), ((.a 11), (.prop 14))] [.i, .i, .i, .a, .n, .n, .p, .i, .i, .i, .a, .n, .n, .p] (.tup []) [((.b (.v 0)), (.cells [(.int .i64 (.v 38)), (.int .i64 (.v 39)), (.int .i64 (.v 40)), (.sl (.v 41) (.v 42) (.v 43)), (.int .i64 (.v 45)), (.int .i64 (.v 46)), (.int .i64 (.v 47)), (.sl (.v 48) (.v 49) (.v 50))] 156)), ((.a 41), (.prop 44)), ((.a 48), (.prop 51)), ((.a 4), (.prop 7)), ((.a 11), (.prop 14))]
     (.ret (.tup []) [((.b (.v 0)), (.cells [(.int .i64 (.v 38)), (.int .i64 (.v 39)), (.int .i64 (.v 40)), (.sl (.v 41) (.v 42) (.v 43)), (.int .i64 (.v 45)), (.int .i64 (.v 46)), (.int .i64 (.v 47)), (.sl (.v 48) (.v 49) (.v 50))] 156)), ((.a 41), (.prop 44)), ((.a 48), (.prop 51)), ((.a 4), (.prop 7)), ((.a 11), (.prop 14)), ((.a 23), (.prop 26)), ((.a 29), (.prop 32))]))
     (.br (.o2 .eq (.v 33) (.i 10))
      (.call 129 [(.a (.ptr (.v 0) 0)), (.a (.int .i64 (.i 1))), (.agg [(.int .i64 (.v 22)), (.sl (.v 23) (.v 24) (.v 25))])] [((.b (.v 0)), (.cells [(.int .i64 (.v 1)), (.int .i64 (.v 2)), (.int .i64 (.v 3)), (.sl (.v 4) (.v 5) (.v 6)), (.int .i64 (.v 8)), (.int .i64 (.v 9)), (.int .i64 (.v 10)), (.sl (.v 11) (.v 12) (.v 13))] 156)), ((.a 4), (.prop 7)), ((.a 11), (.prop 14)), ((.a 23), (.prop 26))] [.i, .i, .i, .a, .n, .n, .p, .i, .i, .i, .a, .n, .n, .p] (.tup []) [((.b (.v 0)), (.cells [(.int .i64 (.v 38)), (.int .i64 (.v 39)), (.int .i64 (.v 40)), (.sl (.v 41) (.v 42) (.v 43)), (.int .i64 (.v 45)), (.int .i64 (.v 46)), (.int .i64 (.v 47)), (.sl (.v 48) (.v 49) (.v 50))] 156)), ((.a 41), (.prop 44)), ((.a 48), (.prop 51)), ((.a 4), (.prop 7)), ((.a 11), (.prop 14)), ((.a 23), (.prop 26))]
      (.ret (.tup []) [((.b (.v 0)), (.cells [(.int .i64 (.v 38)), (.int .i64 (.v 39)), (.int .i64 (.v 40)), (.sl (.v 41) (.v 42) (.v 43)), (.int .i64 (.v 45)), (.int .i64 (.v 46)), (.int .i64 (.v 47)), (.sl (.v 48) (.v 49) (.v 50))] 156)), ((.a 41), (.prop 44)), ((.a 48), (.prop 51)), ((.a 4), (.prop 7)), ((.a 11), (.prop 14)), ((.a 23), (.prop 26)), ((.a 29), (.prop 32))]))
      (.ret (.tup []) [((.b (.v 0)), (.cells [(.int .i64 (.v 1)), (.int .i64 (.i 3)), (.int .i64 (.v 3)), (.sl (.v 4) (.v 5) (.v 6)), (.int .i64 (.v 8)), (.int .i64 (.v 9)), (.int .i64 (.v 10)), (.sl (.v 11) (.v 12) (.v 13))] 156)), ((.a 4), (.prop 7)), ((.a 11), (.prop 14)), ((.a 23), (.prop 26)), ((.a 29), (.prop 32))])))
    (.ret (.tup []) [((.b (.v 0)), (.cells [(.int .i64 (.v 1)), (.int .i64 (.i 3)), (.int .i64 (.v 3)), (.sl (.v 4) (.v 5) (.v 6)), (.int .i64 (.v 8)), (.int .i64 (.v 9)), (.int .i64 (.v 10)), (.sl (.v 11) (.v 12) (.v 13))] 156)), ((.a 4), (.prop 7)), ((.a 11), (.prop 14)), ((.a 23), (.prop 26)), ((.a 29), (.prop 32))]))))))
theorem tree_cGoOn : tree Try.prog { absT := [], opq := [], hv := [], keep := [128, 52, 54, 53, 56, 93, 92, 137, 127, 126, 72, 91, 90, 21], link := [], ent := [], turn := [(94, [0]), (129, [0])], shr := [], vt := [], mkd := [], rlink := [], pty := [], outl := false, stay := [], snk := [] } Try.f94 [(.a (.ptr (.v 0) 0)), (.agg [(.int .i64 (.v 15)), (.int .i64 (.v 16)), (.int .i64 (.v 17)), (.bool (.v 18)), (.int .i64 (.v 19)), (.int .i64 (.v 20)), (.int .i64 (.v 21)), (.int .i64 (.v 22)), (.sl (.v 23) (.v 24) (.v 25)), (.int .i64 (.v 27)), (.int .i64 (.v 28)), (.sl (.v 29) (.v 30) (.v 31)), (.int .i64 (.v 33)), (.int .i64 (.v 34)), (.int .i64 (.v 35)), (.int .i64 (.v 36))])] [((.b (.v 0)), (.cells [(.int .i64 (.v 1)), (.int .i64 (.v 2)), (.int .i64 (.v 3)), (.sl (.v 4) (.v 5) (.v 6)), (.int .i64 (.v 8)), (.int .i64 (.v 9)), (.int .i64 (.v 10)), (.sl (.v 11) (.v 12) (.v 13))] 156)), ((.a 4), (.prop 7)), ((.a 11), (.prop 14)), ((.a 23), (.prop 26)), ((.a 29), (.prop 32))] 37 = t_cGoOn := by kernel_rfl
-- (*tideline/chain.Op).Told: ρ := [.n o, .i o_at, .i o_state, .i o_low, .a o_unitsa, .n o_unitsl, .n o_unitsc, .p o_unitsP, .i o_step, .i o_place, .i o_cell_What, .a o_cell_Dataa, .n o_cell_Datal, .n o_cell_Datac, .p o_cell_DataP, .i r_From, .i r_To, .i r_Number, .c r_Reply, .i r_Kind, .i r_Epoch, .i r_At, .i r_Cell_What, .a r_Cell_Dataa, .n r_Cell_Datal, .n r_Cell_Datac, .p r_Cell_DataP, .i r_Ballot_Round, .i r_Ballot_Who, .a r_Valuea, .n r_Valuel, .n r_Valuec, .p r_ValueP, .i r_Err, .i r_Tail, .i r_Low, .i r_Back]
def t_cTold : T :=
(.new
(.br (.o1 .not (.o2 .eq (.v 2) (.i 1)))
 (.ret (.tup []) [((.b (.v 0)), (.cells [(.int .i64 (.v 1)), (.int .i64 (.v 2)), (.int .i64 (.v 3)), (.sl (.v 4) (.v 5) (.v 6)), (.int .i64 (.v 8)), (.int .i64 (.v 9)), (.int .i64 (.v 10)), (.sl (.v 11) (.v 12) (.v 13))] 156)), ((.a 4), (.prop 7)), ((.a 11), (.prop 14)), ((.a 23), (.prop 26)), ((.a 29), (.prop 32))])
 (.call 93 [(.a (.ptr (.v 0) 0))] [((.b (.v 0)), (.cells [(.int .i64 (.v 1)), (.int .i64 (.v 2)), (.int .i64 (.v 3)), (.sl (.v 4) (.v 5) (.v 6)), (.int .i64 (.v 8)), (.int .i64 (.v 9)), (.int .i64 (.v 10)), (.sl (.v 11) (.v 12) (.v 13))] 156)), ((.a 4), (.prop 7)), ((.a 11), (.prop 14))] [.i] (.w (.a (.int .i64 (.v 38)))) [((.b (.v 0)), (.cells [(.int .i64 (.v 1)), (.int .i64 (.v 2)), (.int .i64 (.v 3)), (.sl (.v 4) (.v 5) (.v 6)), (.int .i64 (.v 8)), (.int .i64 (.v 9)), (.int .i64 (.v 10)), (.sl (.v 11) (.v 12) (.v 13))] 156)), ((.a 4), (.prop 7)), ((.a 11), (.prop 14))]
 (.br (.o1 .not (.o2 .eq (.v 19) (.v 38)))
  (.ret (.tup []) [((.b (.v 0)), (.cells [(.int .i64 (.v 1)), (.int .i64 (.v 2)), (.int .i64 (.v 3)), (.sl (.v 4) (.v 5) (.v 6)), (.int .i64 (.v 8)), (.int .i64 (.v 9)), (.int .i64 (.v 10)), (.sl (.v 11) (.v 12) (.v 13))] 156)), ((.a 4), (.prop 7)), ((.a 11), (.prop 14)), ((.a 23), (.prop 26)), ((.a 29), (.prop 32))])
  (.br (.o2 .eq (.v 33) (.i 0))
   (.call 94 [(.a (.ptr (.v 0) 0)), (.agg [(.int .i64 (.v 15)), (.int .i64 (.v 16)), (.int .i64 (.v 17)), (.bool (.v 18)), (.int .i64 (.v 19)), (.int .i64 (.v 20)), (.int .i64 (.v 21)), (.int .i64 (.v 22)), (.sl (.v 23) (.v 24) (.v 25)), (.int .i64 (.v 27)), (.int .i64 (.v 28)), (.sl (.v 29) (.v 30) (.v 31)), (.int .i64 (.v 33)), (.int .i64 (.v 34)), (.int .i64 (.v 35)), (.int .i64 (.v 36))])] [((.b (.v 0)), (.cells [(.int .i64 (.v 1)), (.int .i64 (.v 2)), (.int .i64 (.v 3)), (.sl (.v 4) (.v 5) (.v 6)), (.int .i64 (.v 8)), (.int .i64 (.v 9)), (.int .i64 (.v 10)), (.sl (.v 11) (.v 12) (.v 13))] 156)), ((.a 4), (.prop 7)), ((.a 11), (.prop 14)), ((.a 23), (.prop 26)), ((.a 29), (.prop 32))] [.i, .i, .i, .a, .n, .n, .p, .i, .i, .i, .a, .n, .n, .p] (.tup []) [((.b (.v 0)), (.cells [(.int .i64 (.v 39)), (.int .i64 (.v 40)), (.int .i64 (.v 41)), (.sl (.v 42) (.v 43) (.v 44)), (.int .i64 (.v 46)), (.int .i64 (.v 47)), (.int .i64 (.v 48)), (.sl (.v 49) (.v 50) (.v 51))] 156)), ((.a 42), (.prop 45)), ((.a 49), (.prop 52)), ((.a 4), (.prop 7)), ((.a 11), (.prop 14)), ((.a 23), (.prop 26)), ((.a 29), (.prop 32))]
   (.ret (.tup []) [((.b (.v 0)), (.cells [(.int .i64 (.v 39)), (.int .i64 (.v 40)), (.int .i64 (.v 41)), (.sl (.v 42) (.v 43) (.v 44)), (.int .i64 (.v 46)), (.int .i64 (.v 47)), (.int .i64 (.v 48)), (.sl (.v 49) (.v 50) (.v 51))] 156)), ((.a 42), (.prop 45)), ((.a 49), (.prop 52)), ((.a 4), (.prop 7)), ((.a 11), (.prop 14)), ((.a 23), (.prop 26)), ((.a 29), (.prop 32))]))
   (.br (.o2 .eq (.v 33) (.i 10))
    (.call 94 [(.a (.ptr (.v 0) 0)), (.agg [(.int .i64 (.v 15)), (.int .i64 (.v 16)), (.int .i64 (.v 17)), (.bool (.v 18)), (.int .i64 (.v 19)), (.int .i64 (.v 20)), (.int .i64 (.v 21)), (.int .i64 (.v 22)), (.sl (.v 23) (.v 24) (.v 25)), (.int .i64 (.v 27)), (.int .i64 (.v 28)), (.sl (.v 29) (.v 30) (.v 31)), (.int .i64 (.v 33)), (.int .i64 (.v 34)), (.int .i64 (.v 35)), (.int .i64 (.v 36))])] [((.b (.v 0)), (.cells [(.int .i64 (.v 1)), (.int .i64 (.v 2)), (.int .i64 (.v 3)), (.sl (.v 4) (.v 5) (.v 6)), (.int .i64 (.v 8)), (.int .i64 (.v 9)), (.int .i64 (.v 10)), (.sl (.v 11) (.v 12) (.v 13))] 156)), ((.a 4), (.prop 7)), ((.a 11), (.prop 14)), ((.a 23), (.prop 26)), ((.a 29), (.prop 32))] [.i, .i, .i, .a, .n, .n, .p, .i, .i, .i, .a, .n, .n, .p] (.tup []) [((.b (.v 0)), (.cells [(.int .i64 (.v 39)), (.int .i64 (.v 40)), (.int .i64 (.v 41)), (.sl (.v 42) (.v 43) (.v 44)), (.int .i64 (.v 46)), (.int .i64 (.v 47)), (.int .i64 (.v 48)), (.sl (.v 49) (.v 50) (.v 51))] 156)), ((.a 42), (.prop 45)), ((.a 49), (.prop 52)), ((.a 4), (.prop 7)), ((.a 11), (.prop 14)), ((.a 23), (.prop 26)), ((.a 29), (.prop 32))]
    (.ret (.tup []) [((.b (.v 0)), (.cells [(.int .i64 (.v 39)), (.int .i64 (.v 40)), (.int .i64 (.v 41)), (.sl (.v 42) (.v 43) (.v 44)), (.int .i64 (.v 46)), (.int .i64 (.v 47)), (.int .i64 (.v 48)), (.sl (.v 49) (.v 50) (.v 51))] 156)), ((.a 42), (.prop 45)), ((.a 49), (.prop 52)), ((.a 4), (.prop 7)), ((.a 11), (.prop 14)), ((.a 23), (.prop 26)), ((.a 29), (.prop 32))]))
    (.br (.o2 .eq (.v 33) (.i 9))
     (.call 94 [(.a (.ptr (.v 0) 0)), (.agg [(.int .i64 (.v 15)), (.int .i64 (.v 16)), (.int .i64 (.v 17)), (.bool (.v 18)), (.int .i64 (.v 19)), (.int .i64 (.v 20)), (.int .i64 (.v 21)), (.int .i64 (.v 22)), (.sl (.v 23) (.v 24) (.v 25)), (.int .i64 (.v 27)), (.int .i64 (.v 28)), (.sl (.v 29) (.v 30) (.v 31)), (.int .i64 (.v 33)), (.int .i64 (.v 34)), (.int .i64 (.v 35)), (.int .i64 (.v 36))])] [((.b (.v 0)), (.cells [(.int .i64 (.v 1)), (.int .i64 (.v 2)), (.int .i64 (.v 3)), (.sl (.v 4) (.v 5) (.v 6)), (.int .i64 (.v 8)), (.int .i64 (.v 9)), (.int .i64 (.v 10)), (.sl (.v 11) (.v 12) (.v 13))] 156)), ((.a 4), (.prop 7)), ((.a 11), (.prop 14)), ((.a 23), (.prop 26)), ((.a 29), (.prop 32))] [.i, .i, .i, .a, .n, .n, .p, .i, .i, .i, .a, .n, .n, .p] (.tup []) [((.b (.v 0)), (.cells [(.int .i64 (.v 39)), (.int .i64 (.v 40)), (.int .i64 (.v 41)), (.sl (.v 42) (.v 43) (.v 44)), (.int .i64 (.v 46)), (.int .i64 (.v 47)), (.int .i64 (.v 48)), (.sl (.v 49) (.v 50) (.v 51))] 156)), ((.a 42), (.prop 45)), ((.a 49), (.prop 52)), ((.a 4), (.prop 7)), ((.a 11), (.prop 14)), ((.a 23), (.prop 26)), ((.a 29), (.prop 32))]
     (.ret (.tup []) [((.b (.v 0)), (.cells [(.int .i64 (.v 39)), (.int .i64 (.v 40)), (.int .i64 (.v 41)), (.sl (.v 42) (.v 43) (.v 44)), (.int .i64 (.v 46)), (.int .i64 (.v 47)), (.int .i64 (.v 48)), (.sl (.v 49) (.v 50) (.v 51))] 156)), ((.a 42), (.prop 45)), ((.a 49), (.prop 52)), ((.a 4), (.prop 7)), ((.a 11), (.prop 14)), ((.a 23), (.prop 26)), ((.a 29), (.prop 32))]))
     (.br (.o2 .eq (.v 33) (.i 11))
      (.ret (.tup []) [((.b (.v 0)), (.cells [(.int .i64 (.v 1)), (.int .i64 (.i 4)), (.int .i64 (.v 35)), (.sl (.v 4) (.v 5) (.v 6)), (.int .i64 (.v 8)), (.int .i64 (.v 9)), (.int .i64 (.v 10)), (.sl (.v 11) (.v 12) (.v 13))] 156)), ((.a 4), (.prop 7)), ((.a 11), (.prop 14)), ((.a 23), (.prop 26)), ((.a 29), (.prop 32))])
      (.br (.o2 .eq (.v 33) (.i 8))
       (.ret (.tup []) [((.b (.v 0)), (.cells [(.int .i64 (.v 1)), (.int .i64 (.i 5)), (.int .i64 (.v 3)), (.sl (.v 4) (.v 5) (.v 6)), (.int .i64 (.v 8)), (.int .i64 (.v 9)), (.int .i64 (.v 10)), (.sl (.v 11) (.v 12) (.v 13))] 156)), ((.a 4), (.prop 7)), ((.a 11), (.prop 14)), ((.a 23), (.prop 26)), ((.a 29), (.prop 32))])
       (.br (.o2 .eq (.v 33) (.i 4))
        (.ret (.tup []) [((.b (.v 0)), (.cells [(.int .i64 (.v 1)), (.int .i64 (.i 6)), (.int .i64 (.v 3)), (.sl (.v 4) (.v 5) (.v 6)), (.int .i64 (.v 8)), (.int .i64 (.v 9)), (.int .i64 (.v 10)), (.sl (.v 11) (.v 12) (.v 13))] 156)), ((.a 4), (.prop 7)), ((.a 11), (.prop 14)), ((.a 23), (.prop 26)), ((.a 29), (.prop 32))])
        (.ret (.tup []) [((.b (.v 0)), (.cells [(.int .i64 (.v 1)), (.int .i64 (.i 3)), (.int .i64 (.v 3)), (.sl (.v 4) (.v 5) (.v 6)), (.int .i64 (.v 8)), (.int .i64 (.v 9)), (.int .i64 (.v 10)), (.sl (.v 11) (.v 12) (.v 13))] 156)), ((.a 4), (.prop 7)), ((.a 11), (.prop 14)), ((.a 23), (.prop 26)), ((.a 29), (.prop 32))])))))))))))
theorem tree_cTold : tree Try.prog { absT := [], opq := [], hv := [], keep := [128, 52, 54, 53, 56, 93, 92, 137, 127, 126, 72, 91, 90, 21], link := [], ent := [], turn := [(94, [0]), (129, [0])], shr := [], vt := [], mkd := [], rlink := [], pty := [], outl := false, stay := [], snk := [] } Try.f55 [(.a (.ptr (.v 0) 0)), (.agg [(.int .i64 (.v 15)), (.int .i64 (.v 16)), (.int .i64 (.v 17)), (.bool (.v 18)), (.int .i64 (.v 19)), (.int .i64 (.v 20)), (.int .i64 (.v 21)), (.int .i64 (.v 22)), (.sl (.v 23) (.v 24) (.v 25)), (.int .i64 (.v 27)), (.int .i64 (.v 28)), (.sl (.v 29) (.v 30) (.v 31)), (.int .i64 (.v 33)), (.int .i64 (.v 34)), (.int .i64 (.v 35)), (.int .i64 (.v 36))])] [((.b (.v 0)), (.cells [(.int .i64 (.v 1)), (.int .i64 (.v 2)), (.int .i64 (.v 3)), (.sl (.v 4) (.v 5) (.v 6)), (.int .i64 (.v 8)), (.int .i64 (.v 9)), (.int .i64 (.v 10)), (.sl (.v 11) (.v 12) (.v 13))] 156)), ((.a 4), (.prop 7)), ((.a 11), (.prop 14)), ((.a 23), (.prop 26)), ((.a 29), (.prop 32))] 37 = t_cTold := by kernel_rfl
end Go.Proofs.Ytmibmjehjagmbaa.RX

/- Contracts of what a chain leans on: copies of numbers and of bytes, the comparison of bytes, a store into a block. No condition. -/
namespace Go.Proofs.Ytmibmjehjagmbaa
set_option linter.unusedSimpArgs false
set_option linter.unusedVariables false
open Go.Proofs.Ytmibmjehjagmbaa RX

def i64v (i : Int) : Value := .int .i64 i
theorem i64v_one (l : List Int) : ∀ u ∈ l.map i64v, u.oneCell' = true := fun u hu => by
  obtain ⟨b, _, rfl⟩ := List.mem_map.1 hu; rfl
abbrev OwI (a : Option Addr) (n c : Nat) (l : List Int) : HP := OwC 3 1 a n c (l.map i64v)
abbrev RoI (a : Option Addr) (n : Nat) (l : List Int) : HP := RoC 1 a n (l.map i64v)
theorem infoInt : (Try.prog.info? 3).map (fun i => (i.zero, i.size, i.bytes)) = some (some (.int .i64 0), 1, 8) := by kernel_rfl
theorem undI : Try.prog.underlying 86 = some (.slice 3) := by kernel_rfl
theorem undIb : Try.prog.underlying 3 = some (.int .i64) := by kernel_rfl
theorem aggI : aggT Try.prog 3 = false := by kernel_rfl
theorem szI : szT Try.prog 3 = 1 := by kernel_rfl
theorem appendI (a : Option Addr) (n c : Nat) (l : List Int) (S : HP) (ad : Addr) (m c2 : Nat) (q : List Int) (hr : Rd S (some ad) (q.map i64v)) (hm : q.length = m) (hb : n + m ≤ 1000000000) :
    OTri Try.prog (appS 86 86 (.slice a n c) (.slice (some ad) m c2)) (HP.sep (OwI a n c l) S)
      (fun v => HP.ex fun a' => HP.ex fun c' => HP.and (v = .slice a' (n + m) c') (HP.sep (OwI a' (n + m) c' (l ++ q)) S)) := by
  obtain ⟨i, hi, h1, h2, h3⟩ := info_parts infoInt
  have := append_ok 86 86 3 i (.int .i64 0) undI hi h1 (by rw [h2]; rfl) (by omega) a n c (l.map i64v) S ad m c2 (q.map i64v) hr (by simp [hm, h2]) (i64v_one q) (by unfold maxLen; omega) (by rw [h3]; omega)
  rw [h2] at this
  simp only [OwI, List.map_append]
  exact this
/-- A copy of numbers. -/
theorem cloneI_ok (S : HP) (a : Option Addr) (n c : Nat) (l : List Int) (hr : RdL S a n (l.map i64v)) (hl : l.length = n) (hb : n ≤ 1000000000) :
    Tri Try.prog 126 #[.slice a n c] S (fun v => HP.ex fun a' => HP.ex fun c' => HP.and (v = .slice a' n c') (HP.sep (RoI a' n l) S)) := by
  have own : Tri Try.prog 126 #[.slice a n c] S (fun v => HP.ex fun a' => HP.ex fun c' => HP.and (v = .slice a' n c') (HP.sep (OwI a' n c' l) S)) := by
    refine tri_of_tree (ρ := [.a a, .n n, .n c, .p S]) mixed Try.func126 tree_cloneI ?_
    unfold t_cloneI
    simp only [T.den, E.prop, E.den, RX.look, F1.app, F2.app, Uni.int_i, Uni.nat_n, Uni.bool_c, Uni.str_s, Uni.adr_a, Uni.val_v, Uni.hp_p, hden, cden, V.den, W.den, A.den, BR.den, SA.den, FV.den, capV, exs, exP, allP, Cur.app, List.map_cons, List.map_nil, List.cons_append, List.nil_append, List.drop_succ_cons, List.drop_zero, List.length_cons, List.length_nil, Nat.zero_add, Nat.reduceAdd, Int.neg_neg, Bool.not_not, List.append_nil, Nat.add_zero, List.getElem?_cons_zero, List.getElem?_cons_succ, Decidable.not_not]
    refine ⟨fun ha => .of fun R h H => ?_, fun ha x => ?_⟩
    · have hn : n = 0 := hr.none R h H (by simpa using ha)
      subst hn
      obtain rfl : l = [] := List.eq_nil_of_length_eq_zero hl
      exact ⟨none, 0, rfl, HP.tt_sep H |> fun H => HP.sep_mono H (fun x _ => OwC.nil _ _ R x) fun _ h => h⟩
    · rw [semOf_append (by decide)]
      simp only [T.den, E.prop, E.den, RX.look, F1.app, F2.app, Uni.int_i, Uni.nat_n, Uni.bool_c, Uni.str_s, Uni.adr_a, Uni.val_v, Uni.hp_p, hden, cden, V.den, W.den, A.den, BR.den, SA.den, FV.den, capV, exs, exP, allP, Cur.app, List.map_cons, List.map_nil, List.cons_append, List.nil_append, List.drop_succ_cons, List.drop_zero, List.length_cons, List.length_nil, Nat.zero_add, Nat.reduceAdd, Int.neg_neg, Bool.not_not, List.append_nil, Nat.add_zero, List.getElem?_cons_zero, List.getElem?_cons_succ, Decidable.not_not]
      cases a with
      | none => simp at ha
      | some ad =>
        have := appendI (some ⟨x, 0, none⟩) 0 0 [] S ad n c l hr.rd hl (by omega)
        refine this.weak (fun R h H => HP.sep_mono H (fun y hy => ⟨rfl, .inr ⟨x, #[], rfl, hy, Nat.le_refl _, by unfold maxLen; omega, rfl, rfl⟩⟩) fun _ h => h) ?_
        rintro v R h ⟨a', c', rfl, H⟩
        rw [Nat.zero_add, List.nil_append] at H
        exact ⟨a', n, c', OwI a' n c' l, by rw [Nat.zero_add], .of fun R' h' H' => ⟨a', c', rfl, HP.sep_comm H'⟩, H⟩
  exact own.post fun v => fun R h d ⟨a', c', e, H⟩ => by
    obtain ⟨R1, h1, q1, q2, q3, q4, H1⟩ := (HP.ent.sep (OwC.share _ _ _ _ _ _) S) R h d H
    exact ⟨R1, h1, q1, q2, q3, q4, a', c', e, H1⟩
/-- A copy of bytes, by the package bytes. -/
theorem bclone_ok (S : HP) (a : Option Addr) (n c : Nat) (l : List UInt8) (hr : RdL S a n (l.map u8v)) (hl : l.length = n) (hb : n ≤ 140737488355328) :
    Tri Try.prog 127 #[.slice a n c] S (fun v => HP.ex fun a' => HP.ex fun c' => HP.and (v = .slice a' n c') (HP.sep (RoB a' n l) S)) := by
  have own : Tri Try.prog 127 #[.slice a n c] S (fun v => HP.ex fun a' => HP.ex fun c' => HP.and (v = .slice a' n c') (HP.sep (OwB a' n c' l) S)) := by
    refine tri_of_tree (ρ := [.a a, .n n, .n c, .p S]) mixed Try.func127 tree_bclone ?_
    unfold t_bclone
    simp only [T.den, E.prop, E.den, RX.look, F1.app, F2.app, Uni.int_i, Uni.nat_n, Uni.bool_c, Uni.str_s, Uni.adr_a, Uni.val_v, Uni.hp_p, hden, cden, V.den, W.den, A.den, BR.den, SA.den, FV.den, capV, exs, exP, allP, Cur.app, List.map_cons, List.map_nil, List.cons_append, List.nil_append, List.drop_succ_cons, List.drop_zero, List.length_cons, List.length_nil, Nat.zero_add, Nat.reduceAdd, Int.neg_neg, Bool.not_not, List.append_nil, Nat.add_zero, List.getElem?_cons_zero, List.getElem?_cons_succ, Decidable.not_not]
    refine ⟨fun ha => .of fun R h H => ?_, fun ha x => ?_⟩
    · have hn : n = 0 := hr.none R h H (by simpa using ha)
      subst hn
      obtain rfl : l = [] := List.eq_nil_of_length_eq_zero hl
      exact ⟨none, 0, rfl, HP.tt_sep H |> fun H => HP.sep_mono H (fun x _ => OwC.nil _ _ R x) fun _ h => h⟩
    · rw [semOf_append (by decide)]
      simp only [T.den, E.prop, E.den, RX.look, F1.app, F2.app, Uni.int_i, Uni.nat_n, Uni.bool_c, Uni.str_s, Uni.adr_a, Uni.val_v, Uni.hp_p, hden, cden, V.den, W.den, A.den, BR.den, SA.den, FV.den, capV, exs, exP, allP, Cur.app, List.map_cons, List.map_nil, List.cons_append, List.nil_append, List.drop_succ_cons, List.drop_zero, List.length_cons, List.length_nil, Nat.zero_add, Nat.reduceAdd, Int.neg_neg, Bool.not_not, List.append_nil, Nat.add_zero, List.getElem?_cons_zero, List.getElem?_cons_succ, Decidable.not_not]
      have := append8 (some ⟨x, 0, none⟩) 0 0 [] S a n c l hr hl (fun _ => by simpa [Option.isSome_iff_ne_none] using ha) (by omega)
      refine this.weak (fun R h H => HP.sep_mono H (fun y hy => ⟨rfl, .inr ⟨x, #[], rfl, hy, Nat.le_refl _, by unfold maxLen; omega, rfl, rfl⟩⟩) fun _ h => h) ?_
      rintro v R h ⟨a', c', rfl, H⟩
      rw [Nat.zero_add, List.nil_append] at H
      exact ⟨a', n, c', OwB a' n c' l, by rw [Nat.zero_add], .of fun R' h' H' => ⟨a', c', rfl, HP.sep_comm H'⟩, H⟩
  exact own.post fun v => fun R h d ⟨a', c', e, H⟩ => by
    obtain ⟨R1, h1, q1, q2, q3, q4, H1⟩ := (HP.ent.sep (OwC.share _ _ _ _ _ _) S) R h d H
    exact ⟨R1, h1, q1, q2, q3, q4, a', c', e, H1⟩
set_option maxRecDepth 100000 in
/-- Bytes as a string. -/
theorem conv_ok {ρ : Env} {i : Nat} {x : V} {S : HP} {a : Option Addr} {n c : Nat} {l : List UInt8} (hx : x.den ρ = .slice a n c) (hr : RdL S a n (l.map u8v)) (hl : l.length = n) :
    ORead Try.prog (semOf ρ (.convert 30 9 (.tmp i)) 9 [(i, x)]) S (.string ⟨l.toArray⟩) := fun w R h F s hS => by
  subst hl
  have hc : (convert 30 9 (.slice a l.length c)).run Try.prog w = .ok (.string ⟨l.toArray⟩) w := by
    cases a with
    | none =>
      have h0 : l.length = 0 := hr.none R h hS rfl
      rw [h0, List.length_eq_zero_iff.1 h0]
      exact Lib.run_convert_nil_bytes w _ _ 5 0 Try.underlying30 Try.underlying5 Try.underlying9
    | some y =>
      refine run_convert_bytes_back w _ _ 5 y c l Try.underlying30 Try.underlying5 Try.underlying9 (fun j hj => ?_)
      obtain ⟨g, off, e1, e2⟩ := hr.rd w R h F s hS j (u8v l[j]) (by simp [hj])
      cases e1
      rw [addr_add, e2]
      rfl
  have : (semOf ρ (.convert 30 9 (.tmp i)) 9 [(i, x)]).run Try.prog w = .ok (.value (.string ⟨l.toArray⟩)) w := by
    simp [semOf, execOp, arEval, hx, Sem.run_bind, hc]
  exact this
theorem bequal_ok (a : Option Addr) (n c : Nat) (la : List UInt8) (b : Option Addr) (m d : Nat) (lb : List UInt8) (Sa Sb : HP) (hA : RdL Sa a n (la.map u8v)) (hB : RdL Sb b m (lb.map u8v)) (hla : la.length = n) (hlb : lb.length = m) :
    Tri Try.prog 137 #[.slice a n c, .slice b m d] (HP.sep Sa Sb) (fun v => HP.and (v = .bool (decide (la = lb))) (HP.sep Sa Sb)) := by
  refine tri_of_tree (ρ := [.a a, .n n, .n c, .p Sa, .a b, .n m, .n d, .p Sb]) mixed Try.func137 tree_bequal ?_
  unfold t_bequal
  simp only [T.den, E.prop, E.den, RX.look, F1.app, F2.app, Uni.int_i, Uni.nat_n, Uni.bool_c, Uni.str_s, Uni.adr_a, Uni.val_v, Uni.hp_p, hden, cden, V.den, W.den, A.den, BR.den, SA.den, FV.den, capV, exs, exP, allP, Cur.app, List.map_cons, List.map_nil, List.cons_append, List.nil_append, List.drop_succ_cons, List.drop_zero, List.length_cons, List.length_nil, Nat.zero_add, Nat.reduceAdd, Int.neg_neg, Bool.not_not, List.append_nil, Nat.add_zero, List.getElem?_cons_zero, List.getElem?_cons_succ, Decidable.not_not]
  refine ⟨_, conv_ok rfl hA hla, _, conv_ok rfl hB hlb, .of fun R h H => ⟨?_, H⟩⟩
  rfl
/-- A store into a block of its own. -/
theorem storeOne_ok {t : TypeId} {i : TypeInfo} (hi : Try.prog.info? t = some i) (e : TypeId) (b : Nat) (cs : Array Value) (off : Nat) (x : Value) (vs : List Value) (hx : x.cells = vs.toArray) (hz : i.size = vs.length) (hp : 0 < vs.length) (h1 : ∀ v ∈ vs, v.oneCell' = true) (hk : off + vs.length ≤ cs.size) (hm : 1 ≤ maxLen) :
    OTri Try.prog (storeS t (.pointer (some ⟨b, off, none⟩)) x) (HP.one b (.cells cs e (0, 0))) (fun v => HP.and (v = .tuple #[]) (HP.one b (.cells (cs.toList.take off ++ vs ++ cs.toList.drop (off + vs.length)).toArray e (0, 0)))) := by
  have := store_ok hi e cs.size (some ⟨b, 0, none⟩) 1 1 cs.toList 0 off x vs hx hz hp h1 (by omega)
  simp only [Option.map_some, addr_add, Nat.zero_add] at this
  refine this.weak (fun R h H => ⟨by simp, .inr ⟨b, cs, rfl, H, Nat.le_refl _, hm, by omega, by rw [Nat.one_mul]; exact List.take_of_length_le (by simp)⟩⟩) fun v R h ⟨rfl, hl, H⟩ => ⟨rfl, ?_⟩
  rcases H with ⟨h0, _⟩ | ⟨g, cur, e1, hg, q1, q2, q3, q4⟩
  · cases h0
  · cases e1
    show h b = _
    rw [hg]
    have : cur.toList = cs.toList.take off ++ vs ++ cs.toList.drop (off + vs.length) := by
      rw [← q4, List.take_of_length_le (by rw [Array.length_toList, q3]; omega)]
    rw [← this]
end Go.Proofs.Ytmibmjehjagmbaa

/- Contracts of a chain's Op. No condition. -/
namespace Go.Proofs.Ytmibmjehjagmbaa
set_option linter.unusedSimpArgs false
set_option linter.unusedVariables false
open Go.Proofs.Ytmibmjehjagmbaa RX

/-- An Op. -/
structure OpS where
  at' : Int
  state : Int
  low : Int
  us : List Int
  step : Int
  place : Int
  cell : CellS
abbrev OpS.vals (o : OpS) (ua : Option Addr) (uc : Nat) (da : Option Addr) (dc : Nat) : Array Value := #[.int .i64 o.at', .int .i64 o.state, .int .i64 o.low, .slice ua o.us.length uc, .int .i64 o.step, .int .i64 o.place, .int .i64 o.cell.what, .slice da o.cell.data.length dc]
abbrev OCells (b : Nat) (o : OpS) (ua : Option Addr) (uc : Nat) (da : Option Addr) (dc : Nat) : HP := HP.one b (.cells (o.vals ua uc da dc) 156)
abbrev OU (o : OpS) (ua : Option Addr) : HP := RoI ua o.us.length o.us
abbrev OD (o : OpS) (da : Option Addr) : HP := RoB da o.cell.data.length o.cell.data
def OpS.small (o : OpS) : Prop := o.us.length ≤ 1000000000 ∧ o.cell.data.length ≤ 140737488355328
def ORep (b : Nat) (o : OpS) : HP := HP.ex fun ua => HP.ex fun uc => HP.ex fun da => HP.ex fun dc => HP.and o.small (HP.sep (OCells b o ua uc da dc) (HP.sep (OU o ua) (OD o da)))
theorem ORep.tri {f : FuncId} {args : Array Value} {b : Nat} {o : OpS} {B : Value → HP} (t : ∀ ua uc da dc, o.small → Tri Try.prog f args (HP.sep (OCells b o ua uc da dc) (HP.sep (OU o ua) (OD o da))) B) : Tri Try.prog f args (ORep b o) B :=
  Tri.ex fun ua => Tri.ex fun uc => Tri.ex fun da => Tri.ex fun dc => Tri.pure fun h => t ua uc da dc h
theorem ORep.tri2 {f : FuncId} {args : Array Value} {b : Nat} {o : OpS} {K : HP} {B : Value → HP} (t : ∀ ua uc da dc, o.small → Tri Try.prog f args (HP.sep (OCells b o ua uc da dc) (HP.sep (OU o ua) (HP.sep (OD o da) K))) B) : Tri Try.prog f args (HP.sep (ORep b o) K) B := by
  refine (Tri.ex fun ua => Tri.ex fun uc => Tri.ex fun da => Tri.ex fun dc => Tri.pure (φ := o.small) fun h => t ua uc da dc h).weak ?_ (fun _ _ _ h => h)
  rintro R h ⟨h1, h2, d, l1, l2, ⟨ua, uc, da, dc, e, H⟩, HK⟩
  refine ⟨ua, uc, da, dc, e, ?_⟩
  have := HP.sep_assoc ⟨h1, h2, d, l1, l2, H, HK⟩
  exact HP.sep_mono this (fun _ h => h) fun y hy => HP.sep_assoc hy
theorem twin_ok (S : HP) (w : Int) (a : Option Addr) (n c : Nat) (l : List UInt8) (hr : RdL S a n (l.map u8v)) (hl : l.length = n) (hb : n ≤ 140737488355328) :
    Tri Try.prog 91 #[.agg #[.int .i64 w, .slice a n c]] S (fun v => HP.ex fun a' => HP.ex fun c' => HP.and (v = .agg #[.int .i64 w, .slice a' n c']) (HP.sep (RoB a' n l) S)) := by
  refine tri_of_tree (ρ := [.i w, .a a, .n n, .n c, .p S]) mixed Try.func91 tree_twin ?_
  unfold t_twin
  simp only [T.den, E.prop, E.den, RX.look, F1.app, F2.app, Uni.int_i, Uni.nat_n, Uni.bool_c, Uni.str_s, Uni.adr_a, Uni.val_v, Uni.hp_p, hden, cden, V.den, W.den, A.den, BR.den, SA.den, FV.den, capV, exs, exP, allP, Cur.app, List.map_cons, List.map_nil, List.cons_append, List.nil_append, List.drop_succ_cons, List.drop_zero, List.length_cons, List.length_nil, Nat.zero_add, Nat.reduceAdd, Int.neg_neg, Bool.not_not, List.append_nil, Nat.add_zero, List.getElem?_cons_zero, List.getElem?_cons_succ, Decidable.not_not]
  intro x y
  refine (bclone_ok S a n c l hr hl hb).weak (fun _ _ h => h) ?_
  rintro v R h ⟨a', c', rfl, H⟩
  exact ⟨a', n, c', RoB a' n l, rfl, .of fun R h H => ⟨a', c', rfl, HP.sep_comm H⟩, H⟩
theorem same17_ok (w1 : Int) (a : Option Addr) (n c : Nat) (la : List UInt8) (w2 : Int) (b : Option Addr) (m d : Nat) (lb : List UInt8) (Sa Sb : HP) (hA : RdL Sa a n (la.map u8v)) (hB : RdL Sb b m (lb.map u8v)) (hla : la.length = n) (hlb : lb.length = m) :
    Tri Try.prog 128 #[.agg #[.int .i64 w1, .slice a n c], .agg #[.int .i64 w2, .slice b m d]] (HP.sep Sa Sb) (fun v => HP.and (v = .bool (decide (w1 = w2 ∧ la = lb))) (HP.sep Sa Sb)) := by
  refine tri_of_tree (ρ := [.i w1, .a a, .n n, .n c, .p Sa, .i w2, .a b, .n m, .n d, .p Sb]) mixed Try.func128 tree_same17 ?_
  unfold t_same17
  simp only [T.den, E.prop, E.den, RX.look, F1.app, F2.app, Uni.int_i, Uni.nat_n, Uni.bool_c, Uni.str_s, Uni.adr_a, Uni.val_v, Uni.hp_p, hden, cden, V.den, W.den, A.den, BR.den, SA.den, FV.den, capV, exs, exP, allP, Cur.app, List.map_cons, List.map_nil, List.cons_append, List.nil_append, List.drop_succ_cons, List.drop_zero, List.length_cons, List.length_nil, Nat.zero_add, Nat.reduceAdd, Int.neg_neg, Bool.not_not, List.append_nil, Nat.add_zero, List.getElem?_cons_zero, List.getElem?_cons_succ, Decidable.not_not]
  refine fun x y => ⟨fun h => ?_, fun h => .of fun R h' H => ⟨by simp [h], H⟩⟩
  refine (bequal_ok a n c la b m d lb Sa Sb hA hB hla hlb).weak (fun _ _ h => h) ?_
  rintro v R h' ⟨rfl, H⟩
  exact ⟨_, rfl, .of fun R h' H => ⟨by simp [h], H⟩, H⟩
section
variable (b : Nat) (o : OpS)
abbrev OpS.rho (ua : Option Addr) (uc : Nat) (da : Option Addr) (dc : Nat) : Env := [.n b, .i o.at', .i o.state, .i o.low, .a ua, .n o.us.length, .n uc, .p (OU o ua), .i o.step, .i o.place, .i o.cell.what, .a da, .n o.cell.data.length, .n dc, .p (OD o da)]
theorem cState_ok : Tri Try.prog 52 #[.pointer (some ⟨b, 0, none⟩)] (ORep b o) (fun v => HP.and (v = .int .i64 o.state) (ORep b o)) := by
  refine ORep.tri fun ua uc da dc hs => ?_
  refine tri_of_tree (ρ := OpS.rho b o ua uc da dc) mixed Try.func52 tree_cState ?_
  unfold t_cState OpS.rho
  simp only [T.den, E.prop, E.den, RX.look, F1.app, F2.app, Uni.int_i, Uni.nat_n, Uni.bool_c, Uni.str_s, Uni.adr_a, Uni.val_v, Uni.hp_p, hden, cden, V.den, W.den, A.den, BR.den, SA.den, FV.den, capV, exs, exP, allP, Cur.app, List.map_cons, List.map_nil, List.cons_append, List.nil_append, List.drop_succ_cons, List.drop_zero, List.length_cons, List.length_nil, Nat.zero_add, Nat.reduceAdd, Int.neg_neg, Bool.not_not, List.append_nil, Nat.add_zero, List.getElem?_cons_zero, List.getElem?_cons_succ, Decidable.not_not]
  exact .of fun R h H => ⟨trivial, ua, uc, da, dc, hs, H⟩
theorem cAt_ok : Tri Try.prog 54 #[.pointer (some ⟨b, 0, none⟩)] (ORep b o) (fun v => HP.and (v = .int .i64 o.at') (ORep b o)) := by
  refine ORep.tri fun ua uc da dc hs => ?_
  refine tri_of_tree (ρ := OpS.rho b o ua uc da dc) mixed Try.func54 tree_cAt ?_
  unfold t_cAt OpS.rho
  simp only [T.den, E.prop, E.den, RX.look, F1.app, F2.app, Uni.int_i, Uni.nat_n, Uni.bool_c, Uni.str_s, Uni.adr_a, Uni.val_v, Uni.hp_p, hden, cden, V.den, W.den, A.den, BR.den, SA.den, FV.den, capV, exs, exP, allP, Cur.app, List.map_cons, List.map_nil, List.cons_append, List.nil_append, List.drop_succ_cons, List.drop_zero, List.length_cons, List.length_nil, Nat.zero_add, Nat.reduceAdd, Int.neg_neg, Bool.not_not, List.append_nil, Nat.add_zero, List.getElem?_cons_zero, List.getElem?_cons_succ, Decidable.not_not]
  exact .of fun R h H => ⟨trivial, ua, uc, da, dc, hs, H⟩
theorem cLow_ok : Tri Try.prog 56 #[.pointer (some ⟨b, 0, none⟩)] (ORep b o) (fun v => HP.and (v = .int .i64 o.low) (ORep b o)) := by
  refine ORep.tri fun ua uc da dc hs => ?_
  refine tri_of_tree (ρ := OpS.rho b o ua uc da dc) mixed Try.func56 tree_cLow ?_
  unfold t_cLow OpS.rho
  simp only [T.den, E.prop, E.den, RX.look, F1.app, F2.app, Uni.int_i, Uni.nat_n, Uni.bool_c, Uni.str_s, Uni.adr_a, Uni.val_v, Uni.hp_p, hden, cden, V.den, W.den, A.den, BR.den, SA.den, FV.den, capV, exs, exP, allP, Cur.app, List.map_cons, List.map_nil, List.cons_append, List.nil_append, List.drop_succ_cons, List.drop_zero, List.length_cons, List.length_nil, Nat.zero_add, Nat.reduceAdd, Int.neg_neg, Bool.not_not, List.append_nil, Nat.add_zero, List.getElem?_cons_zero, List.getElem?_cons_succ, Decidable.not_not]
  exact .of fun R h H => ⟨trivial, ua, uc, da, dc, hs, H⟩
/-- What an Op asks for. -/
def kindC (o : OpS) : Int := if o.step = 1 ∨ o.step = 2 then 2 else 1
theorem cKindRaw_ok (ua : Option Addr) (uc : Nat) (da : Option Addr) (dc : Nat) (Uc Dc : HP) : Tri Try.prog 93 #[.pointer (some ⟨b, 0, none⟩)] (HP.sep (OCells b o ua uc da dc) (HP.sep Uc Dc)) (fun v => HP.and (v = .int .i64 (kindC o)) (HP.sep (OCells b o ua uc da dc) (HP.sep Uc Dc))) := by
  refine tri_of_tree (ρ := [.n b, .i o.at', .i o.state, .i o.low, .a ua, .n o.us.length, .n uc, .p Uc, .i o.step, .i o.place, .i o.cell.what, .a da, .n o.cell.data.length, .n dc, .p Dc]) mixed Try.func93 tree_cKind ?_
  unfold t_cKind
  simp only [T.den, E.prop, E.den, RX.look, F1.app, F2.app, Uni.int_i, Uni.nat_n, Uni.bool_c, Uni.str_s, Uni.adr_a, Uni.val_v, Uni.hp_p, hden, cden, V.den, W.den, A.den, BR.den, SA.den, FV.den, capV, exs, exP, allP, Cur.app, List.map_cons, List.map_nil, List.cons_append, List.nil_append, List.drop_succ_cons, List.drop_zero, List.length_cons, List.length_nil, Nat.zero_add, Nat.reduceAdd, Int.neg_neg, Bool.not_not, List.append_nil, Nat.add_zero, List.getElem?_cons_zero, List.getElem?_cons_succ, Decidable.not_not]
  refine ⟨fun h => .of fun R y H => ⟨by simp [kindC, h], H⟩, fun h => ⟨fun h2 => .of fun R y H => ⟨by simp [kindC, h2], H⟩, fun h2 => .of fun R y H => ⟨by simp [kindC, h, h2], H⟩⟩⟩
/-- What stands there, when it is done. -/
def doneC (o : OpS) : CellS := if o.state = 2 then o.cell else ⟨0, []⟩
theorem cCell_ok : Tri Try.prog 53 #[.pointer (some ⟨b, 0, none⟩)] (ORep b o) (fun v => HP.ex fun a' => HP.ex fun c' => HP.and (v = .agg #[.int .i64 (doneC o).what, .slice a' (doneC o).data.length c']) (HP.sep (RoB a' (doneC o).data.length (doneC o).data) (ORep b o))) := by
  refine ORep.tri fun ua uc da dc hs => ?_
  refine tri_of_tree (ρ := OpS.rho b o ua uc da dc) mixed Try.func53 tree_cCell ?_
  unfold t_cCell OpS.rho
  simp only [T.den, E.prop, E.den, RX.look, F1.app, F2.app, Uni.int_i, Uni.nat_n, Uni.bool_c, Uni.str_s, Uni.adr_a, Uni.val_v, Uni.hp_p, hden, cden, V.den, W.den, A.den, BR.den, SA.den, FV.den, capV, exs, exP, allP, Cur.app, List.map_cons, List.map_nil, List.cons_append, List.nil_append, List.drop_succ_cons, List.drop_zero, List.length_cons, List.length_nil, Nat.zero_add, Nat.reduceAdd, Int.neg_neg, Bool.not_not, List.append_nil, Nat.add_zero, List.getElem?_cons_zero, List.getElem?_cons_succ, Decidable.not_not]
  refine fun x => ⟨fun h => .of fun R y H => ⟨none, 0, by simp [doneC, h], ?_⟩, fun h => ?_⟩
  · have e : doneC o = ⟨0, []⟩ := by simp [doneC, h]
    rw [e]
    exact RoC.join (RoB0 none : (RoB none 0 []).p R y) ⟨ua, uc, da, dc, hs, H⟩
  · have e : doneC o = o.cell := by simp [doneC, h]
    rw [e]
    refine (twin_ok (OD o da) o.cell.what da _ dc o.cell.data (RdL.ro _ _ _ _) rfl hs.2).weak (fun _ _ h => h) ?_
    rintro v R h ⟨a', c', rfl, H⟩
    refine ⟨_, a', _, c', RoB a' o.cell.data.length o.cell.data, rfl, .of fun R h H => ⟨a', c', rfl, ?_⟩, H⟩
    have H1 := HP.pick [_, _, _, _] [3, 0, 1, 2] (by decide) rfl H
    exact HP.sep_mono H1 (fun _ h => h) fun y hy => ⟨ua, uc, da, dc, hs, hy⟩
end
end Go.Proofs.Ytmibmjehjagmbaa

/- Contracts of a chain's Op: what it asks, what it is told, how it begins. No condition. -/
namespace Go.Proofs.Ytmibmjehjagmbaa
set_option linter.unusedSimpArgs false
set_option linter.unusedVariables false
open Go.Proofs.Ytmibmjehjagmbaa RX

section
variable (b : Nat) (o : OpS)
/-- The cell that an Op asks with. -/
def askX (o : OpS) : CellS := if o.state = 1 then (if o.step = 0 then o.cell else if o.step = 3 then ⟨2, []⟩ else ⟨0, []⟩) else ⟨0, []⟩
theorem cAsk_ok (hp : o.state = 1 → 0 ≤ o.place ∧ o.place < o.us.length) : Tri Try.prog 92 #[.pointer (some ⟨b, 0, none⟩)] (ORep b o)
    (fun v => HP.ex fun a' => HP.ex fun c' => HP.and (v = .tuple #[.int .i64 (if o.state = 1 then (o.us[o.place.toNat]?).getD 0 else 0), .int .i64 (if o.state = 1 then kindC o else 0), .agg #[.int .i64 (askX o).what, .slice a' (askX o).data.length c'], .bool (decide (o.state = 1))])
      (HP.sep (RoB a' (askX o).data.length (askX o).data) (ORep b o))) := by
  refine ORep.tri fun ua uc da dc hs => ?_
  refine Tri.fact (φ := o.us.length ≠ 0 → ua.isSome = true) (fun R h H hn => RoC.some (HP.sep_left (HP.sep_right H)) (by omega)) fun hua => ?_
  refine tri_of_tree (ρ := OpS.rho b o ua uc da dc) mixed Try.func92 tree_cAsk ?_
  unfold t_cAsk OpS.rho
  simp only [T.den, E.prop, E.den, RX.look, F1.app, F2.app, Uni.int_i, Uni.nat_n, Uni.bool_c, Uni.str_s, Uni.adr_a, Uni.val_v, Uni.hp_p, hden, cden, V.den, W.den, A.den, BR.den, SA.den, FV.den, capV, exs, exP, allP, Cur.app, List.map_cons, List.map_nil, List.cons_append, List.nil_append, List.drop_succ_cons, List.drop_zero, List.length_cons, List.length_nil, Nat.zero_add, Nat.reduceAdd, Int.neg_neg, Bool.not_not, List.append_nil, Nat.add_zero, List.getElem?_cons_zero, List.getElem?_cons_succ, Decidable.not_not]
  intro x
  refine ⟨fun h => .of fun R y H => ⟨none, 0, by simp [askX, h], ?_⟩, fun h1 => ?_⟩
  · have e : askX o = ⟨0, []⟩ := by simp [askX, h]
    rw [e]
    exact RoC.join (RoB0 none : (RoB none 0 []).p R y) ⟨ua, uc, da, dc, hs, H⟩
  obtain ⟨p1, p2⟩ := hp h1
  have hlt : o.place.toNat < o.us.length := by omega
  have hg : (o.us.map i64v)[o.place.toNat * 1 + 0]? = some (i64v o.us[o.place.toNat]) := by simp [hlt]
  have rd := load1_ok undIb aggI szI (RoC.rd 1 ua o.us.length (o.us.map i64v)) hg
  have kd := fun Dc => cKindRaw_ok b o ua uc da dc (OU o ua) Dc
  have hget : (o.us[o.place.toNat]?).getD 0 = o.us[o.place.toNat] := by simp [hlt]
  refine ⟨fun h0 => ?_, fun h0 => ⟨fun h3 => ?_, fun h3 => ?_⟩⟩
  · have e : askX o = o.cell := by simp [askX, h1, h0]
    rw [e, if_pos h1, if_pos h1, hget, decide_eq_true h1]
    refine (twin_ok (OD o da) o.cell.what da _ dc o.cell.data (RdL.ro _ _ _ _) rfl hs.2).weak (fun _ _ h => h) ?_
    rintro v R h ⟨a', c', rfl, H⟩
    refine ⟨_, a', _, c', RoB a' o.cell.data.length o.cell.data, rfl, ?_, H⟩
    clear H
    repeat' (first
      | refine ⟨p1, fun _ => ?_⟩
      | refine ⟨p2, fun _ => ?_⟩
      | refine ⟨hua (by omega), fun _ => ?_⟩
      | refine ⟨_, rd, ?_⟩
      | (refine (kd _).weak (fun _ _ h => h) ?_; rintro v R h ⟨rfl, H⟩; refine ⟨_, rfl, ?_, H⟩; clear H)
      | exact .of fun R y H => ⟨a', c', rfl, HP.sep_mono (HP.pick [_, _, _, _] [3, 0, 1, 2] (by decide) rfl H) (fun _ h => h) fun y hy => ⟨ua, uc, da, dc, hs, hy⟩⟩
      | refine ⟨?_, ?_⟩)
  · have e : askX o = ⟨2, []⟩ := by simp [askX, h1, h0, h3]
    rw [e, if_pos h1, if_pos h1, hget, decide_eq_true h1]
    repeat' (first
      | refine ⟨p1, fun _ => ?_⟩
      | refine ⟨p2, fun _ => ?_⟩
      | refine ⟨hua (by omega), fun _ => ?_⟩
      | refine ⟨_, rd, ?_⟩
      | (refine (kd _).weak (fun _ _ h => h) ?_; rintro v R h ⟨rfl, H⟩; refine ⟨_, rfl, ?_, H⟩; clear H)
      | exact .of fun R y H => ⟨none, 0, rfl, RoC.join (RoB0 none : (RoB none 0 []).p R y) ⟨ua, uc, da, dc, hs, H⟩⟩
      | refine ⟨?_, ?_⟩)
  · have e : askX o = ⟨0, []⟩ := by simp [askX, h1, h0, h3]
    rw [e, if_pos h1, if_pos h1, hget, decide_eq_true h1]
    repeat' (first
      | refine ⟨p1, fun _ => ?_⟩
      | refine ⟨p2, fun _ => ?_⟩
      | refine ⟨hua (by omega), fun _ => ?_⟩
      | refine ⟨_, rd, ?_⟩
      | (refine (kd _).weak (fun _ _ h => h) ?_; rintro v R h ⟨rfl, H⟩; refine ⟨_, rfl, ?_, H⟩; clear H)
      | exact .of fun R y H => ⟨none, 0, rfl, RoC.join (RoB0 none : (RoB none 0 []).p R y) ⟨ua, uc, da, dc, hs, H⟩⟩
      | refine ⟨?_, ?_⟩)
end
end Go.Proofs.Ytmibmjehjagmbaa

/- Contracts of a chain's Op: what it is told. No condition. -/
namespace Go.Proofs.Ytmibmjehjagmbaa
set_option linter.unusedSimpArgs false
set_option linter.unusedVariables false
open Go.Proofs.Ytmibmjehjagmbaa RX

/-- A cell is to be written from a place on. -/
def writeC (o : OpS) (pl : Int) (x : CellS) : OpS := { o with step := 0, place := pl, cell := x, state := if (o.us.length : Int) ≤ pl then 2 else o.state }
theorem cWrite_ok (b : Nat) (o : OpS) (ua : Option Addr) (uc : Nat) (da : Option Addr) (dc : Nat) (Dc : HP) (pl w : Int) (a : Option Addr) (n c : Nat) (l : List UInt8) (S : HP) (hu : o.us.length ≤ 1000000000) (hr : RdL S a n (l.map u8v)) (hl : l.length = n) (hb : n ≤ 140737488355328) :
    Tri Try.prog 129 #[.pointer (some ⟨b, 0, none⟩), .int .i64 pl, .agg #[.int .i64 w, .slice a n c]] (HP.sep (OCells b o ua uc da dc) (HP.sep (OU o ua) (HP.sep Dc S)))
    (fun v => HP.and (v = .tuple #[]) (HP.ex fun da' => HP.ex fun dc' => HP.sep (OCells b (writeC o pl ⟨w, l⟩) ua uc da' dc') (HP.sep (OU o ua) (HP.sep (RoB da' n l) (HP.sep (OU o ua) (HP.sep Dc S)))))) := by
  refine tri_of_tree (ρ := [.n b, .i o.at', .i o.state, .i o.low, .a ua, .n o.us.length, .n uc, .p (OU o ua), .i o.step, .i o.place, .i o.cell.what, .a da, .n o.cell.data.length, .n dc, .p Dc, .i pl, .i w, .a a, .n n, .n c, .p S]) mixed Try.func129 tree_cWrite ?_
  unfold t_cWrite
  simp only [T.den, E.prop, E.den, RX.look, F1.app, F2.app, Uni.int_i, Uni.nat_n, Uni.bool_c, Uni.str_s, Uni.adr_a, Uni.val_v, Uni.hp_p, hden, cden, V.den, W.den, A.den, BR.den, SA.den, FV.den, capV, exs, exP, allP, Cur.app, List.map_cons, List.map_nil, List.cons_append, List.nil_append, List.drop_succ_cons, List.drop_zero, List.length_cons, List.length_nil, Nat.zero_add, Nat.reduceAdd, Int.neg_neg, Bool.not_not, List.append_nil, Nat.add_zero, List.getElem?_cons_zero, List.getElem?_cons_succ, Decidable.not_not]
  intro x
  refine (twin_ok S w a n c l hr hl hb).weak (fun _ _ h => h) ?_
  rintro v R h ⟨a', c', rfl, H⟩
  subst hl
  refine ⟨_, a', _, c', RoB a' l.length l, rfl, ⟨fun hge => .of fun R y H => ⟨trivial, a', c', ?_⟩, fun hlt => .of fun R y H => ⟨trivial, a', c', ?_⟩⟩, H⟩
  · have e : writeC o pl ⟨w, l⟩ = ⟨o.at', 2, o.low, o.us, 0, pl, ⟨w, l⟩⟩ := by simp [writeC, hge]
    rw [e]
    exact HP.pick [_, _, _, _, _, _] [1, 2, 3, 0, 4, 5] (by decide) rfl (RoC.join (HP.sep_left (HP.sep_right H)) H)
  · have e : writeC o pl ⟨w, l⟩ = ⟨o.at', o.state, o.low, o.us, 0, pl, ⟨w, l⟩⟩ := by simp [writeC, hlt]
    rw [e]
    exact HP.pick [_, _, _, _, _, _] [1, 2, 3, 0, 4, 5] (by decide) rfl (RoC.join (HP.sep_left (HP.sep_right H)) H)
/-- .. its own cell, or one without bytes. -/
theorem cWriteS_ok (b : Nat) (o : OpS) (ua : Option Addr) (uc : Nat) (da : Option Addr) (dc : Nat) (pl : Int) (hs : o.small) :
    Tri Try.prog 129 #[.pointer (some ⟨b, 0, none⟩), .int .i64 pl, .agg #[.int .i64 o.cell.what, .slice da o.cell.data.length dc]] (HP.sep (OCells b o ua uc da dc) (HP.sep (OU o ua) (OD o da)))
    (fun v => HP.and (v = .tuple #[]) (HP.ex fun da' => HP.ex fun dc' => HP.sep (OCells b (writeC o pl o.cell) ua uc da' dc') (HP.sep (OU o ua) (HP.sep (OD o da') (HP.sep (OU o ua) (OD o da)))))) := by
  refine (cWrite_ok b o ua uc da dc HP.tt pl o.cell.what da _ dc o.cell.data (OD o da) hs.1 (RdL.ro _ _ _ _) rfl hs.2).weak (fun R h H => ?_) fun v R h ⟨e, da', dc', H⟩ => ⟨e, da', dc', ?_⟩
  · exact HP.sep_mono H (fun _ h => h) fun y hy => HP.sep_mono hy (fun _ h => h) fun z hz => HP.tt_sep hz
  · exact HP.pick [_, _, _, _, _, _] [0, 1, 2, 3, 5] (by decide) rfl H
theorem cWriteJ_ok (b : Nat) (o : OpS) (ua : Option Addr) (uc : Nat) (da : Option Addr) (dc : Nat) (pl w : Int) (hs : o.small) :
    Tri Try.prog 129 #[.pointer (some ⟨b, 0, none⟩), .int .i64 pl, .agg #[.int .i64 w, .slice none 0 0]] (HP.sep (OCells b o ua uc da dc) (HP.sep (OU o ua) (OD o da)))
    (fun v => HP.and (v = .tuple #[]) (HP.ex fun da' => HP.ex fun dc' => HP.sep (OCells b (writeC o pl ⟨w, []⟩) ua uc da' dc') (HP.sep (OU o ua) (HP.sep (RoB da' 0 []) (HP.sep (OU o ua) (OD o da)))))) := by
  refine (cWrite_ok b o ua uc da dc (OD o da) pl w none 0 0 [] (RoB none 0 []) hs.1 (RdL.ro _ _ _ _) rfl (by omega)).weak (fun R h H => ?_) fun v R h ⟨e, da', dc', H⟩ => ⟨e, da', dc', ?_⟩
  · exact HP.sep_mono H (fun _ h => h) fun y hy => HP.sep_mono hy (fun _ h => h) fun z hz => RoC.joinR (RoB0 none : (RoB none 0 []).p R z) hz
  · exact HP.pick [_, _, _, _, _, _] [0, 1, 2, 3, 4] (by decide) rfl H
/-- What a unit's answer makes of an Op. -/
def goOnC (o : OpS) (err : Int) (x : CellS) : OpS :=
  if o.step = 0 ∧ (err = 0 ∨ (err = 10 ∧ x.what = o.cell.what ∧ x.data = o.cell.data)) then writeC o (o.place + 1) o.cell
  else if o.step = 1 ∧ err = 0 then { o with cell := x, state := 2 }
  else if o.step = 1 ∧ err = 9 then { o with step := if o.us.length = 1 then 3 else 2, place := 0 }
  else if o.step = 2 ∧ err = 0 then writeC o 1 x
  else if o.step = 2 ∧ err = 9 then { o with step := 3 }
  else if o.step = 3 ∧ err = 0 then writeC o 1 ⟨2, []⟩
  else if o.step = 3 ∧ err = 10 then writeC o 1 x
  else { o with state := 3 }
/-- .. a reply. -/
def toldC (o : OpS) (m : MS) : OpS :=
  if o.state ≠ 1 then o else if m.kind ≠ kindC o then o
  else if m.err = 0 ∨ m.err = 10 ∨ m.err = 9 then goOnC o m.err m.cell
  else if m.err = 11 then { o with state := 4, low := m.low }
  else if m.err = 8 then { o with state := 5 }
  else if m.err = 4 then { o with state := 6 }
  else { o with state := 3 }
def mRho (m : MS) (ca : Option Addr) (cc : Nat) (va : Option Addr) (vc : Nat) : Env := [.i m.fr, .i m.to, .i m.num, .c m.rep, .i m.kind, .i m.ep, .i m.at', .i m.cell.what, .a ca, .n m.cell.data.length, .n cc, .p (m.Dro ca), .i m.br, .i m.bw, .a va, .n m.val.length, .n vc, .p (m.Vro va), .i m.err, .i m.tail, .i m.low, .i m.back]
set_option maxHeartbeats 1000000 in
theorem cGoOn_ok (b : Nat) (o : OpS) (ua : Option Addr) (uc : Nat) (da : Option Addr) (dc : Nat) (m : MS) (ca : Option Addr) (cc : Nat) (va : Option Addr) (vc : Nat) (hs : o.small) (hp : 0 ≤ o.place ∧ o.place ≤ 1000000000) (hm : m.cell.data.length ≤ 140737488355328) :
    Tri Try.prog 94 #[.pointer (some ⟨b, 0, none⟩), .agg (m.raw ca cc va vc).vals] (HP.sep (OCells b o ua uc da dc) (HP.sep (OU o ua) (HP.sep (OD o da) (HP.sep (m.Dro ca) (m.Vro va)))))
    (fun v => HP.and (v = .tuple #[]) (HP.ex fun da' => HP.ex fun dc' => HP.sep (OCells b (goOnC o m.err m.cell) ua uc da' dc') (HP.sep (OU o ua) (HP.sep (OD (goOnC o m.err m.cell) da') (HP.sep (OU o ua) (HP.sep (OD o da) (HP.sep (m.Dro ca) (m.Vro va)))))))) := by
  refine tri_of_tree (ρ := OpS.rho b o ua uc da dc ++ mRho m ca cc va vc) mixed Try.func94 tree_cGoOn ?_
  unfold t_cGoOn OpS.rho mRho
  simp only [T.den, E.prop, E.den, RX.look, F1.app, F2.app, Uni.int_i, Uni.nat_n, Uni.bool_c, Uni.str_s, Uni.adr_a, Uni.val_v, Uni.hp_p, hden, cden, V.den, W.den, A.den, BR.den, SA.den, FV.den, capV, exs, exP, allP, Cur.app, List.map_cons, List.map_nil, List.cons_append, List.nil_append, List.drop_succ_cons, List.drop_zero, List.length_cons, List.length_nil, Nat.zero_add, Nat.reduceAdd, Int.neg_neg, Bool.not_not, List.append_nil, Nat.add_zero, List.getElem?_cons_zero, List.getElem?_cons_succ, Decidable.not_not]
  intro x
  obtain ⟨hp1, hp2⟩ := hp
  have hs1 := hs.1
  repeat' (first
    | (exfalso; omega)
    | refine ⟨fun _ => ?_, fun _ => ?_⟩
    | refine ⟨inI64 _ (by omega) (by omega), fun _ => ?_⟩
    | (refine (same17_ok m.cell.what ca _ cc m.cell.data o.cell.what da _ dc o.cell.data (m.Dro ca) (OD o da) (RdL.ro _ _ _ _) (RdL.ro _ _ _ _) rfl rfl).weak (fun _ _ h => h) ?_
       rintro v R h ⟨rfl, H⟩
       refine ⟨_, rfl, ?_, H⟩
       clear H
       simp only [decide_eq_true_eq])
    | fail)
  all_goals first
    | (have e : goOnC o m.err m.cell = { o with state := 3 } := by simp [goOnC, *]
       exact .of fun R y H => ⟨trivial, da, dc, by rw [e]; exact HP.pick [_, _, _, _, _, _, _] [2, 3, 4, 1, 0, 5, 6] (by decide) rfl (RoC.join (HP.sep_left (HP.sep_right (HP.sep_right H))) (RoC.join (HP.sep_left (HP.sep_right H)) H))⟩)
    | (have e : goOnC o m.err m.cell = { o with step := 3, place := 0 } := by simp [goOnC, *] <;> omega
       exact .of fun R y H => ⟨trivial, da, dc, by rw [e]; exact HP.pick [_, _, _, _, _, _, _] [2, 3, 4, 1, 0, 5, 6] (by decide) rfl (RoC.join (HP.sep_left (HP.sep_right (HP.sep_right H))) (RoC.join (HP.sep_left (HP.sep_right H)) H))⟩)
    | (have e : goOnC o m.err m.cell = { o with step := 2, place := 0 } := by simp [goOnC, *] <;> omega
       exact .of fun R y H => ⟨trivial, da, dc, by rw [e]; exact HP.pick [_, _, _, _, _, _, _] [2, 3, 4, 1, 0, 5, 6] (by decide) rfl (RoC.join (HP.sep_left (HP.sep_right (HP.sep_right H))) (RoC.join (HP.sep_left (HP.sep_right H)) H))⟩)
    | (have e : goOnC o m.err m.cell = { o with step := 3 } := by simp [goOnC, *]
       exact .of fun R y H => ⟨trivial, da, dc, by rw [e]; exact HP.pick [_, _, _, _, _, _, _] [2, 3, 4, 1, 0, 5, 6] (by decide) rfl (RoC.join (HP.sep_left (HP.sep_right (HP.sep_right H))) (RoC.join (HP.sep_left (HP.sep_right H)) H))⟩)
    | (have e : goOnC o m.err m.cell = writeC o (o.place + 1) o.cell := by simp [goOnC, *]
       rw [e]
       refine (cWriteS_ok b o ua uc da dc (o.place + 1) hs).weak (fun _ _ h => h) ?_
       rintro v R h ⟨rfl, da', dc', H⟩
       exact ⟨_, _, _, ua, _, uc, OU o ua, _, _, _, da', _, dc', OD o da', rfl, .of fun R y H => ⟨trivial, da', dc', H⟩, H⟩)
    | (have e : goOnC o m.err m.cell = writeC o 1 ⟨2, []⟩ := by simp [goOnC, *]
       rw [e]
       refine (cWriteJ_ok b o ua uc da dc 1 2 hs).weak (fun _ _ h => h) ?_
       rintro v R h ⟨rfl, da', dc', H⟩
       exact ⟨_, _, _, ua, _, uc, OU o ua, _, _, _, da', _, dc', RoB da' 0 [], rfl, .of fun R y H => ⟨trivial, da', dc', H⟩, H⟩)
    | (have e : goOnC o m.err m.cell = writeC o 1 m.cell := by simp [goOnC, *]
       rw [e]
       refine (cWrite_ok b o ua uc da dc (OD o da) 1 m.cell.what ca _ cc m.cell.data (m.Dro ca) hs.1 (RdL.ro _ _ _ _) rfl hm).weak (fun _ _ h => h) ?_
       rintro v R h ⟨rfl, da', dc', H⟩
       exact ⟨_, _, _, ua, _, uc, OU o ua, _, _, _, da', _, dc', RoB da' _ m.cell.data, rfl, .of fun R y H => ⟨trivial, da', dc', H⟩, H⟩)
    | (have e : goOnC o m.err m.cell = { o with cell := m.cell, state := 2 } := by simp [goOnC, *]
       rw [e]
       refine (twin_ok (m.Dro ca) m.cell.what ca _ cc m.cell.data (RdL.ro _ _ _ _) rfl hm).weak (fun _ _ h => h) ?_
       rintro v R h ⟨a', c', rfl, H⟩
       refine ⟨_, a', _, c', RoB a' m.cell.data.length m.cell.data, rfl, .of fun R y H => ⟨trivial, a', c', ?_⟩, H⟩
       exact HP.pick [_, _, _, _, _, _, _] [1, 2, 3, 0, 4, 5, 6] (by decide) rfl (RoC.join (HP.sep_left (HP.sep_right H)) H))
set_option maxHeartbeats 1000000 in
theorem cTold_ok (b : Nat) (o : OpS) (m : MS) (ca : Option Addr) (cc : Nat) (va : Option Addr) (vc : Nat) (hp : 0 ≤ o.place ∧ o.place ≤ 1000000000) (hm : m.cell.data.length ≤ 140737488355328) :
    Tri Try.prog 55 #[.pointer (some ⟨b, 0, none⟩), .agg (m.raw ca cc va vc).vals] (HP.sep (ORep b o) (HP.sep (m.Dro ca) (m.Vro va)))
    (fun v => HP.and (v = .tuple #[]) (HP.sep (ORep b (toldC o m)) (HP.sep (m.Dro ca) (m.Vro va)))) := by
  refine ORep.tri2 fun ua uc da dc hs => ?_
  refine tri_of_tree (ρ := OpS.rho b o ua uc da dc ++ mRho m ca cc va vc) mixed Try.func55 tree_cTold ?_
  unfold t_cTold OpS.rho mRho
  simp only [T.den, E.prop, E.den, RX.look, F1.app, F2.app, Uni.int_i, Uni.nat_n, Uni.bool_c, Uni.str_s, Uni.adr_a, Uni.val_v, Uni.hp_p, hden, cden, V.den, W.den, A.den, BR.den, SA.den, FV.den, capV, exs, exP, allP, Cur.app, List.map_cons, List.map_nil, List.cons_append, List.nil_append, List.drop_succ_cons, List.drop_zero, List.length_cons, List.length_nil, Nat.zero_add, Nat.reduceAdd, Int.neg_neg, Bool.not_not, List.append_nil, Nat.add_zero, List.getElem?_cons_zero, List.getElem?_cons_succ, Decidable.not_not]
  intro x
  have done : ∀ (o' : OpS) (da' : Option Addr) (dc' : Nat) (R h : PH), o'.small → o'.us = o.us → (HP.sep (HP.one b (.cells (o'.vals ua uc da' dc') 156)) (HP.sep (OU o ua) (HP.sep (OD o' da') (HP.sep (m.Dro ca) (m.Vro va))))).p R h → (HP.sep (ORep b o') (HP.sep (m.Dro ca) (m.Vro va))).p R h := fun o' da' dc' R h hs' hu H => by
    have H1 : (HP.sep (HP.sep (HP.one b (.cells (o'.vals ua uc da' dc') 156)) (HP.sep (OU o ua) (OD o' da'))) (HP.sep (m.Dro ca) (m.Vro va))).p R h := HP.sep_assoc' (HP.sep_mono H (fun _ h => h) fun y hy => HP.sep_assoc' hy)
    refine HP.sep_mono H1 (fun y hy => ⟨ua, uc, da', dc', hs', ?_⟩) fun _ h => h
    rw [show OU o' ua = OU o ua by unfold OU; rw [hu]]
    exact hy
  have smallG : (goOnC o m.err m.cell).small ∧ (goOnC o m.err m.cell).us = o.us := by
    unfold goOnC writeC OpS.small
    repeat' split
    all_goals exact ⟨⟨hs.1, by first | exact hs.2 | exact hm | simp⟩, rfl⟩
  have lone : ∀ (o' : OpS) (R h : PH), toldC o m = o' → o'.small → o'.us = o.us → o'.cell = o.cell → (HP.sep (HP.one b (.cells (o'.vals ua uc da dc) 156)) (HP.sep (OU o ua) (HP.sep (OD o da) (HP.sep (m.Dro ca) (m.Vro va))))).p R h → (HP.and True (HP.sep (ORep b (toldC o m)) (HP.sep (m.Dro ca) (m.Vro va)))).p R h := fun o' R h e hs' hu hc H => by
    refine ⟨trivial, ?_⟩
    rw [e]
    exact done o' da dc R h hs' hu (by unfold OD at H ⊢; rw [hc]; exact H)
  refine ⟨fun h1 => .of fun R y H => lone o R y (by simp [toldC, h1]) hs rfl rfl H, fun h1 => ?_⟩
  refine (cKindRaw_ok b o ua uc da dc (OU o ua) (OD o da)).weak (fun _ _ h => h) ?_
  rintro v R h ⟨rfl, H⟩
  refine ⟨_, rfl, ?_, H⟩
  clear H
  refine ⟨fun hk => .of fun R y H => lone o R y (by simp [toldC, h1, hk]) hs rfl rfl H, fun hk => ?_⟩
  have goes : (m.err = 0 ∨ m.err = 10 ∨ m.err = 9) → ∀ (B : Value → HP),
      (∀ (da' : Option Addr) (dc' : Nat) R h, (HP.sep (OCells b (goOnC o m.err m.cell) ua uc da' dc') (HP.sep (OU o ua) (HP.sep (OD (goOnC o m.err m.cell) da') (HP.sep (OU o ua) (HP.sep (OD o da) (HP.sep (m.Dro ca) (m.Vro va))))))).p R h → (B (.tuple #[])).p R h) →
      Tri Try.prog 94 #[.pointer (some ⟨b, 0, none⟩), .agg (m.raw ca cc va vc).vals] (HP.sep (OCells b o ua uc da dc) (HP.sep (OU o ua) (HP.sep (OD o da) (HP.sep (m.Dro ca) (m.Vro va))))) B := fun _ B hB =>
    (cGoOn_ok b o ua uc da dc m ca cc va vc hs hp hm).weak (fun _ _ h => h) fun v R h ⟨e, da', dc', H⟩ => by subst e; exact hB da' dc' R h H
  have fin : (m.err = 0 ∨ m.err = 10 ∨ m.err = 9) → ∀ (da' : Option Addr) (dc' : Nat) (R y : PH), (HP.sep (HP.one b (.cells ((goOnC o m.err m.cell).vals ua uc da' dc') 156)) (HP.sep (OU o ua) (HP.sep (OD (goOnC o m.err m.cell) da') (HP.sep (OU o ua) (HP.sep (OD o da) (HP.sep (m.Dro ca) (m.Vro va))))))).p R y → (HP.and True (HP.sep (ORep b (toldC o m)) (HP.sep (m.Dro ca) (m.Vro va)))).p R y := fun he da' dc' R y H => by
    refine ⟨trivial, ?_⟩
    have e : toldC o m = goOnC o m.err m.cell := by simp only [toldC]; rw [if_neg (by simpa using h1), if_neg (by simpa using hk), if_pos he]
    rw [e]
    exact done _ da' dc' R y smallG.1 smallG.2 (HP.pick [_, _, _, _, _, _, _] [0, 1, 2, 5, 6] (by decide) rfl H)
  have hus := smallG.2
  refine ⟨fun h0 => ?_, fun h0 => ⟨fun h10 => ?_, fun h10 => ⟨fun h9 => ?_, fun h9 => ⟨fun h11 => ?_, fun h11 => ⟨fun h8 => ?_, fun h8 => ⟨fun h4 => ?_, fun h4 => ?_⟩⟩⟩⟩⟩⟩
  · refine goes (.inl h0) _ fun da' dc' R h H => ⟨_, _, _, ua, _, uc, OU o ua, _, _, _, da', _, dc', OD _ da', rfl, .of fun R y H => fin (.inl h0) da' dc' R y H, H⟩
  · refine goes (.inr (.inl h10)) _ fun da' dc' R h H => ⟨_, _, _, ua, _, uc, OU o ua, _, _, _, da', _, dc', OD _ da', rfl, .of fun R y H => fin (.inr (.inl h10)) da' dc' R y H, H⟩
  · refine goes (.inr (.inr h9)) _ fun da' dc' R h H => ⟨_, _, _, ua, _, uc, OU o ua, _, _, _, da', _, dc', OD _ da', rfl, .of fun R y H => fin (.inr (.inr h9)) da' dc' R y H, H⟩
  · exact .of fun R y H => lone { o with state := 4, low := m.low } R y (by simp [toldC, h1, hk, h11]) hs rfl rfl H
  · exact .of fun R y H => lone { o with state := 5 } R y (by simp [toldC, h1, hk, h8]) hs rfl rfl H
  · exact .of fun R y H => lone { o with state := 6 } R y (by simp [toldC, h1, hk, h4]) hs rfl rfl H
  · exact .of fun R y H => lone { o with state := 3 } R y (by simp [toldC, h1, hk, h0, h10, h9, h11, h8, h4]) hs rfl rfl H
end Go.Proofs.Ytmibmjehjagmbaa

/- Contracts of a chain's Op: how it begins. No condition. -/
namespace Go.Proofs.Ytmibmjehjagmbaa
set_option linter.unusedSimpArgs false
set_option linter.unusedVariables false
open Go.Proofs.Ytmibmjehjagmbaa RX

def beginC (at' : Int) (us : List Int) : OpS := ⟨at', if us.length = 0 then 3 else 1, 0, us, 0, 0, ⟨0, []⟩⟩
theorem begin_ok (at' : Int) (a : Option Addr) (n c : Nat) (us : List Int) (S : HP) (hr : RdL S a n (us.map i64v)) (hl : us.length = n) (hb : n ≤ 1000000000) :
    Tri Try.prog 90 #[.int .i64 at', .slice a n c] S
    (fun v => HP.ex fun b => HP.ex fun ua => HP.ex fun uc => HP.and (v = .pointer (some ⟨b, 0, none⟩)) (HP.sep S (HP.sep (OCells b (beginC at' us) ua uc none 0) (RoI ua n us)))) := by
  refine tri_of_tree (ρ := [.i at', .a a, .n n, .n c, .p S]) mixed Try.func90 tree_begin ?_
  unfold t_begin
  simp only [T.den, E.prop, E.den, RX.look, F1.app, F2.app, Uni.int_i, Uni.nat_n, Uni.bool_c, Uni.str_s, Uni.adr_a, Uni.val_v, Uni.hp_p, hden, cden, V.den, W.den, A.den, BR.den, SA.den, FV.den, capV, exs, exP, allP, Cur.app, List.map_cons, List.map_nil, List.cons_append, List.nil_append, List.drop_succ_cons, List.drop_zero, List.length_cons, List.length_nil, Nat.zero_add, Nat.reduceAdd, Int.neg_neg, Bool.not_not, List.append_nil, Nat.add_zero, List.getElem?_cons_zero, List.getElem?_cons_succ, Decidable.not_not]
  refine (cloneI_ok S a n c us hr hl hb).weak (fun _ _ h => h) ?_
  rintro v R h ⟨ua, uc, rfl, H⟩
  subst hl
  refine ⟨ua, _, uc, RoI ua us.length us, rfl, fun b => ⟨fun h0 => .of fun R y H => ⟨b, ua, uc, rfl, ?_⟩, fun h0 => .of fun R y H => ⟨b, ua, uc, rfl, ?_⟩⟩, H⟩
  · have e : beginC at' us = ⟨at', 3, 0, us, 0, 0, ⟨0, []⟩⟩ := by
      have : us.length = 0 := by omega
      simp [beginC, this]
    rw [e]
    exact H
  · have e : beginC at' us = ⟨at', 1, 0, us, 0, 0, ⟨0, []⟩⟩ := by
      have : ¬ us.length = 0 := by omega
      simp [beginC, this]
    rw [e]
    exact H
theorem infoCell : (Try.prog.info? 32).map (fun i => (i.zero, i.size, i.bytes)) = some (some (.agg #[.int .i64 0, .slice none 0 0]), 2, 32) := by kernel_rfl
theorem storeI_ok (b : Nat) (cs : Array Value) (e : TypeId) (off : Nat) (x : Int) (hk : off + 1 ≤ cs.size) : OTri Try.prog (storeS 3 (.pointer (some ⟨b, off, none⟩)) (.int .i64 x)) (HP.one b (.cells cs e (0, 0))) (fun v => HP.and (v = .tuple #[]) (HP.one b (.cells (cs.toList.take off ++ [Value.int .i64 x] ++ cs.toList.drop (off + 1)).toArray e (0, 0)))) := by
  obtain ⟨i, hi, h1, h2, h3⟩ := info_parts infoInt
  exact storeOne_ok hi e b cs off (.int .i64 x) [.int .i64 x] rfl (by rw [h2]; rfl) (by simp) (fun v hv => by simp at hv; subst hv; rfl) (by simpa using hk) (by unfold maxLen; omega)
theorem storeX_ok (b : Nat) (cs : Array Value) (e : TypeId) (off : Nat) (w : Int) (a : Option Addr) (n c : Nat) (hk : off + 2 ≤ cs.size) : OTri Try.prog (storeS 32 (.pointer (some ⟨b, off, none⟩)) (.agg #[.int .i64 w, .slice a n c])) (HP.one b (.cells cs e (0, 0))) (fun v => HP.and (v = .tuple #[]) (HP.one b (.cells (cs.toList.take off ++ [Value.int .i64 w, Value.slice a n c] ++ cs.toList.drop (off + 2)).toArray e (0, 0)))) := by
  obtain ⟨i, hi, h1, h2, h3⟩ := info_parts infoCell
  exact storeOne_ok hi e b cs off (.agg #[.int .i64 w, .slice a n c]) [.int .i64 w, .slice a n c] (by first | rfl | simp [Value.cells]) (by rw [h2]; rfl) (by simp) (fun v hv => by simp at hv; rcases hv with rfl | rfl <;> rfl) (by simpa using hk) (by unfold maxLen; omega)
theorem semOf_storeC {ρ : Env} {i : Nat} {t ty : TypeId} {u : V} {x : Value} : semOf ρ (.store t (.tmp i) (.const x)) ty [(i, u)] = storeS t (u.den ρ) x := by
  simp [semOf, execOp, arEval, storeS]
theorem cAppend_ok (at' : Int) (a : Option Addr) (n c : Nat) (us : List Int) (S : HP) (hr : RdL S a n (us.map i64v)) (hl : us.length = n) (hb : n ≤ 1000000000)
    (w : Int) (xa : Option Addr) (xn xc : Nat) (l : List UInt8) (Sx : HP) (hx : RdL Sx xa xn (l.map u8v)) (hxl : l.length = xn) (hxb : xn ≤ 140737488355328) :
    Tri Try.prog 50 #[.int .i64 at', .slice a n c, .agg #[.int .i64 w, .slice xa xn xc]] (HP.sep S Sx)
    (fun v => HP.ex fun b => HP.and (v = .pointer (some ⟨b, 0, none⟩)) (HP.sep S (HP.sep Sx (ORep b { beginC at' us with cell := ⟨w, l⟩ })))) := by
  refine tri_of_tree (ρ := [.i at', .a a, .n n, .n c, .p S, .i w, .a xa, .n xn, .n xc, .p Sx]) mixed Try.func50 tree_cAppend ?_
  unfold t_cAppend
  simp only [T.den, E.prop, E.den, RX.look, F1.app, F2.app, Uni.int_i, Uni.nat_n, Uni.bool_c, Uni.str_s, Uni.adr_a, Uni.val_v, Uni.hp_p, hden, cden, V.den, W.den, A.den, BR.den, SA.den, FV.den, capV, exs, exP, allP, Cur.app, List.map_cons, List.map_nil, List.cons_append, List.nil_append, List.drop_succ_cons, List.drop_zero, List.length_cons, List.length_nil, Nat.zero_add, Nat.reduceAdd, Int.neg_neg, Bool.not_not, List.append_nil, Nat.add_zero, List.getElem?_cons_zero, List.getElem?_cons_succ, Decidable.not_not]
  intro x
  refine (begin_ok at' a n c us S hr hl hb).weak (fun _ _ h => h) ?_
  rintro v R h ⟨b, ua, uc, rfl, H⟩
  subst hl
  refine ⟨b, HP.sep (OCells b (beginC at' us) ua uc none 0) (RoI ua us.length us), rfl, ?_, HP.sep_comm H⟩
  clear H
  refine (twin_ok Sx w xa xn xc l hx hxl hxb).weak (fun _ _ h => h) ?_
  rintro v R h ⟨da, dc, rfl, H⟩
  subst hxl
  refine ⟨_, da, _, dc, RoB da l.length l, rfl, ?_, H⟩
  clear H
  rw [semOf_storeC]
  simp only [T.den, E.prop, E.den, RX.look, F1.app, F2.app, Uni.int_i, Uni.nat_n, Uni.bool_c, Uni.str_s, Uni.adr_a, Uni.val_v, Uni.hp_p, hden, cden, V.den, W.den, A.den, BR.den, SA.den, FV.den, capV, exs, exP, allP, Cur.app, List.map_cons, List.map_nil, List.cons_append, List.nil_append, List.drop_succ_cons, List.drop_zero, List.length_cons, List.length_nil, Nat.zero_add, Nat.reduceAdd, Int.neg_neg, Bool.not_not, List.append_nil, Nat.add_zero, List.getElem?_cons_zero, List.getElem?_cons_succ, Decidable.not_not]
  refine ((storeI_ok b (OpS.vals (beginC at' us) ua uc none 0) _ 4 0 (of_decide_eq_true rfl)).frame (RoI ua us.length us)).weak (fun _ _ h => h) ?_
  rintro v R h ⟨h1, h2, d, l1, l2, ⟨rfl, H⟩, HU⟩
  refine ⟨HP.sep (OCells b (beginC at' us) ua uc none 0) (RoI ua us.length us), rfl, ?_, ⟨h1, h2, d, l1, l2, H, HU⟩⟩
  clear H HU
  rw [semOf_store (by decide)]
  simp only [T.den, E.prop, E.den, RX.look, F1.app, F2.app, Uni.int_i, Uni.nat_n, Uni.bool_c, Uni.str_s, Uni.adr_a, Uni.val_v, Uni.hp_p, hden, cden, V.den, W.den, A.den, BR.den, SA.den, FV.den, capV, exs, exP, allP, Cur.app, List.map_cons, List.map_nil, List.cons_append, List.nil_append, List.drop_succ_cons, List.drop_zero, List.length_cons, List.length_nil, Nat.zero_add, Nat.reduceAdd, Int.neg_neg, Bool.not_not, List.append_nil, Nat.add_zero, List.getElem?_cons_zero, List.getElem?_cons_succ, Decidable.not_not]
  let o : OpS := { beginC at' us with cell := ⟨w, l⟩ }
  refine (((storeX_ok b (OpS.vals (beginC at' us) ua uc none 0) _ 6 w da l.length dc (of_decide_eq_true rfl)).frame (RoI ua us.length us)).frame (RoB da l.length l)).weak (fun _ _ h => h) ?_
  rintro v R h ⟨h1, h2, d, l1, l2, ⟨h3, h4, d', l3, l4, ⟨rfl, H⟩, HU⟩, HD⟩
  have H1 : (HP.sep (HP.sep (OCells b o ua uc da dc) (RoI ua us.length us)) (RoB da l.length l)).p R h := ⟨h1, h2, d, l1, l2, ⟨h3, h4, d', l3, l4, H, HU⟩, HD⟩
  refine ⟨ORep b o, rfl, .of fun R y H => ⟨b, rfl, H⟩, ?_⟩
  exact RoC.joinR (HP.sep_right H1) ⟨ua, uc, da, dc, ⟨hb, hxb⟩, HP.sep_assoc H1⟩
theorem cResolve_ok (at' : Int) (a : Option Addr) (n c : Nat) (us : List Int) (S : HP) (hr : RdL S a n (us.map i64v)) (hl : us.length = n) (hb : n ≤ 1000000000) :
    Tri Try.prog 49 #[.int .i64 at', .slice a n c] S
    (fun v => HP.ex fun b => HP.and (v = .pointer (some ⟨b, 0, none⟩)) (HP.sep S (ORep b { beginC at' us with step := 1, place := (n : Int) - 1 }))) := by
  refine tri_of_tree (ρ := [.i at', .a a, .n n, .n c, .p S]) mixed Try.func49 tree_cResolve ?_
  unfold t_cResolve
  simp only [T.den, E.prop, E.den, RX.look, F1.app, F2.app, Uni.int_i, Uni.nat_n, Uni.bool_c, Uni.str_s, Uni.adr_a, Uni.val_v, Uni.hp_p, hden, cden, V.den, W.den, A.den, BR.den, SA.den, FV.den, capV, exs, exP, allP, Cur.app, List.map_cons, List.map_nil, List.cons_append, List.nil_append, List.drop_succ_cons, List.drop_zero, List.length_cons, List.length_nil, Nat.zero_add, Nat.reduceAdd, Int.neg_neg, Bool.not_not, List.append_nil, Nat.add_zero, List.getElem?_cons_zero, List.getElem?_cons_succ, Decidable.not_not]
  refine (begin_ok at' a n c us S hr hl hb).weak (fun _ _ h => h) ?_
  rintro v R h ⟨b, ua, uc, rfl, H⟩
  subst hl
  refine ⟨b, HP.sep (OCells b (beginC at' us) ua uc none 0) (RoI ua us.length us), rfl, ⟨inI64 _ (by omega) (by omega), fun _ => ?_⟩, HP.sep_comm H⟩
  clear H
  rw [semOf_storeC]
  simp only [T.den, E.prop, E.den, RX.look, F1.app, F2.app, Uni.int_i, Uni.nat_n, Uni.bool_c, Uni.str_s, Uni.adr_a, Uni.val_v, Uni.hp_p, hden, cden, V.den, W.den, A.den, BR.den, SA.den, FV.den, capV, exs, exP, allP, Cur.app, List.map_cons, List.map_nil, List.cons_append, List.nil_append, List.drop_succ_cons, List.drop_zero, List.length_cons, List.length_nil, Nat.zero_add, Nat.reduceAdd, Int.neg_neg, Bool.not_not, List.append_nil, Nat.add_zero, List.getElem?_cons_zero, List.getElem?_cons_succ, Decidable.not_not]
  refine ((storeI_ok b (OpS.vals (beginC at' us) ua uc none 0) _ 4 1 (of_decide_eq_true rfl)).frame (RoI ua us.length us)).weak (fun _ _ h => h) ?_
  rintro v R h ⟨h1, h2, d, l1, l2, ⟨rfl, H⟩, HU⟩
  let o1 : OpS := { beginC at' us with step := 1 }
  refine ⟨HP.sep (OCells b o1 ua uc none 0) (RoI ua us.length us), rfl, ?_, ⟨h1, h2, d, l1, l2, H, HU⟩⟩
  clear H HU
  rw [semOf_store (by decide)]
  simp only [T.den, E.prop, E.den, RX.look, F1.app, F2.app, Uni.int_i, Uni.nat_n, Uni.bool_c, Uni.str_s, Uni.adr_a, Uni.val_v, Uni.hp_p, hden, cden, V.den, W.den, A.den, BR.den, SA.den, FV.den, capV, exs, exP, allP, Cur.app, List.map_cons, List.map_nil, List.cons_append, List.nil_append, List.drop_succ_cons, List.drop_zero, List.length_cons, List.length_nil, Nat.zero_add, Nat.reduceAdd, Int.neg_neg, Bool.not_not, List.append_nil, Nat.add_zero, List.getElem?_cons_zero, List.getElem?_cons_succ, Decidable.not_not]
  let o : OpS := { beginC at' us with step := 1, place := (us.length : Int) - 1 }
  refine ((storeI_ok b (OpS.vals o1 ua uc none 0) _ 5 _ (of_decide_eq_true rfl)).frame (RoI ua us.length us)).weak (fun _ _ h => h) ?_
  rintro v R h ⟨h1, h2, d, l1, l2, ⟨rfl, H⟩, HU⟩
  have H1 : (HP.sep (OCells b o ua uc none 0) (RoI ua us.length us)).p R h := ⟨h1, h2, d, l1, l2, H, HU⟩
  refine ⟨ORep b o, rfl, .of fun R y H => ⟨b, rfl, H⟩, ?_⟩
  exact ⟨ua, uc, none, 0, ⟨hb, by show 0 ≤ _; omega⟩, HP.sep_mono H1 (fun _ h => h) fun y hy => RoC.joinR (RoB0 none : (RoB none 0 []).p R y) hy⟩
end Go.Proofs.Ytmibmjehjagmbaa
