/- Contracts of what the laws compare with; a list of messages that came in. No condition. -/
import Derived.Test.YtmibmjehjagmbaaSrvC
import Derived.Test.YtmibmjehjagmbaaTrLaw14
namespace Go.Proofs.Ytmibmjehjagmbaa
set_option linter.unusedSimpArgs false
set_option linter.unusedVariables false
open Go.Proofs.Ytmibmjehjagmbaa RX

theorem same01_ok (a : Option Addr) (n c : Nat) (la : List UInt8) (b : Option Addr) (m d : Nat) (lb : List UInt8) (Sa Sb : HP) (hA : RdL Sa a n (la.map u8v)) (hB : RdL Sb b m (lb.map u8v)) (hla : la.length = n) (hlb : lb.length = m) (hn : n ≤ 140737488355328) :
    Tri Try.prog 68 #[.slice a n c, .slice b m d] (HP.sep Sa Sb) (fun v => HP.and (v = .bool (decide (la = lb))) (HP.sep Sa Sb)) := by
  refine Tri.fact (φ := (n ≠ 0 → a.isSome = true) ∧ (m ≠ 0 → b.isSome = true)) (fun R h H => ⟨fun hn => ?_, fun hn => ?_⟩) fun ⟨ha, hb⟩ => ?_
  · cases a with
    | some x => rfl
    | none => exact absurd (hA.none R h (HP.sep_left H) rfl) hn
  · cases b with
    | some x => rfl
    | none => exact absurd (hB.none R h (HP.sep_right H) rfl) hn
  refine tri_of_tree (ρ := [.a a, .n n, .n c, .p Sa, .a b, .n m, .n d, .p Sb]) mixed Try.func68 tree_same01 ?_
  unfold t_same01
  simp only [T.den, E.prop, E.den, RX.look, F1.app, F2.app, Uni.int_i, Uni.nat_n, Uni.bool_c, Uni.str_s, Uni.adr_a, Uni.val_v, Uni.hp_p, hden, cden, V.den, W.den, A.den, BR.den, SA.den, FV.den, capV, exs, exP, allP, Cur.app, List.map_cons, List.map_nil, List.cons_append, List.nil_append, List.drop_succ_cons, List.drop_zero, List.length_cons, List.length_nil, Nat.zero_add, Nat.reduceAdd, Int.neg_neg, Bool.not_not, List.append_nil, Nat.add_zero, List.getElem?_cons_zero, List.getElem?_cons_succ, Decidable.not_not]
  refine ⟨fun h => .of fun R h' H => ⟨?_, H⟩, fun h => ?_⟩
  · rw [decide_eq_false]
    intro e; subst e; omega
  have hnm : n = m := by omega
  subst hnm
  refine ⟨fun _ i => ∃ k : Nat, i = k ∧ k ≤ n ∧ la.take k = lb.take k, fun _ i => n - i.toNat, ⟨0, rfl, Nat.zero_le _, rfl⟩, ?_⟩
  rintro x _ ⟨k, rfl, hk, hpre⟩
  refine ⟨fun hlt => ⟨by omega, fun _ => ⟨ha (by omega), fun _ => ⟨by omega, fun _ => ⟨hb (by omega), fun _ => ?_⟩⟩⟩⟩, fun hge => .of fun R h' H => ⟨?_, H⟩⟩
  · have hka : k < la.length := by omega
    have hkb : k < lb.length := by omega
    have ga : la[k]? = some la[k] := List.getElem?_eq_getElem hka
    have gb : lb[k]? = some lb[k] := List.getElem?_eq_getElem hkb
    have ra := load1_ok und8b agg8 sz8 hA.rd (k := (k : Int).toNat * 1) (off := 0) (v := u8v la[k]) (by simp [ga])
    have rb := load1_ok und8b agg8 sz8 hB.rd (k := (k : Int).toNat * 1) (off := 0) (v := u8v lb[k]) (by simp [gb])
    have no : ¬ (la[k].toNat : Int) = (lb[k].toNat : Int) → decide (la = lb) = false := fun h => by
      rw [decide_eq_false]
      intro e; subst e; exact h rfl
    have yes : (la[k].toNat : Int) = (lb[k].toNat : Int) → la.take (k + 1) = lb.take (k + 1) := fun h => by
      rw [List.take_succ_eq_append_getElem hka, List.take_succ_eq_append_getElem hkb, hpre]
      have : la[k] = lb[k] := UInt8.toNat_inj.1 (by omega)
      rw [this]
    refine ⟨⟨_, ra, _, rb, fun h1 => .of fun R h' H => ⟨by rw [no h1], H⟩, fun h1 => ⟨inI64 _ (by omega) (by omega), fun _ => ⟨⟨k + 1, by omega, by omega, yes h1⟩, by dsimp only; omega⟩⟩⟩,
      ⟨_, rb, _, ra, fun h1 => .of fun R h' H => ⟨by rw [no h1], H⟩, fun h1 => ⟨inI64 _ (by omega) (by omega), fun _ => ⟨⟨k + 1, by omega, by omega, yes h1⟩, by dsimp only; omega⟩⟩⟩⟩
  · have hke : k = n := by omega
    subst hke
    rw [List.take_of_length_le (by omega), List.take_of_length_le (by omega)] at hpre
    rw [decide_eq_true hpre]
theorem sameCell_ok (w1 : Int) (a : Option Addr) (n c : Nat) (la : List UInt8) (w2 : Int) (b : Option Addr) (m d : Nat) (lb : List UInt8) (Sa Sb : HP) (hA : RdL Sa a n (la.map u8v)) (hB : RdL Sb b m (lb.map u8v)) (hla : la.length = n) (hlb : lb.length = m) (hn : n ≤ 140737488355328) :
    Tri Try.prog 21 #[.agg #[.int .i64 w1, .slice a n c], .agg #[.int .i64 w2, .slice b m d]] (HP.sep Sa Sb) (fun v => HP.and (v = .bool (decide (w1 = w2 ∧ la = lb))) (HP.sep Sa Sb)) := by
  refine tri_of_tree (ρ := [.i w1, .a a, .n n, .n c, .p Sa, .i w2, .a b, .n m, .n d, .p Sb]) mixed Try.func21 tree_sameCell ?_
  unfold t_sameCell
  simp only [T.den, E.prop, E.den, RX.look, F1.app, F2.app, Uni.int_i, Uni.nat_n, Uni.bool_c, Uni.str_s, Uni.adr_a, Uni.val_v, Uni.hp_p, hden, cden, V.den, W.den, A.den, BR.den, SA.den, FV.den, capV, exs, exP, allP, Cur.app, List.map_cons, List.map_nil, List.cons_append, List.nil_append, List.drop_succ_cons, List.drop_zero, List.length_cons, List.length_nil, Nat.zero_add, Nat.reduceAdd, Int.neg_neg, Bool.not_not, List.append_nil, Nat.add_zero, List.getElem?_cons_zero, List.getElem?_cons_succ, Decidable.not_not]
  refine fun x y => ⟨fun h => ?_, fun h => .of fun R h' H => ⟨?_, H⟩⟩
  · refine (same01_ok a n c la b m d lb Sa Sb hA hB hla hlb hn).weak (fun _ _ h => h) ?_
    rintro v R h' ⟨rfl, H⟩
    refine ⟨_, rfl, .of fun R h' H => ⟨?_, H⟩, H⟩
    simp [h]
  · simp [h]
theorem semOf_eqB {ρ : Env} {i j : Nat} {ty u : TypeId} {x y : V} (h : i ≠ j) {r q r' q' : Int} (hx : x.den ρ = .agg #[.int .i64 r, .int .i64 q]) (hy : y.den ρ = .agg #[.int .i64 r', .int .i64 q']) {A : HP} :
    ORead Try.prog (semOf ρ (.binOp .eql 34 (.tmp i) (.tmp j) u) ty [(i, x), (j, y)]) A (.bool (decide (r = r') && decide (q = q'))) := fun w R hh F s _ => by
  have h' : (i == j) = false := by simpa using h
  have hg : Try.prog.eqGuardType Try.prog.depth 34 = false := by kernel_rfl
  simp only [semOf, execOp, arEval, List.find?_cons, beq_self_eq_true, h', hx, hy]
  simp [eqGuard, binOp, hg, program, Sem.run_bind, Sem.run, Result.andThen, run_ballot_eq]
set_option maxRecDepth 100000 in
theorem same12_ok (m1 m2 : MS) (ca1 : Option Addr) (cc1 : Nat) (va1 : Option Addr) (vc1 : Nat) (ca2 : Option Addr) (cc2 : Nat) (va2 : Option Addr) (vc2 : Nat) (hn : m1.cell.data.length ≤ 140737488355328) (hv : m1.val.length ≤ 140737488355328) :
    Tri Try.prog 46 #[.agg (m1.raw ca1 cc1 va1 vc1).vals, .agg (m2.raw ca2 cc2 va2 vc2).vals] (HP.sep (m1.Dro ca1) (HP.sep (m1.Vro va1) (HP.sep (m2.Dro ca2) (m2.Vro va2))))
    (fun v => HP.ex fun b => HP.and (v = .bool b ∧ (m1 = m2 → b = true)) (HP.sep (m1.Dro ca1) (HP.sep (m1.Vro va1) (HP.sep (m2.Dro ca2) (m2.Vro va2))))) := by
  refine tri_of_tree (ρ := [.i m1.fr, .i m1.to, .i m1.num, .c m1.rep, .i m1.kind, .i m1.ep, .i m1.at', .i m1.cell.what, .a ca1, .n m1.cell.data.length, .n cc1, .p (m1.Dro ca1), .i m1.br, .i m1.bw, .a va1, .n m1.val.length, .n vc1, .p (m1.Vro va1), .i m1.err, .i m1.tail, .i m1.low, .i m1.back,
    .i m2.fr, .i m2.to, .i m2.num, .c m2.rep, .i m2.kind, .i m2.ep, .i m2.at', .i m2.cell.what, .a ca2, .n m2.cell.data.length, .n cc2, .p (m2.Dro ca2), .i m2.br, .i m2.bw, .a va2, .n m2.val.length, .n vc2, .p (m2.Vro va2), .i m2.err, .i m2.tail, .i m2.low, .i m2.back]) mixed Try.func46 tree_same12 ?_
  unfold t_same12
  simp only [T.den, E.prop, E.den, RX.look, F1.app, F2.app, Uni.int_i, Uni.nat_n, Uni.bool_c, Uni.str_s, Uni.adr_a, Uni.val_v, Uni.hp_p, hden, cden, V.den, W.den, A.den, BR.den, SA.den, FV.den, capV, exs, exP, allP, Cur.app, List.map_cons, List.map_nil, List.cons_append, List.nil_append, List.drop_succ_cons, List.drop_zero, List.length_cons, List.length_nil, Nat.zero_add, Nat.reduceAdd, Int.neg_neg, Bool.not_not, List.append_nil, Nat.add_zero, List.getElem?_cons_zero, List.getElem?_cons_succ, Decidable.not_not]
  intro x y
  have no : ∀ {φ : Prop} {K K' : HP}, (∀ R h, K.p R h → K'.p R h) → (m1 = m2 → φ) → ¬ φ → HP.ent K (HP.ex fun b => HP.and (Value.bool false = .bool b ∧ (m1 = m2 → b = true)) K') := fun hk h1 h2 => .of fun R h H => ⟨false, ⟨rfl, fun e => absurd (h1 e) h2⟩, hk R h H⟩
  have id' : ∀ {K : HP} (R h : PH), K.p R h → K.p R h := fun _ _ h => h
  refine ⟨fun h => no id' (fun e => by rw [e]) h, fun _ => ⟨fun h => no id' (fun e => by rw [e]) h, fun _ => ⟨fun h => no id' (fun e => by rw [e]) h, fun _ => ⟨fun h => no id' (fun e => by rw [e]; simp) h, fun _ => ⟨fun h => no id' (fun e => by rw [e]) h, fun _ => ⟨fun h => no id' (fun e => by rw [e]) h, fun _ => ⟨fun h => no id' (fun e => by rw [e]) h, fun _ => ?_⟩⟩⟩⟩⟩⟩⟩
  refine (sameCell_ok m1.cell.what ca1 _ cc1 m1.cell.data m2.cell.what ca2 _ cc2 m2.cell.data (m1.Dro ca1) (m2.Dro ca2) (RdL.ro _ _ _ _) (RdL.ro _ _ _ _) rfl rfl hn).weak (fun _ _ h => h) ?_
  rintro v R h ⟨rfl, H⟩
  refine ⟨_, rfl, ⟨fun _ => ?_, fun h => no id' (fun e => by rw [e]; simp) h⟩, H⟩
  refine ⟨_, semOf_eqB (r := m1.br) (q := m1.bw) (r' := m2.br) (q' := m2.bw) (by decide) rfl rfl, fun _ => ?_, fun h => no id' (fun e => by rw [e]; simp) h⟩
  refine (same01_ok va1 _ vc1 m1.val va2 _ vc2 m2.val (m1.Vro va1) (m2.Vro va2) (RdL.ro _ _ _ _) (RdL.ro _ _ _ _) rfl rfl hv).weak (fun _ _ h => h) ?_
  rintro v R h ⟨rfl, H⟩
  refine ⟨_, rfl, ⟨fun _ => ?_, fun h => no id' (fun e => by rw [e]; simp) h⟩, H⟩
  refine ⟨fun _ => ⟨fun _ => ⟨fun _ => .of fun R h H => ⟨_, ⟨rfl, fun e => by rw [e]; simp⟩, H⟩, fun h => no id' (fun e => by rw [e]) h⟩, fun h => no id' (fun e => by rw [e]) h⟩, fun h => no id' (fun e => by rw [e]) h⟩
theorem forg0 : forgS s0 = s0 := by
  have h : (forgS s0).cells = s0.cells := funext fun k => by
    show (if k < s0.low then none else s0.cells k) = none
    split <;> rfl
  show ({ s0 with cells := (forgS s0).cells } : USt) = s0
  rw [h]
theorem laid14_ok (n : Int) (h1 : 1 ≤ n) (h2 : n ≤ 65536) : Tri Try.prog 44 #[.int .i64 n] HP.tt (fun v => HP.ex fun bd => HP.ex fun ub => HP.and (v = .tuple #[.pointer (some ⟨bd, 0, none⟩), .pointer (some ⟨ub, 0, none⟩)]) (HP.sep HP.tt (UD ub bd n s0 []))) := by
  refine tri_of_tree (ρ := [.i n]) mixed Try.func44 tree_laid14 ?_
  unfold t_laid14
  simp only [T.den, E.prop, E.den, RX.look, F1.app, F2.app, Uni.int_i, Uni.nat_n, Uni.bool_c, Uni.str_s, Uni.adr_a, Uni.val_v, Uni.hp_p, hden, cden, V.den, W.den, A.den, BR.den, SA.den, FV.den, capV, exs, exP, allP, Cur.app, List.map_cons, List.map_nil, List.cons_append, List.nil_append, List.drop_succ_cons, List.drop_zero, List.length_cons, List.length_nil, Nat.zero_add, Nat.reduceAdd, Int.neg_neg, Bool.not_not, List.append_nil, Nat.add_zero, List.getElem?_cons_zero, List.getElem?_cons_succ, Decidable.not_not]
  refine (dNew_ok n h1 h2).weak (fun _ _ h => h) ?_
  rintro v R h ⟨bd, rfl, H⟩
  refine ⟨bd, DRep bd n [] 0, 0, rfl, ⟨fun h => absurd rfl h, fun _ => ?_⟩, H⟩
  refine (uOpen_ok bd n [] 0 s0 rfl).weak (fun _ _ h => h) ?_
  rintro v R h ⟨ub, rfl, H⟩
  refine ⟨ub, UD ub bd n s0 [], 0, HP.tt, rfl, ⟨fun h => absurd rfl h, fun _ => .of fun R h H => ⟨bd, ub, rfl, H⟩⟩, HP.sep_tt ?_⟩
  rw [forg0] at H
  exact H

/-! messages that came in -/
structure RM where
  ms : MS
  ca : Option Addr
  cc : Nat
  va : Option Addr
  vc : Nat
abbrev RM.vals (x : RM) : Array Value := (x.ms.raw x.ca x.cc x.va x.vc).vals
def msCells (l : List RM) : List Value := l.flatMap fun x => x.vals.toList
def ListM (a : Option Addr) (n : Nat) (l : List RM) : HP :=
  ⟨fun R h => l.length = n ∧ (RoC 16 a n (msCells l)).p R h ∧ ∀ x ∈ l, (x.ms.cell.data.length ≤ 140737488355328 ∧ x.ms.val.length ≤ 140737488355328) ∧ (x.ms.Dro x.ca).p R h ∧ (x.ms.Vro x.va).p R h,
   fun lR lh ⟨h0, h1, h2⟩ => ⟨h0, (RoC _ _ _ _).mono lR lh h1, fun x hx => ⟨(h2 x hx).1, (RoC _ _ _ _).mono lR lh (h2 x hx).2.1, (RoC _ _ _ _).mono lR lh (h2 x hx).2.2⟩⟩⟩
theorem flat_get {α : Type} (f : α → List Value) (w : Nat) (hw : ∀ x, (f x).length = w) : ∀ (l : List α) (k j : Nat) (x : α), l[k]? = some x → j < w → (l.flatMap f)[k * w + j]? = (f x)[j]?
  | [], k, j, x, h, _ => by simp at h
  | y :: r, 0, j, x, h, hj => by
    simp at h; subst h
    rw [List.flatMap_cons, Nat.zero_mul, Nat.zero_add, List.getElem?_append_left (by rw [hw]; exact hj)]
  | y :: r, k + 1, j, x, h, hj => by
    rw [List.flatMap_cons, List.getElem?_append_right (by rw [hw, Nat.succ_mul]; omega), hw, show (k + 1) * w + j - w = k * w + j by rw [Nat.succ_mul]; omega]
    exact flat_get f w hw r k j x (by simpa using h) hj
theorem ListM.load {a : Option Addr} {n : Nat} {l : List RM} {k : Nat} {x : RM} (hk : l[k]? = some x) : ORead Try.prog (loadS 80 (.pointer (a.map fun y => (y.add ((k : Int).toNat * 16)).add 0))) (ListM a n l) (.agg x.vals) := by
  obtain ⟨pd, hpd⟩ : ∃ d, Try.prog.underlying 80 = some d := Option.isSome_iff_exists.1 (by kernel_rfl)
  have := loadN_ok (vs := x.vals.toList) hpd (by kernel_rfl) (Rd.imp (S := ListM a n l) (RoC.rd 16 a n (msCells l)) fun R h H => H.2.1) (k := (k : Int).toNat * 16) (off := 0) (by kernel_rfl) (by simp) fun j v hj => by
    have hlt : j < 16 := by
      have := (List.getElem?_eq_some_iff.1 hj).1
      simpa using this
    rw [Int.toNat_natCast, Nat.add_zero]
    unfold msCells
    rw [flat_get (fun x : RM => x.vals.toList) 16 (fun _ => rfl) l k j x hk hlt]
    exact hj
  simpa using this
theorem great14_ok (a : Option Addr) (n c : Nat) (l : List RM) (hn : n ≤ 140737488355328) : Tri Try.prog 43 #[.slice a n c] (ListM a n l) (fun v => HP.ex fun b => HP.and (v = .bool b ∧ (b = false → n ≤ 60)) (ListM a n l)) := by
  refine Tri.fact (φ := (n ≠ 0 → a.isSome = true) ∧ l.length = n) (fun R h H => ⟨fun hn => RoC.some H.2.1 (by omega), H.1⟩) fun ⟨ha, hl⟩ => ?_
  refine tri_of_tree (ρ := [.a a, .n n, .n c, .p (ListM a n l)]) mixed Try.func43 tree_great14 ?_
  unfold t_great14
  simp only [T.den, E.prop, E.den, RX.look, F1.app, F2.app, Uni.int_i, Uni.nat_n, Uni.bool_c, Uni.str_s, Uni.adr_a, Uni.val_v, Uni.hp_p, hden, cden, V.den, W.den, A.den, BR.den, SA.den, FV.den, capV, exs, exP, allP, Cur.app, List.map_cons, List.map_nil, List.cons_append, List.nil_append, List.drop_succ_cons, List.drop_zero, List.length_cons, List.length_nil, Nat.zero_add, Nat.reduceAdd, Int.neg_neg, Bool.not_not, List.append_nil, Nat.add_zero, List.getElem?_cons_zero, List.getElem?_cons_succ, Decidable.not_not]
  refine ⟨fun h => .of fun R h' H => ⟨true, ⟨rfl, fun e => by cases e⟩, H⟩, fun h => ?_⟩
  refine ⟨fun _ i => ∃ k : Nat, i = k ∧ k ≤ n, fun _ i => n - i.toNat, ⟨0, rfl, Nat.zero_le _⟩, ?_⟩
  rintro x _ ⟨k, rfl, hk⟩
  refine ⟨fun hlt => ⟨by omega, fun _ => ⟨ha (by omega), fun _ => ?_⟩⟩, fun hge => .of fun R h' H => ⟨false, ⟨rfl, fun _ => by omega⟩, H⟩⟩
  have hkl : k < l.length := by omega
  have hg : l[k]? = some l[k] := List.getElem?_eq_getElem hkl
  have hr := ListM.load (a := a) (n := n) hg
  refine ⟨_, _, _, _, _, _, _, _, _, _, _, _, _, _, _, _, _, _, _, _, hr, fun y => ⟨fun _ => .of fun R h' H => ⟨true, ⟨rfl, fun e => by cases e⟩, H⟩, fun _ => ⟨fun _ => .of fun R h' H => ⟨true, ⟨rfl, fun e => by cases e⟩, H⟩, fun _ => ⟨inI64 _ (by omega) (by omega), fun _ => ⟨⟨k + 1, by omega, by omega⟩, by dsimp only; omega⟩⟩⟩⟩⟩
end Go.Proofs.Ytmibmjehjagmbaa
