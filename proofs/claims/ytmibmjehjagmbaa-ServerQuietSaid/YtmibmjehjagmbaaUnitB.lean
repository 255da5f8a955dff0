/- Contracts of the unit: what it keeps. No condition. -/
import Derived.Test.YtmibmjehjagmbaaUnitA
namespace Go.Proofs.Ytmibmjehjagmbaa
set_option linter.unusedSimpArgs false
set_option linter.unusedVariables false
open Go.Proofs.Ytmibmjehjagmbaa RX

structure InstS where
  pr : Int
  pw : Int
  ar : Int
  aw : Int
  val : List UInt8
def CellV (v : Value) (x : CellS) : HP := HP.ex fun a => HP.ex fun c => HP.and (v = .agg #[.int .i64 x.what, .slice a x.data.length c] ∧ x.data.length ≤ 140737488355328) (RoB a x.data.length x.data)
def InstV (v : Value) (x : InstS) : HP := HP.ex fun a => HP.ex fun c => HP.and (v = .agg #[.int .i64 x.pr, .int .i64 x.pw, .int .i64 x.ar, .int .i64 x.aw, .slice a x.val.length c] ∧ x.val.length ≤ 140737488355328) (RoB a x.val.length x.val)
theorem cellV_pers : Pers CellV := fun _ _ _ _ _ ⟨a, c, e, H⟩ => ⟨a, c, e, H⟩
theorem instV_pers : Pers InstV := fun _ _ _ _ _ ⟨a, c, e, H⟩ => ⟨a, c, e, H⟩
def iE (n : Int) : Value := .int .i64 n
theorem iK : KeyEnc Try.prog 3 iE := int_enc (by kernel_rfl)
theorem undMc : Try.prog.underlying 88 = some (.map 3 32) := by kernel_rfl
theorem undMi : Try.prog.underlying 111 = some (.map 3 133) := by kernel_rfl
theorem infoC : (Try.prog.info? 32).map (fun i => (i.zero, i.size, i.bytes)) = some (some (.agg #[.int .i64 0, .slice none 0 0]), 2, 32) := by kernel_rfl
theorem infoI : (Try.prog.info? 133).map (fun i => (i.zero, i.size, i.bytes)) = some (some (.agg #[.int .i64 0, .int .i64 0, .int .i64 0, .int .i64 0, .slice none 0 0]), 5, 56) := by kernel_rfl
structure USt where
  epoch : Int
  low : Int
  top : Int
  cells : Int → Option CellS
  inst : Int → Option InstS
def UOne (ub bd mc mi : Nat) (s : USt) : HP := HP.one ub (.cells #[.pointer (some ⟨bd, 0, none⟩), .int .i64 s.epoch, .int .i64 s.low, .int .i64 s.top, .map (some mc), .map (some mi)] 113)
def URep (ub bd : Nat) (D : HP) (s : USt) : HP := HP.ex fun mc => HP.ex fun mi => HP.sep (UOne ub bd mc mi s) (HP.sep D (HP.sep (MapE CellV iE mc s.cells) (MapE InstV iE mi s.inst)))
theorem URep.tri {f : FuncId} {args : Array Value} {ub bd : Nat} {D : HP} {s : USt} {B : Value → HP}
    (t : ∀ mc mi lc cc li ci, Tri Try.prog f args (HP.sep (UOne ub bd mc mi s) (HP.sep D (HP.sep (MapH CellV iE mc s.cells lc cc) (MapH InstV iE mi s.inst li ci)))) B) : Tri Try.prog f args (URep ub bd D s) B := by
  refine Tri.ex fun mc => Tri.ex fun mi => ?_
  refine (Tri.ex (A := fun lc => HP.ex fun cc => HP.ex fun li => HP.ex fun ci => HP.sep (UOne ub bd mc mi s) (HP.sep D (HP.sep (MapH CellV iE mc s.cells lc cc) (MapH InstV iE mi s.inst li ci)))) fun lc => Tri.ex fun cc => Tri.ex fun li => Tri.ex fun ci => t mc mi lc cc li ci).weak ?_ fun _ _ _ h => h
  rintro R h ⟨h1, h2, d, l1, l2, H1, h3, h4, d2, l3, l4, H2, h5, h6, d3, l5, l6, ⟨lc, cc, H3⟩, ⟨li, ci, H4⟩⟩
  exact ⟨lc, cc, li, ci, h1, h2, d, l1, l2, H1, h3, h4, d2, l3, l4, H2, h5, h6, d3, l5, l6, H3, H4⟩
theorem URep.triS {f : FuncId} {args : Array Value} {ub bd : Nat} {D S : HP} {s : USt} {B : Value → HP}
    (t : ∀ mc mi lc cc li ci, Tri Try.prog f args (HP.sep (UOne ub bd mc mi s) (HP.sep D (HP.sep (MapH CellV iE mc s.cells lc cc) (HP.sep (MapH InstV iE mi s.inst li ci) S)))) B) : Tri Try.prog f args (HP.sep (URep ub bd D s) S) B := by
  refine (Tri.ex (A := fun mc => HP.ex fun mi => HP.ex fun lc => HP.ex fun cc => HP.ex fun li => HP.ex fun ci => HP.sep (UOne ub bd mc mi s) (HP.sep D (HP.sep (MapH CellV iE mc s.cells lc cc) (HP.sep (MapH InstV iE mi s.inst li ci) S)))) fun mc => Tri.ex fun mi => Tri.ex fun lc => Tri.ex fun cc => Tri.ex fun li => Tri.ex fun ci => t mc mi lc cc li ci).weak ?_ fun _ _ _ h => h
  rintro R h ⟨h1, h2, d, l1, l2, ⟨mc, mi, H⟩, HS⟩
  refine ⟨mc, mi, ?_⟩
  obtain ⟨k1, k2, e, m1, m2, H1, H2⟩ := HP.sep_assoc ⟨h1, h2, d, l1, l2, H, HS⟩
  obtain ⟨k3, k4, e2, m3, m4, H3, H4⟩ := HP.sep_assoc H2
  obtain ⟨k5, k6, e3, m5, m6, ⟨lc, cc, H5⟩, k7, k8, e4, m7, m8, ⟨li, ci, H6⟩, H7⟩ := HP.sep_assoc H4
  exact ⟨lc, cc, li, ci, k1, k2, e, m1, m2, H1, k3, k4, e2, m3, m4, H3, k5, k6, e3, m5, m6, H5, k7, k8, e4, m7, m8, H6, H7⟩
/-- .. and back. -/
theorem URep.of {ub bd mc mi : Nat} {D : HP} {s : USt} {R h : PH} (H : (HP.sep (UOne ub bd mc mi s) (HP.sep D (HP.sep (MapE CellV iE mc s.cells) (MapE InstV iE mi s.inst)))).p R h) : (URep ub bd D s).p R h := ⟨mc, mi, H⟩
theorem URep.ofH {ub bd mc mi : Nat} {D : HP} {s : USt} {lc : AL Int} {cc : Nat} {li : AL Int} {ci : Nat} {R h : PH} (H : (HP.sep (UOne ub bd mc mi s) (HP.sep D (HP.sep (MapH CellV iE mc s.cells lc cc) (MapH InstV iE mi s.inst li ci)))).p R h) : (URep ub bd D s).p R h := by
  obtain ⟨h1, h2, d, l1, l2, H1, h3, h4, d2, l3, l4, H2, h5, h6, d3, l5, l6, H3, H4⟩ := H
  exact ⟨mc, mi, h1, h2, d, l1, l2, H1, h3, h4, d2, l3, l4, H2, h5, h6, d3, l5, l6, ⟨_, _, H3⟩, ⟨_, _, H4⟩⟩
theorem URep.ofS {ub bd mc mi : Nat} {D S : HP} {s : USt} {R h : PH} (H : (HP.sep (UOne ub bd mc mi s) (HP.sep D (HP.sep (MapE CellV iE mc s.cells) (HP.sep (MapE InstV iE mi s.inst) S)))).p R h) : (HP.sep (URep ub bd D s) S).p R h := by
  have H2 := HP.sep_assoc' (HP.sep_mono H (fun _ h => h) fun y hy => HP.sep_assoc' (HP.sep_mono hy (fun _ h => h) fun z hz => HP.sep_assoc' hz))
  exact HP.sep_mono H2 (fun y hy => ⟨mc, mi, hy⟩) fun _ h => h
theorem uEpoch_ok (ub bd : Nat) (D : HP) (s : USt) : Tri Try.prog 20 #[.pointer (some ⟨ub, 0, none⟩)] (URep ub bd D s) (fun v => HP.and (v = .int .i64 s.epoch) (URep ub bd D s)) := by
  refine URep.tri fun mc mi lc cc li ci => ?_
  refine tri_of_tree (ρ := [.n ub, .n bd, .p D, .i s.epoch, .i s.low, .i s.top, .n mc, .p (MapH CellV iE mc s.cells lc cc), .n mi, .p (MapH InstV iE mi s.inst li ci)]) mixed Try.func20 tree_uEpoch ?_
  unfold t_uEpoch
  simp only [T.den, E.prop, E.den, RX.look, F1.app, F2.app, Uni.int_i, Uni.nat_n, Uni.bool_c, Uni.str_s, Uni.adr_a, Uni.val_v, Uni.hp_p, hden, cden, V.den, W.den, A.den, BR.den, SA.den, FV.den, capV, exs, exP, allP, Cur.app, List.map_cons, List.map_nil, List.cons_append, List.nil_append, List.drop_succ_cons, List.drop_zero, List.length_cons, List.length_nil, Nat.zero_add, Nat.reduceAdd, Int.neg_neg, Bool.not_not, List.append_nil, Nat.add_zero, List.getElem?_cons_zero, List.getElem?_cons_succ, Decidable.not_not]
  exact .of fun R h H => ⟨trivial, URep.ofH H⟩
theorem uLow_ok (ub bd : Nat) (D : HP) (s : USt) : Tri Try.prog 38 #[.pointer (some ⟨ub, 0, none⟩)] (URep ub bd D s) (fun v => HP.and (v = .int .i64 s.low) (URep ub bd D s)) := by
  refine URep.tri fun mc mi lc cc li ci => ?_
  refine tri_of_tree (ρ := [.n ub, .n bd, .p D, .i s.epoch, .i s.low, .i s.top, .n mc, .p (MapH CellV iE mc s.cells lc cc), .n mi, .p (MapH InstV iE mi s.inst li ci)]) mixed Try.func38 tree_uLow ?_
  unfold t_uLow
  simp only [T.den, E.prop, E.den, RX.look, F1.app, F2.app, Uni.int_i, Uni.nat_n, Uni.bool_c, Uni.str_s, Uni.adr_a, Uni.val_v, Uni.hp_p, hden, cden, V.den, W.den, A.den, BR.den, SA.den, FV.den, capV, exs, exP, allP, Cur.app, List.map_cons, List.map_nil, List.cons_append, List.nil_append, List.drop_succ_cons, List.drop_zero, List.length_cons, List.length_nil, Nat.zero_add, Nat.reduceAdd, Int.neg_neg, Bool.not_not, List.append_nil, Nat.add_zero, List.getElem?_cons_zero, List.getElem?_cons_succ, Decidable.not_not]
  exact .of fun R h H => ⟨trivial, URep.ofH H⟩
theorem uTail_ok (ub bd : Nat) (D : HP) (s : USt) : Tri Try.prog 40 #[.pointer (some ⟨ub, 0, none⟩)] (URep ub bd D s) (fun v => HP.and (v = .int .i64 (max s.top s.low)) (URep ub bd D s)) := by
  refine URep.tri fun mc mi lc cc li ci => ?_
  refine tri_of_tree (ρ := [.n ub, .n bd, .p D, .i s.epoch, .i s.low, .i s.top, .n mc, .p (MapH CellV iE mc s.cells lc cc), .n mi, .p (MapH InstV iE mi s.inst li ci)]) mixed Try.func40 tree_uTail ?_
  unfold t_uTail
  simp only [T.den, E.prop, E.den, RX.look, F1.app, F2.app, Uni.int_i, Uni.nat_n, Uni.bool_c, Uni.str_s, Uni.adr_a, Uni.val_v, Uni.hp_p, hden, cden, V.den, W.den, A.den, BR.den, SA.den, FV.den, capV, exs, exP, allP, Cur.app, List.map_cons, List.map_nil, List.cons_append, List.nil_append, List.drop_succ_cons, List.drop_zero, List.length_cons, List.length_nil, Nat.zero_add, Nat.reduceAdd, Int.neg_neg, Bool.not_not, List.append_nil, Nat.add_zero, List.getElem?_cons_zero, List.getElem?_cons_succ, Decidable.not_not]
  exact .of fun R h H => ⟨trivial, URep.ofH H⟩
def reachE (s : USt) (epoch at' : Int) : Int := if epoch = s.epoch then (if addrOk at' then 0 else 2) else 8
theorem uReachRaw_ok (ub bd mc mi : Nat) (D C I : HP) (s : USt) (epoch at' : Int) : Tri Try.prog 70 #[.pointer (some ⟨ub, 0, none⟩), .int .i64 epoch, .int .i64 at'] (HP.sep (UOne ub bd mc mi s) (HP.sep D (HP.sep C I)))
    (fun v => HP.and (v = .int .i64 (reachE s epoch at')) (HP.sep (UOne ub bd mc mi s) (HP.sep D (HP.sep C I)))) := by
  refine tri_of_tree (ρ := [.n ub, .n bd, .p D, .i s.epoch, .i s.low, .i s.top, .n mc, .p C, .n mi, .p I, .i epoch, .i at']) mixed Try.func70 tree_uReach ?_
  unfold t_uReach
  simp only [T.den, E.prop, E.den, RX.look, F1.app, F2.app, Uni.int_i, Uni.nat_n, Uni.bool_c, Uni.str_s, Uni.adr_a, Uni.val_v, Uni.hp_p, hden, cden, V.den, W.den, A.den, BR.den, SA.den, FV.den, capV, exs, exP, allP, Cur.app, List.map_cons, List.map_nil, List.cons_append, List.nil_append, List.drop_succ_cons, List.drop_zero, List.length_cons, List.length_nil, Nat.zero_add, Nat.reduceAdd, Int.neg_neg, Bool.not_not, List.append_nil, Nat.add_zero, List.getElem?_cons_zero, List.getElem?_cons_succ, Decidable.not_not]
  refine ⟨fun h => .of fun R y H => ⟨by rw [reachE, if_neg h], H⟩, fun h => (uaddr_ok at').weak (fun _ _ h => h) ?_⟩
  rintro v R y ⟨rfl, H⟩
  refine ⟨_, rfl, ⟨fun h2 => .of fun R y H => ⟨by rw [reachE, if_pos h, if_neg h2], H⟩, fun h2 => .of fun R y H => ⟨by rw [reachE, if_pos h, if_pos h2], H⟩⟩, H⟩
theorem uLast_ok (ub bd mc mi : Nat) (room : Int) (ps : List Pg) (lasts : Nat) (C I : HP) (s : USt) (a : Option Addr) (n c : Nat) (l : List UInt8) (S : HP) (hr : RdL S a n (l.map u8v)) (hl : l.length = n) (hb : n ≤ 140737488355328) :
    Tri Try.prog 75 #[.pointer (some ⟨ub, 0, none⟩), .slice a n c] (HP.sep (UOne ub bd mc mi s) (HP.sep (DRep bd room ps lasts) (HP.sep C (HP.sep I S))))
    (fun v => HP.and (v = .int .i64 (putPg room ps ⟨1, l⟩).1) (HP.sep (UOne ub bd mc mi s) (HP.sep (DRep bd room (putPg room ps ⟨1, l⟩).2 (if (putPg room ps ⟨1, l⟩).1 = 0 then (putPg room ps ⟨1, l⟩).2.length else lasts)) (HP.sep C (HP.sep I S))))) := by
  refine tri_of_tree (ρ := [.n ub, .n bd, .p (DRep bd room ps lasts), .i s.epoch, .i s.low, .i s.top, .n mc, .p C, .n mi, .p I, .a a, .n n, .n c, .p S]) mixed Try.func75 tree_uLast ?_
  unfold t_uLast
  simp only [T.den, E.prop, E.den, RX.look, F1.app, F2.app, Uni.int_i, Uni.nat_n, Uni.bool_c, Uni.str_s, Uni.adr_a, Uni.val_v, Uni.hp_p, hden, cden, V.den, W.den, A.den, BR.den, SA.den, FV.den, capV, exs, exP, allP, Cur.app, List.map_cons, List.map_nil, List.cons_append, List.nil_append, List.drop_succ_cons, List.drop_zero, List.length_cons, List.length_nil, Nat.zero_add, Nat.reduceAdd, Int.neg_neg, Bool.not_not, List.append_nil, Nat.add_zero, List.getElem?_cons_zero, List.getElem?_cons_succ, Decidable.not_not]
  refine (dAppend_ok bd room ps lasts a n c l S hr hl hb).weak (fun _ _ h => h) ?_
  rintro v R h ⟨rfl, H⟩
  refine ⟨_, _, S, rfl, ⟨fun h0 => .of fun R y H => ⟨rfl, by rw [if_neg h0]; exact H⟩, fun h0 => ?_⟩, H⟩
  refine (dSync_ok bd room _ lasts).weak (fun _ _ h => h) ?_
  rintro v R y ⟨rfl, H⟩
  exact ⟨_, rfl, .of fun R z H => ⟨by rw [h0], by rw [if_pos h0]; exact H⟩, H⟩
theorem uPut_ok (ub bd mc mi : Nat) (D I : HP) (s : USt) (lc : AL Int) (cc : Nat) (at' what : Int) (a : Option Addr) (n c : Nat) (d : List UInt8) (S : HP) (hr : RdL S a n (d.map u8v)) (hl : d.length = n) (hb : n ≤ 140737488355328) (hat : addrOk at' = true) :
    Tri Try.prog 97 #[.pointer (some ⟨ub, 0, none⟩), .int .i64 at', .agg #[.int .i64 what, .slice a n c]] (HP.sep (UOne ub bd mc mi s) (HP.sep D (HP.sep (MapH CellV iE mc s.cells lc cc) (HP.sep I S))))
    (fun v => HP.and (v = .tuple #[]) (HP.sep (UOne ub bd mc mi { s with top := max s.top (at' + 1) }) (HP.sep D (HP.sep (MapE CellV iE mc (fput s.cells at' (some ⟨what, d⟩))) (HP.sep I S))))) := by
  refine tri_of_tree (ρ := [.n ub, .n bd, .p D, .i s.epoch, .i s.low, .i s.top, .n mc, .p (MapH CellV iE mc s.cells lc cc), .n mi, .p I, .i at', .i what, .a a, .n n, .n c, .p S]) mixed Try.func97 tree_uPut ?_
  unfold t_uPut
  simp only [T.den, E.prop, E.den, RX.look, F1.app, F2.app, Uni.int_i, Uni.nat_n, Uni.bool_c, Uni.str_s, Uni.adr_a, Uni.val_v, Uni.hp_p, hden, cden, V.den, W.den, A.den, BR.den, SA.den, FV.den, capV, exs, exP, allP, Cur.app, List.map_cons, List.map_nil, List.cons_append, List.nil_append, List.drop_succ_cons, List.drop_zero, List.length_cons, List.length_nil, Nat.zero_add, Nat.reduceAdd, Int.neg_neg, Bool.not_not, List.append_nil, Nat.add_zero, List.getElem?_cons_zero, List.getElem?_cons_succ, Decidable.not_not]
  intro x
  refine (cloneR_ok S a n c d hr hl hb).weak (fun _ _ h => h) ?_
  rintro v R h ⟨a', c', rfl, H⟩
  refine ⟨a', n, c', RoB a' n d, S, rfl, ?_, H⟩
  rw [semOf_update (by decide) (by decide) (by decide)]
  simp only [T.den, E.prop, E.den, RX.look, F1.app, F2.app, Uni.int_i, Uni.nat_n, Uni.bool_c, Uni.str_s, Uni.adr_a, Uni.val_v, Uni.hp_p, hden, cden, V.den, W.den, A.den, BR.den, SA.den, FV.den, capV, exs, exP, allP, Cur.app, List.map_cons, List.map_nil, List.cons_append, List.nil_append, List.drop_succ_cons, List.drop_zero, List.length_cons, List.length_nil, Nat.zero_add, Nat.reduceAdd, Int.neg_neg, Bool.not_not, List.append_nil, Nat.add_zero, List.getElem?_cons_zero, List.getElem?_cons_succ, Decidable.not_not]
  refine (MapH.put iK undMc cellV_pers at' _ ⟨what, d⟩ (fun R h H => ?_)).weak (fun _ _ h => h) ?_
  · subst hl
    exact ⟨a', c', ⟨rfl, hb⟩, H⟩
  · rintro v R h ⟨rfl, H⟩
    simp only [addrOk, Bool.and_eq_true, decide_eq_true_eq] at hat
    exact ⟨_, rfl, ⟨inI64 _ (by omega) (by omega), fun _ => .of fun R h H => ⟨trivial, H⟩⟩, H⟩
theorem Rd.imp {S T : HP} {a : Option Addr} {xs : List Value} (r : Rd T a xs) (h : ∀ R x, S.p R x → T.p R x) : Rd S a xs := fun w R x F s p => r w R x F s (h R x p)
theorem RdL.imp {S : HP} {a : Option Addr} {n : Nat} {l : List UInt8} (h : ∀ R x, S.p R x → (RoB a n l).p R x) : RdL S a n (l.map u8v) :=
  ⟨Rd.imp (RdL.ro 1 a n (l.map u8v)).rd h, fun R x p => (RdL.ro 1 a n (l.map u8v)).none R x (h R x p)⟩
theorem uCell_ok (ub bd mc mi : Nat) (D I : HP) (s : USt) (lc : AL Int) (cc : Nat) (at' : Int) :
    Tri Try.prog 71 #[.pointer (some ⟨ub, 0, none⟩), .int .i64 at'] (HP.sep (UOne ub bd mc mi s) (HP.sep D (HP.sep (MapH CellV iE mc s.cells lc cc) I)))
    (fun v => HP.ex fun a => HP.ex fun c => HP.and (v = .tuple #[.agg #[.int .i64 ((s.cells at').getD ⟨0, []⟩).what, .slice a ((s.cells at').getD ⟨0, []⟩).data.length c], .bool (s.cells at').isSome]) (HP.sep (RoB a ((s.cells at').getD ⟨0, []⟩).data.length ((s.cells at').getD ⟨0, []⟩).data) (HP.sep (UOne ub bd mc mi s) (HP.sep D (HP.sep (MapH CellV iE mc s.cells lc cc) I))))) := by
  refine Tri.fact (φ := ∃ a c, (alFind at' lc).getD (.agg #[.int .i64 0, .slice none 0 0]) = .agg #[.int .i64 ((s.cells at').getD ⟨0, []⟩).what, .slice a ((s.cells at').getD ⟨0, []⟩).data.length c] ∧ (alFind at' lc).isSome = (s.cells at').isSome ∧ ((s.cells at').getD ⟨0, []⟩).data.length ≤ 140737488355328 ∧
      ∀ R h, (MapH CellV iE mc s.cells lc cc).p R h → (RoB a ((s.cells at').getD ⟨0, []⟩).data.length ((s.cells at').getD ⟨0, []⟩).data).p R h) (fun R h H => ?_) ?_
  · have HM := HP.sep_left (HP.sep_right (HP.sep_right H))
    cases hc : s.cells at' with
    | none =>
      rw [MapH.no HM hc]
      exact ⟨none, 0, rfl, rfl, by simp, fun _ _ _ => RoC.nil _ _ _ _⟩
    | some x =>
      obtain ⟨v, hv, a, c, ⟨e, hb⟩, _⟩ := MapH.yes HM cellV_pers hc PH.none'
      rw [hv]
      refine ⟨a, c, e, rfl, hb, fun R2 h2 H2 => ?_⟩
      obtain ⟨v2, hv2, a2, c2, ⟨e2, _⟩, hr⟩ := MapH.yes H2 cellV_pers hc h2
      rw [hv] at hv2
      cases hv2
      rw [e] at e2
      cases e2
      exact hr
  rintro ⟨a, c, hval, hsome, hb, hro⟩
  refine tri_of_tree (ρ := [.n ub, .n bd, .p D, .i s.epoch, .i s.low, .i s.top, .n mc, .p (MapH CellV iE mc s.cells lc cc), .n mi, .p I, .i at']) mixed Try.func71 tree_uCell ?_
  unfold t_uCell
  simp only [T.den, E.prop, E.den, RX.look, F1.app, F2.app, Uni.int_i, Uni.nat_n, Uni.bool_c, Uni.str_s, Uni.adr_a, Uni.val_v, Uni.hp_p, hden, cden, V.den, W.den, A.den, BR.den, SA.den, FV.den, capV, exs, exP, allP, Cur.app, List.map_cons, List.map_nil, List.cons_append, List.nil_append, List.drop_succ_cons, List.drop_zero, List.length_cons, List.length_nil, Nat.zero_add, Nat.reduceAdd, Int.neg_neg, Bool.not_not, List.append_nil, Nat.add_zero, List.getElem?_cons_zero, List.getElem?_cons_succ, Decidable.not_not]
  intro x
  obtain ⟨i, hi, z1, _⟩ := info_parts infoC
  have hlook := look_ok (r := mc) (l := lc) (c := cc) iK undMc hi z1 at' true (A := MapH CellV iE mc s.cells lc cc) (fun R h H => MapH.at H)
  rw [if_pos rfl, hval, hsome] at hlook
  refine ⟨_, _, _, _, _, hlook, fun y => ?_⟩
  refine (cloneR_ok (MapH CellV iE mc s.cells lc cc) a _ c ((s.cells at').getD ⟨0, []⟩).data (RdL.imp hro) rfl hb).weak (fun _ _ h => h) ?_
  rintro v R h ⟨a', c', rfl, H⟩
  refine ⟨a', _, c', RoB a' ((s.cells at').getD ⟨0, []⟩).data.length ((s.cells at').getD ⟨0, []⟩).data, MapH CellV iE mc s.cells lc cc, rfl, .of fun R h H => ⟨a', c', rfl, ?_⟩, H⟩
  refine RoC.join (HP.sep_right (HP.sep_right (HP.sep_right (HP.sep_right H)))) ?_
  exact HP.sep_mono H (fun _ h => h) fun y hy => HP.sep_mono hy (fun _ h => h) fun z hz => HP.sep_mono hz (fun _ h => h) fun q hq => HP.sep_left hq
end Go.Proofs.Ytmibmjehjagmbaa
