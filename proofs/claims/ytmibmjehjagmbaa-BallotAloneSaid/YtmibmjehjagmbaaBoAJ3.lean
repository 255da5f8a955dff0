/- Texts of this claim, joined: UnitB, UnitC, UnitD, UnitE, UnitF, UnitG, UnitH, UnitI, UnitJ, Fold, Sem, TrSrv, SrvA, SrvB, Pick. No condition. -/
import Derived.Test.YtmibmjehjagmbaaBoAJ0
import Derived.Test.YtmibmjehjagmbaaBoAJ1
import Derived.Test.YtmibmjehjagmbaaBoAJ2
import Derived.KernelRfl
set_option linter.unusedSimpArgs false
set_option linter.unusedVariables false
/- Contracts of the unit: what it keeps. No condition. -/
namespace Go.Proofs.Ytmibmjehjagmbaa
set_option linter.unusedSimpArgs false
set_option linter.unusedVariables false
open Go.Proofs.Ytmibmjehjagmbaa RX

structure InstS where
  pr : Int
  pw : Int
  ar : Int
  aw : Int
  val : List UInt8
def CellV (v : Value) (x : CellS) : HP := HP.ex fun a => HP.ex fun c => HP.and (v = .agg #[.int .i64 x.what, .slice a x.data.length c] ∧ x.data.length ≤ 140737488355328) (RoB a x.data.length x.data)
def InstV (v : Value) (x : InstS) : HP := HP.ex fun a => HP.ex fun c => HP.and (v = .agg #[.int .i64 x.pr, .int .i64 x.pw, .int .i64 x.ar, .int .i64 x.aw, .slice a x.val.length c] ∧ x.val.length ≤ 140737488355328) (RoB a x.val.length x.val)
theorem cellV_pers : Pers CellV := fun _ _ _ _ _ ⟨a, c, e, H⟩ => ⟨a, c, e, H⟩
theorem instV_pers : Pers InstV := fun _ _ _ _ _ ⟨a, c, e, H⟩ => ⟨a, c, e, H⟩
def iE (n : Int) : Value := .int .i64 n
theorem iK : KeyEnc Try.prog 3 iE := int_enc (by kernel_rfl)
theorem undMc : Try.prog.underlying 88 = some (.map 3 32) := by kernel_rfl
theorem undMi : Try.prog.underlying 111 = some (.map 3 133) := by kernel_rfl
theorem infoC : (Try.prog.info? 32).map (fun i => (i.zero, i.size, i.bytes)) = some (some (.agg #[.int .i64 0, .slice none 0 0]), 2, 32) := by kernel_rfl
theorem infoI : (Try.prog.info? 133).map (fun i => (i.zero, i.size, i.bytes)) = some (some (.agg #[.int .i64 0, .int .i64 0, .int .i64 0, .int .i64 0, .slice none 0 0]), 5, 56) := by kernel_rfl
structure USt where
  epoch : Int
  low : Int
  top : Int
  cells : Int → Option CellS
  inst : Int → Option InstS
def UOne (ub bd mc mi : Nat) (s : USt) : HP := HP.one ub (.cells #[.pointer (some ⟨bd, 0, none⟩), .int .i64 s.epoch, .int .i64 s.low, .int .i64 s.top, .map (some mc), .map (some mi)] 113)
def URep (ub bd : Nat) (D : HP) (s : USt) : HP := HP.ex fun mc => HP.ex fun mi => HP.sep (UOne ub bd mc mi s) (HP.sep D (HP.sep (MapE CellV iE mc s.cells) (MapE InstV iE mi s.inst)))
theorem URep.tri {f : FuncId} {args : Array Value} {ub bd : Nat} {D : HP} {s : USt} {B : Value → HP}
    (t : ∀ mc mi lc cc li ci, Tri Try.prog f args (HP.sep (UOne ub bd mc mi s) (HP.sep D (HP.sep (MapH CellV iE mc s.cells lc cc) (MapH InstV iE mi s.inst li ci)))) B) : Tri Try.prog f args (URep ub bd D s) B := by
  refine Tri.ex fun mc => Tri.ex fun mi => ?_
  refine (Tri.ex (A := fun lc => HP.ex fun cc => HP.ex fun li => HP.ex fun ci => HP.sep (UOne ub bd mc mi s) (HP.sep D (HP.sep (MapH CellV iE mc s.cells lc cc) (MapH InstV iE mi s.inst li ci)))) fun lc => Tri.ex fun cc => Tri.ex fun li => Tri.ex fun ci => t mc mi lc cc li ci).weak ?_ fun _ _ _ h => h
  rintro R h ⟨h1, h2, d, l1, l2, H1, h3, h4, d2, l3, l4, H2, h5, h6, d3, l5, l6, ⟨lc, cc, H3⟩, ⟨li, ci, H4⟩⟩
  exact ⟨lc, cc, li, ci, h1, h2, d, l1, l2, H1, h3, h4, d2, l3, l4, H2, h5, h6, d3, l5, l6, H3, H4⟩
theorem URep.triS {f : FuncId} {args : Array Value} {ub bd : Nat} {D S : HP} {s : USt} {B : Value → HP}
    (t : ∀ mc mi lc cc li ci, Tri Try.prog f args (HP.sep (UOne ub bd mc mi s) (HP.sep D (HP.sep (MapH CellV iE mc s.cells lc cc) (HP.sep (MapH InstV iE mi s.inst li ci) S)))) B) : Tri Try.prog f args (HP.sep (URep ub bd D s) S) B := by
  refine (Tri.ex (A := fun mc => HP.ex fun mi => HP.ex fun lc => HP.ex fun cc => HP.ex fun li => HP.ex fun ci => HP.sep (UOne ub bd mc mi s) (HP.sep D (HP.sep (MapH CellV iE mc s.cells lc cc) (HP.sep (MapH InstV iE mi s.inst li ci) S)))) fun mc => Tri.ex fun mi => Tri.ex fun lc => Tri.ex fun cc => Tri.ex fun li => Tri.ex fun ci => t mc mi lc cc li ci).weak ?_ fun _ _ _ h => h
  rintro R h ⟨h1, h2, d, l1, l2, ⟨mc, mi, H⟩, HS⟩
  refine ⟨mc, mi, ?_⟩
  obtain ⟨k1, k2, e, m1, m2, H1, H2⟩ := HP.sep_assoc ⟨h1, h2, d, l1, l2, H, HS⟩
  obtain ⟨k3, k4, e2, m3, m4, H3, H4⟩ := HP.sep_assoc H2
  obtain ⟨k5, k6, e3, m5, m6, ⟨lc, cc, H5⟩, k7, k8, e4, m7, m8, ⟨li, ci, H6⟩, H7⟩ := HP.sep_assoc H4
  exact ⟨lc, cc, li, ci, k1, k2, e, m1, m2, H1, k3, k4, e2, m3, m4, H3, k5, k6, e3, m5, m6, H5, k7, k8, e4, m7, m8, H6, H7⟩
/-- .. and back. -/
theorem URep.of {ub bd mc mi : Nat} {D : HP} {s : USt} {R h : PH} (H : (HP.sep (UOne ub bd mc mi s) (HP.sep D (HP.sep (MapE CellV iE mc s.cells) (MapE InstV iE mi s.inst)))).p R h) : (URep ub bd D s).p R h := ⟨mc, mi, H⟩
theorem URep.ofH {ub bd mc mi : Nat} {D : HP} {s : USt} {lc : AL Int} {cc : Nat} {li : AL Int} {ci : Nat} {R h : PH} (H : (HP.sep (UOne ub bd mc mi s) (HP.sep D (HP.sep (MapH CellV iE mc s.cells lc cc) (MapH InstV iE mi s.inst li ci)))).p R h) : (URep ub bd D s).p R h := by
  obtain ⟨h1, h2, d, l1, l2, H1, h3, h4, d2, l3, l4, H2, h5, h6, d3, l5, l6, H3, H4⟩ := H
  exact ⟨mc, mi, h1, h2, d, l1, l2, H1, h3, h4, d2, l3, l4, H2, h5, h6, d3, l5, l6, ⟨_, _, H3⟩, ⟨_, _, H4⟩⟩
theorem URep.ofS {ub bd mc mi : Nat} {D S : HP} {s : USt} {R h : PH} (H : (HP.sep (UOne ub bd mc mi s) (HP.sep D (HP.sep (MapE CellV iE mc s.cells) (HP.sep (MapE InstV iE mi s.inst) S)))).p R h) : (HP.sep (URep ub bd D s) S).p R h := by
  have H2 := HP.sep_assoc' (HP.sep_mono H (fun _ h => h) fun y hy => HP.sep_assoc' (HP.sep_mono hy (fun _ h => h) fun z hz => HP.sep_assoc' hz))
  exact HP.sep_mono H2 (fun y hy => ⟨mc, mi, hy⟩) fun _ h => h
theorem uEpoch_ok (ub bd : Nat) (D : HP) (s : USt) : Tri Try.prog 20 #[.pointer (some ⟨ub, 0, none⟩)] (URep ub bd D s) (fun v => HP.and (v = .int .i64 s.epoch) (URep ub bd D s)) := by
  refine URep.tri fun mc mi lc cc li ci => ?_
  refine tri_of_tree (ρ := [.n ub, .n bd, .p D, .i s.epoch, .i s.low, .i s.top, .n mc, .p (MapH CellV iE mc s.cells lc cc), .n mi, .p (MapH InstV iE mi s.inst li ci)]) mixed Try.func20 tree_uEpoch ?_
  unfold t_uEpoch
  simp only [T.den, E.prop, E.den, RX.look, F1.app, F2.app, Uni.int_i, Uni.nat_n, Uni.bool_c, Uni.str_s, Uni.adr_a, Uni.val_v, Uni.hp_p, hden, cden, V.den, W.den, A.den, BR.den, SA.den, FV.den, capV, exs, exP, allP, Cur.app, List.map_cons, List.map_nil, List.cons_append, List.nil_append, List.drop_succ_cons, List.drop_zero, List.length_cons, List.length_nil, Nat.zero_add, Nat.reduceAdd, Int.neg_neg, Bool.not_not, List.append_nil, Nat.add_zero, List.getElem?_cons_zero, List.getElem?_cons_succ, Decidable.not_not]
  exact .of fun R h H => ⟨trivial, URep.ofH H⟩
theorem uLow_ok (ub bd : Nat) (D : HP) (s : USt) : Tri Try.prog 38 #[.pointer (some ⟨ub, 0, none⟩)] (URep ub bd D s) (fun v => HP.and (v = .int .i64 s.low) (URep ub bd D s)) := by
  refine URep.tri fun mc mi lc cc li ci => ?_
  refine tri_of_tree (ρ := [.n ub, .n bd, .p D, .i s.epoch, .i s.low, .i s.top, .n mc, .p (MapH CellV iE mc s.cells lc cc), .n mi, .p (MapH InstV iE mi s.inst li ci)]) mixed Try.func38 tree_uLow ?_
  unfold t_uLow
  simp only [T.den, E.prop, E.den, RX.look, F1.app, F2.app, Uni.int_i, Uni.nat_n, Uni.bool_c, Uni.str_s, Uni.adr_a, Uni.val_v, Uni.hp_p, hden, cden, V.den, W.den, A.den, BR.den, SA.den, FV.den, capV, exs, exP, allP, Cur.app, List.map_cons, List.map_nil, List.cons_append, List.nil_append, List.drop_succ_cons, List.drop_zero, List.length_cons, List.length_nil, Nat.zero_add, Nat.reduceAdd, Int.neg_neg, Bool.not_not, List.append_nil, Nat.add_zero, List.getElem?_cons_zero, List.getElem?_cons_succ, Decidable.not_not]
  exact .of fun R h H => ⟨trivial, URep.ofH H⟩
theorem uTail_ok (ub bd : Nat) (D : HP) (s : USt) : Tri Try.prog 40 #[.pointer (some ⟨ub, 0, none⟩)] (URep ub bd D s) (fun v => HP.and (v = .int .i64 (max s.top s.low)) (URep ub bd D s)) := by
  refine URep.tri fun mc mi lc cc li ci => ?_
  refine tri_of_tree (ρ := [.n ub, .n bd, .p D, .i s.epoch, .i s.low, .i s.top, .n mc, .p (MapH CellV iE mc s.cells lc cc), .n mi, .p (MapH InstV iE mi s.inst li ci)]) mixed Try.func40 tree_uTail ?_
  unfold t_uTail
  simp only [T.den, E.prop, E.den, RX.look, F1.app, F2.app, Uni.int_i, Uni.nat_n, Uni.bool_c, Uni.str_s, Uni.adr_a, Uni.val_v, Uni.hp_p, hden, cden, V.den, W.den, A.den, BR.den, SA.den, FV.den, capV, exs, exP, allP, Cur.app, List.map_cons, List.map_nil, List.cons_append, List.nil_append, List.drop_succ_cons, List.drop_zero, List.length_cons, List.length_nil, Nat.zero_add, Nat.reduceAdd, Int.neg_neg, Bool.not_not, List.append_nil, Nat.add_zero, List.getElem?_cons_zero, List.getElem?_cons_succ, Decidable.not_not]
  exact .of fun R h H => ⟨trivial, URep.ofH H⟩
def reachE (s : USt) (epoch at' : Int) : Int := if epoch = s.epoch then (if addrOk at' then 0 else 2) else 8
theorem uReachRaw_ok (ub bd mc mi : Nat) (D C I : HP) (s : USt) (epoch at' : Int) : Tri Try.prog 70 #[.pointer (some ⟨ub, 0, none⟩), .int .i64 epoch, .int .i64 at'] (HP.sep (UOne ub bd mc mi s) (HP.sep D (HP.sep C I)))
    (fun v => HP.and (v = .int .i64 (reachE s epoch at')) (HP.sep (UOne ub bd mc mi s) (HP.sep D (HP.sep C I)))) := by
  refine tri_of_tree (ρ := [.n ub, .n bd, .p D, .i s.epoch, .i s.low, .i s.top, .n mc, .p C, .n mi, .p I, .i epoch, .i at']) mixed Try.func70 tree_uReach ?_
  unfold t_uReach
  simp only [T.den, E.prop, E.den, RX.look, F1.app, F2.app, Uni.int_i, Uni.nat_n, Uni.bool_c, Uni.str_s, Uni.adr_a, Uni.val_v, Uni.hp_p, hden, cden, V.den, W.den, A.den, BR.den, SA.den, FV.den, capV, exs, exP, allP, Cur.app, List.map_cons, List.map_nil, List.cons_append, List.nil_append, List.drop_succ_cons, List.drop_zero, List.length_cons, List.length_nil, Nat.zero_add, Nat.reduceAdd, Int.neg_neg, Bool.not_not, List.append_nil, Nat.add_zero, List.getElem?_cons_zero, List.getElem?_cons_succ, Decidable.not_not]
  refine ⟨fun h => .of fun R y H => ⟨by rw [reachE, if_neg h], H⟩, fun h => (uaddr_ok at').weak (fun _ _ h => h) ?_⟩
  rintro v R y ⟨rfl, H⟩
  refine ⟨_, rfl, ⟨fun h2 => .of fun R y H => ⟨by rw [reachE, if_pos h, if_neg h2], H⟩, fun h2 => .of fun R y H => ⟨by rw [reachE, if_pos h, if_pos h2], H⟩⟩, H⟩
theorem uLast_ok (ub bd mc mi : Nat) (room : Int) (ps : List Pg) (lasts : Nat) (C I : HP) (s : USt) (a : Option Addr) (n c : Nat) (l : List UInt8) (S : HP) (hr : RdL S a n (l.map u8v)) (hl : l.length = n) (hb : n ≤ 140737488355328) :
    Tri Try.prog 75 #[.pointer (some ⟨ub, 0, none⟩), .slice a n c] (HP.sep (UOne ub bd mc mi s) (HP.sep (DRep bd room ps lasts) (HP.sep C (HP.sep I S))))
    (fun v => HP.and (v = .int .i64 (putPg room ps ⟨1, l⟩).1) (HP.sep (UOne ub bd mc mi s) (HP.sep (DRep bd room (putPg room ps ⟨1, l⟩).2 (if (putPg room ps ⟨1, l⟩).1 = 0 then (putPg room ps ⟨1, l⟩).2.length else lasts)) (HP.sep C (HP.sep I S))))) := by
  refine tri_of_tree (ρ := [.n ub, .n bd, .p (DRep bd room ps lasts), .i s.epoch, .i s.low, .i s.top, .n mc, .p C, .n mi, .p I, .a a, .n n, .n c, .p S]) mixed Try.func75 tree_uLast ?_
  unfold t_uLast
  simp only [T.den, E.prop, E.den, RX.look, F1.app, F2.app, Uni.int_i, Uni.nat_n, Uni.bool_c, Uni.str_s, Uni.adr_a, Uni.val_v, Uni.hp_p, hden, cden, V.den, W.den, A.den, BR.den, SA.den, FV.den, capV, exs, exP, allP, Cur.app, List.map_cons, List.map_nil, List.cons_append, List.nil_append, List.drop_succ_cons, List.drop_zero, List.length_cons, List.length_nil, Nat.zero_add, Nat.reduceAdd, Int.neg_neg, Bool.not_not, List.append_nil, Nat.add_zero, List.getElem?_cons_zero, List.getElem?_cons_succ, Decidable.not_not]
  refine (dAppend_ok bd room ps lasts a n c l S hr hl hb).weak (fun _ _ h => h) ?_
  rintro v R h ⟨rfl, H⟩
  refine ⟨_, _, S, rfl, ⟨fun h0 => .of fun R y H => ⟨rfl, by rw [if_neg h0]; exact H⟩, fun h0 => ?_⟩, H⟩
  refine (dSync_ok bd room _ lasts).weak (fun _ _ h => h) ?_
  rintro v R y ⟨rfl, H⟩
  exact ⟨_, rfl, .of fun R z H => ⟨by rw [h0], by rw [if_pos h0]; exact H⟩, H⟩
theorem uPut_ok (ub bd mc mi : Nat) (D I : HP) (s : USt) (lc : AL Int) (cc : Nat) (at' what : Int) (a : Option Addr) (n c : Nat) (d : List UInt8) (S : HP) (hr : RdL S a n (d.map u8v)) (hl : d.length = n) (hb : n ≤ 140737488355328) (hat : addrOk at' = true) :
    Tri Try.prog 97 #[.pointer (some ⟨ub, 0, none⟩), .int .i64 at', .agg #[.int .i64 what, .slice a n c]] (HP.sep (UOne ub bd mc mi s) (HP.sep D (HP.sep (MapH CellV iE mc s.cells lc cc) (HP.sep I S))))
    (fun v => HP.and (v = .tuple #[]) (HP.sep (UOne ub bd mc mi { s with top := max s.top (at' + 1) }) (HP.sep D (HP.sep (MapE CellV iE mc (fput s.cells at' (some ⟨what, d⟩))) (HP.sep I S))))) := by
  refine tri_of_tree (ρ := [.n ub, .n bd, .p D, .i s.epoch, .i s.low, .i s.top, .n mc, .p (MapH CellV iE mc s.cells lc cc), .n mi, .p I, .i at', .i what, .a a, .n n, .n c, .p S]) mixed Try.func97 tree_uPut ?_
  unfold t_uPut
  simp only [T.den, E.prop, E.den, RX.look, F1.app, F2.app, Uni.int_i, Uni.nat_n, Uni.bool_c, Uni.str_s, Uni.adr_a, Uni.val_v, Uni.hp_p, hden, cden, V.den, W.den, A.den, BR.den, SA.den, FV.den, capV, exs, exP, allP, Cur.app, List.map_cons, List.map_nil, List.cons_append, List.nil_append, List.drop_succ_cons, List.drop_zero, List.length_cons, List.length_nil, Nat.zero_add, Nat.reduceAdd, Int.neg_neg, Bool.not_not, List.append_nil, Nat.add_zero, List.getElem?_cons_zero, List.getElem?_cons_succ, Decidable.not_not]
  intro x
  refine (cloneR_ok S a n c d hr hl hb).weak (fun _ _ h => h) ?_
  rintro v R h ⟨a', c', rfl, H⟩
  refine ⟨a', n, c', RoB a' n d, S, rfl, ?_, H⟩
  rw [semOf_update (by decide) (by decide) (by decide)]
  simp only [T.den, E.prop, E.den, RX.look, F1.app, F2.app, Uni.int_i, Uni.nat_n, Uni.bool_c, Uni.str_s, Uni.adr_a, Uni.val_v, Uni.hp_p, hden, cden, V.den, W.den, A.den, BR.den, SA.den, FV.den, capV, exs, exP, allP, Cur.app, List.map_cons, List.map_nil, List.cons_append, List.nil_append, List.drop_succ_cons, List.drop_zero, List.length_cons, List.length_nil, Nat.zero_add, Nat.reduceAdd, Int.neg_neg, Bool.not_not, List.append_nil, Nat.add_zero, List.getElem?_cons_zero, List.getElem?_cons_succ, Decidable.not_not]
  refine (MapH.put iK undMc cellV_pers at' _ ⟨what, d⟩ (fun R h H => ?_)).weak (fun _ _ h => h) ?_
  · subst hl
    exact ⟨a', c', ⟨rfl, hb⟩, H⟩
  · rintro v R h ⟨rfl, H⟩
    simp only [addrOk, Bool.and_eq_true, decide_eq_true_eq] at hat
    exact ⟨_, rfl, ⟨inI64 _ (by omega) (by omega), fun _ => .of fun R h H => ⟨trivial, H⟩⟩, H⟩
theorem Rd.imp {S T : HP} {a : Option Addr} {xs : List Value} (r : Rd T a xs) (h : ∀ R x, S.p R x → T.p R x) : Rd S a xs := fun w R x F s p => r w R x F s (h R x p)
theorem RdL.imp {S : HP} {a : Option Addr} {n : Nat} {l : List UInt8} (h : ∀ R x, S.p R x → (RoB a n l).p R x) : RdL S a n (l.map u8v) :=
  ⟨Rd.imp (RdL.ro 1 a n (l.map u8v)).rd h, fun R x p => (RdL.ro 1 a n (l.map u8v)).none R x (h R x p)⟩
theorem uCell_ok (ub bd mc mi : Nat) (D I : HP) (s : USt) (lc : AL Int) (cc : Nat) (at' : Int) :
    Tri Try.prog 71 #[.pointer (some ⟨ub, 0, none⟩), .int .i64 at'] (HP.sep (UOne ub bd mc mi s) (HP.sep D (HP.sep (MapH CellV iE mc s.cells lc cc) I)))
    (fun v => HP.ex fun a => HP.ex fun c => HP.and (v = .tuple #[.agg #[.int .i64 ((s.cells at').getD ⟨0, []⟩).what, .slice a ((s.cells at').getD ⟨0, []⟩).data.length c], .bool (s.cells at').isSome]) (HP.sep (RoB a ((s.cells at').getD ⟨0, []⟩).data.length ((s.cells at').getD ⟨0, []⟩).data) (HP.sep (UOne ub bd mc mi s) (HP.sep D (HP.sep (MapH CellV iE mc s.cells lc cc) I))))) := by
  refine Tri.fact (φ := ∃ a c, (alFind at' lc).getD (.agg #[.int .i64 0, .slice none 0 0]) = .agg #[.int .i64 ((s.cells at').getD ⟨0, []⟩).what, .slice a ((s.cells at').getD ⟨0, []⟩).data.length c] ∧ (alFind at' lc).isSome = (s.cells at').isSome ∧ ((s.cells at').getD ⟨0, []⟩).data.length ≤ 140737488355328 ∧
      ∀ R h, (MapH CellV iE mc s.cells lc cc).p R h → (RoB a ((s.cells at').getD ⟨0, []⟩).data.length ((s.cells at').getD ⟨0, []⟩).data).p R h) (fun R h H => ?_) ?_
  · have HM := HP.sep_left (HP.sep_right (HP.sep_right H))
    cases hc : s.cells at' with
    | none =>
      rw [MapH.no HM hc]
      exact ⟨none, 0, rfl, rfl, by simp, fun _ _ _ => RoC.nil _ _ _ _⟩
    | some x =>
      obtain ⟨v, hv, a, c, ⟨e, hb⟩, _⟩ := MapH.yes HM cellV_pers hc PH.none'
      rw [hv]
      refine ⟨a, c, e, rfl, hb, fun R2 h2 H2 => ?_⟩
      obtain ⟨v2, hv2, a2, c2, ⟨e2, _⟩, hr⟩ := MapH.yes H2 cellV_pers hc h2
      rw [hv] at hv2
      cases hv2
      rw [e] at e2
      cases e2
      exact hr
  rintro ⟨a, c, hval, hsome, hb, hro⟩
  refine tri_of_tree (ρ := [.n ub, .n bd, .p D, .i s.epoch, .i s.low, .i s.top, .n mc, .p (MapH CellV iE mc s.cells lc cc), .n mi, .p I, .i at']) mixed Try.func71 tree_uCell ?_
  unfold t_uCell
  simp only [T.den, E.prop, E.den, RX.look, F1.app, F2.app, Uni.int_i, Uni.nat_n, Uni.bool_c, Uni.str_s, Uni.adr_a, Uni.val_v, Uni.hp_p, hden, cden, V.den, W.den, A.den, BR.den, SA.den, FV.den, capV, exs, exP, allP, Cur.app, List.map_cons, List.map_nil, List.cons_append, List.nil_append, List.drop_succ_cons, List.drop_zero, List.length_cons, List.length_nil, Nat.zero_add, Nat.reduceAdd, Int.neg_neg, Bool.not_not, List.append_nil, Nat.add_zero, List.getElem?_cons_zero, List.getElem?_cons_succ, Decidable.not_not]
  intro x
  obtain ⟨i, hi, z1, _⟩ := info_parts infoC
  have hlook := look_ok (r := mc) (l := lc) (c := cc) iK undMc hi z1 at' true (A := MapH CellV iE mc s.cells lc cc) (fun R h H => MapH.at H)
  rw [if_pos rfl, hval, hsome] at hlook
  refine ⟨_, _, _, _, _, hlook, fun y => ?_⟩
  refine (cloneR_ok (MapH CellV iE mc s.cells lc cc) a _ c ((s.cells at').getD ⟨0, []⟩).data (RdL.imp hro) rfl hb).weak (fun _ _ h => h) ?_
  rintro v R h ⟨a', c', rfl, H⟩
  refine ⟨a', _, c', RoB a' ((s.cells at').getD ⟨0, []⟩).data.length ((s.cells at').getD ⟨0, []⟩).data, MapH CellV iE mc s.cells lc cc, rfl, .of fun R h H => ⟨a', c', rfl, ?_⟩, H⟩
  refine RoC.join (HP.sep_right (HP.sep_right (HP.sep_right (HP.sep_right H)))) ?_
  exact HP.sep_mono H (fun _ h => h) fun y hy => HP.sep_mono hy (fun _ h => h) fun z hz => HP.sep_mono hz (fun _ h => h) fun q hq => HP.sep_left hq
end Go.Proofs.Ytmibmjehjagmbaa

/- Contracts of the unit: what turns within. No condition. -/
namespace Go.Proofs.Ytmibmjehjagmbaa
set_option linter.unusedSimpArgs false
set_option linter.unusedVariables false
open Go.Proofs.Ytmibmjehjagmbaa RX

theorem MapH.put1 {κ α : Type} [DecidableEq κ] {enc : κ → Value} {r c : Nat} {l : AL κ} {V : Value → α → HP} {f : κ → Option α} {kt et t : TypeId} (K : KeyEnc Try.prog kt enc) (ht : Try.prog.underlying t = some (.map kt et)) (hV : Pers V) (k : κ) (v : Value) (x : α) (hv : ∀ R h, (MapH V enc r f l c).p R h → (V v x).p R h) :
    OTri Try.prog (updS t (.map (some r)) (enc k) v) (MapH V enc r f l c) (fun z => HP.and (z = .tuple #[]) (MapE V enc r (fput f k (some x)))) :=
  (MapH.put (r := r) (l := l) (c := c) (f := f) K ht hV k v x (A := V v x) (fun _ _ h => h)).weak (fun R h H => ⟨h, PH.none', PH.dj_none h, PH.le.refl _, PH.none_le _, H, hV _ _ _ _ _ (hv R h H)⟩) (fun z R h ⟨e, H⟩ => ⟨e, HP.sep_left H⟩)
def zI : InstS := ⟨0, 0, 0, 0, []⟩
def instAt (s : USt) (n : Int) : InstS := (s.inst n).getD zI
/-- What a look-up of an instance gives. -/
theorem inst_look (mi : Nat) (s : USt) (li : AL Int) (ci : Nat) (n : Int) {R h : PH} (HM : (MapH InstV iE mi s.inst li ci).p R h) :
    ∃ a c, (alFind n li).getD (.agg #[.int .i64 0, .int .i64 0, .int .i64 0, .int .i64 0, .slice none 0 0]) = .agg #[.int .i64 (instAt s n).pr, .int .i64 (instAt s n).pw, .int .i64 (instAt s n).ar, .int .i64 (instAt s n).aw, .slice a (instAt s n).val.length c] ∧ (instAt s n).val.length ≤ 140737488355328 ∧
      ∀ R h, (MapH InstV iE mi s.inst li ci).p R h → (RoB a (instAt s n).val.length (instAt s n).val).p R h := by
  unfold instAt
  cases hc : s.inst n with
  | none =>
    rw [MapH.no HM hc]
    exact ⟨none, 0, rfl, by simp [zI], fun _ _ _ => RoC.nil _ _ _ _⟩
  | some x =>
    obtain ⟨v, hv, a, c, ⟨e, hb⟩, _⟩ := MapH.yes HM instV_pers hc PH.none'
    rw [hv]
    refine ⟨a, c, e, hb, fun R2 h2 H2 => ?_⟩
    obtain ⟨v2, hv2, a2, c2, ⟨e2, _⟩, hr⟩ := MapH.yes H2 instV_pers hc h2
    rw [hv] at hv2
    cases hv2
    rw [e] at e2
    cases e2
    exact hr
def promS (s : USt) (n r w : Int) : USt := { s with inst := fput s.inst n (some { instAt s n with pr := r, pw := w }) }
theorem uProm_ok (ub bd mc mi : Nat) (D C : HP) (s : USt) (li : AL Int) (ci : Nat) (n r w : Int) :
    Tri Try.prog 78 #[.pointer (some ⟨ub, 0, none⟩), .int .i64 n, .agg #[.int .i64 r, .int .i64 w]] (HP.sep (UOne ub bd mc mi s) (HP.sep D (HP.sep C (MapH InstV iE mi s.inst li ci))))
    (fun v => HP.and (v = .tuple #[]) (HP.sep (UOne ub bd mc mi s) (HP.sep D (HP.sep C (MapE InstV iE mi (promS s n r w).inst))))) := by
  refine Tri.fact (fun R h H => inst_look mi s li ci n (HP.sep_right (HP.sep_right (HP.sep_right H)))) ?_
  rintro ⟨a, c, hval, hb, hro⟩
  refine tri_of_tree (ρ := [.n ub, .n bd, .p D, .i s.epoch, .i s.low, .i s.top, .n mc, .p C, .n mi, .p (MapH InstV iE mi s.inst li ci), .i n, .i r, .i w]) mixed Try.func78 tree_uProm ?_
  unfold t_uProm
  simp only [T.den, E.prop, E.den, RX.look, F1.app, F2.app, Uni.int_i, Uni.nat_n, Uni.bool_c, Uni.str_s, Uni.adr_a, Uni.val_v, Uni.hp_p, hden, cden, V.den, W.den, A.den, BR.den, SA.den, FV.den, capV, exs, exP, allP, Cur.app, List.map_cons, List.map_nil, List.cons_append, List.nil_append, List.drop_succ_cons, List.drop_zero, List.length_cons, List.length_nil, Nat.zero_add, Nat.reduceAdd, Int.neg_neg, Bool.not_not, List.append_nil, Nat.add_zero, List.getElem?_cons_zero, List.getElem?_cons_succ, Decidable.not_not]
  intro x
  obtain ⟨i, hi, z1, _⟩ := info_parts infoI
  have hlook := look_ok (r := mi) (l := li) (c := ci) iK undMi hi z1 n false (A := MapH InstV iE mi s.inst li ci) (fun R h H => MapH.at H)
  rw [if_neg (by decide), hval] at hlook
  refine ⟨_, _, _, _, _, _, _, hlook, fun y => ?_⟩
  rw [semOf_update (by decide) (by decide) (by decide)]
  simp only [T.den, E.prop, E.den, RX.look, F1.app, F2.app, Uni.int_i, Uni.nat_n, Uni.bool_c, Uni.str_s, Uni.adr_a, Uni.val_v, Uni.hp_p, hden, cden, V.den, W.den, A.den, BR.den, SA.den, FV.den, capV, exs, exP, allP, Cur.app, List.map_cons, List.map_nil, List.cons_append, List.nil_append, List.drop_succ_cons, List.drop_zero, List.length_cons, List.length_nil, Nat.zero_add, Nat.reduceAdd, Int.neg_neg, Bool.not_not, List.append_nil, Nat.add_zero, List.getElem?_cons_zero, List.getElem?_cons_succ, Decidable.not_not]
  refine (MapH.put1 iK undMi instV_pers n _ { instAt s n with pr := r, pw := w } (fun R h H => ⟨a, c, ⟨rfl, hb⟩, hro R h H⟩)).weak (fun _ _ h => h) ?_
  rintro v R h ⟨rfl, H⟩
  exact ⟨_, rfl, .of fun R h H => ⟨trivial, H⟩, H⟩
def accS (s : USt) (n r w : Int) (l : List UInt8) : USt := { s with inst := fput s.inst n (some ⟨r, w, r, w, l⟩) }
theorem uAcc_ok (ub bd mc mi : Nat) (D C : HP) (s : USt) (li : AL Int) (ci : Nat) (n r w : Int) (a : Option Addr) (k c : Nat) (l : List UInt8) (S : HP) (hr : RdL S a k (l.map u8v)) (hl : l.length = k) (hb : k ≤ 140737488355328) :
    Tri Try.prog 83 #[.pointer (some ⟨ub, 0, none⟩), .int .i64 n, .agg #[.int .i64 r, .int .i64 w], .slice a k c] (HP.sep (UOne ub bd mc mi s) (HP.sep D (HP.sep C (HP.sep (MapH InstV iE mi s.inst li ci) S))))
    (fun v => HP.and (v = .tuple #[]) (HP.sep (UOne ub bd mc mi s) (HP.sep D (HP.sep C (HP.sep (MapE InstV iE mi (accS s n r w l).inst) S))))) := by
  refine tri_of_tree (ρ := [.n ub, .n bd, .p D, .i s.epoch, .i s.low, .i s.top, .n mc, .p C, .n mi, .p (MapH InstV iE mi s.inst li ci), .i n, .i r, .i w, .a a, .n k, .n c, .p S]) mixed Try.func83 tree_uAcc ?_
  unfold t_uAcc
  simp only [T.den, E.prop, E.den, RX.look, F1.app, F2.app, Uni.int_i, Uni.nat_n, Uni.bool_c, Uni.str_s, Uni.adr_a, Uni.val_v, Uni.hp_p, hden, cden, V.den, W.den, A.den, BR.den, SA.den, FV.den, capV, exs, exP, allP, Cur.app, List.map_cons, List.map_nil, List.cons_append, List.nil_append, List.drop_succ_cons, List.drop_zero, List.length_cons, List.length_nil, Nat.zero_add, Nat.reduceAdd, Int.neg_neg, Bool.not_not, List.append_nil, Nat.add_zero, List.getElem?_cons_zero, List.getElem?_cons_succ, Decidable.not_not]
  intro x
  refine (cloneR_ok S a k c l hr hl hb).weak (fun _ _ h => h) ?_
  rintro v R h ⟨a', c', rfl, H⟩
  refine ⟨a', k, c', RoB a' k l, S, rfl, ?_, H⟩
  rw [semOf_update (by decide) (by decide) (by decide)]
  simp only [T.den, E.prop, E.den, RX.look, F1.app, F2.app, Uni.int_i, Uni.nat_n, Uni.bool_c, Uni.str_s, Uni.adr_a, Uni.val_v, Uni.hp_p, hden, cden, V.den, W.den, A.den, BR.den, SA.den, FV.den, capV, exs, exP, allP, Cur.app, List.map_cons, List.map_nil, List.cons_append, List.nil_append, List.drop_succ_cons, List.drop_zero, List.length_cons, List.length_nil, Nat.zero_add, Nat.reduceAdd, Int.neg_neg, Bool.not_not, List.append_nil, Nat.add_zero, List.getElem?_cons_zero, List.getElem?_cons_succ, Decidable.not_not]
  refine (MapH.put iK undMi instV_pers n _ ⟨r, w, r, w, l⟩ (fun R h H => ?_)).weak (fun _ _ h => h) ?_
  · subst hl
    exact ⟨a', c', ⟨rfl, hb⟩, H⟩
  · rintro v R h ⟨rfl, H⟩
    exact ⟨_, rfl, .of fun R h H => ⟨trivial, H⟩, H⟩
end Go.Proofs.Ytmibmjehjagmbaa

/- Contracts of the unit: what it lets go. No condition. -/
namespace Go.Proofs.Ytmibmjehjagmbaa
set_option linter.unusedSimpArgs false
set_option linter.unusedVariables false
open Go.Proofs.Ytmibmjehjagmbaa RX

def Box (bx ub : Nat) : HP := HP.one bx (.cells #[.pointer (some ⟨ub, 0, none⟩)] 26)
theorem uFor1_ok (bx ub bd mc mi : Nat) (D C I : HP) (s : USt) (k what : Int) (a : Option Addr) (n c : Nat) :
    Tri Try.prog 106 #[.int .i64 k, .agg #[.int .i64 what, .slice a n c], .pointer (some ⟨bx, 0, none⟩)] (HP.sep (Box bx ub) (HP.sep (UOne ub bd mc mi s) (HP.sep D (HP.sep C I))))
    (fun v => HP.and (v = .bool (decide (k < s.low))) (HP.sep (Box bx ub) (HP.sep (UOne ub bd mc mi s) (HP.sep D (HP.sep C I))))) := by
  refine Tri.weak (A := HP.sep HP.tt (HP.sep (Box bx ub) (HP.sep (UOne ub bd mc mi s) (HP.sep D (HP.sep C I))))) ?_ (fun _ _ h => HP.tt_sep h) (fun _ _ _ h => h)
  refine tri_of_tree (ρ := [.i k, .i what, .a a, .n n, .n c, .p HP.tt, .n bx, .n ub, .n bd, .p D, .i s.epoch, .i s.low, .i s.top, .n mc, .p C, .n mi, .p I]) mixed Try.func106 tree_uFor1 ?_
  unfold t_uFor1
  simp only [T.den, E.prop, E.den, RX.look, F1.app, F2.app, Uni.int_i, Uni.nat_n, Uni.bool_c, Uni.str_s, Uni.adr_a, Uni.val_v, Uni.hp_p, hden, cden, V.den, W.den, A.den, BR.den, SA.den, FV.den, capV, exs, exP, allP, Cur.app, List.map_cons, List.map_nil, List.cons_append, List.nil_append, List.drop_succ_cons, List.drop_zero, List.length_cons, List.length_nil, Nat.zero_add, Nat.reduceAdd, Int.neg_neg, Bool.not_not, List.append_nil, Nat.add_zero, List.getElem?_cons_zero, List.getElem?_cons_succ, Decidable.not_not]
  exact fun x => .of fun R h H => ⟨trivial, HP.sep_right H⟩
theorem uFor1C_ok (bx ub bd mc mi : Nat) (D C I : HP) (s : USt) (k what : Int) (a : Option Addr) (n c : Nat) :
    Tri Try.prog 106 #[.int .i64 k, .agg #[.int .i64 what, .slice a n c], .pointer (some ⟨bx, 0, none⟩)] (HP.sep C (HP.sep (Box bx ub) (HP.sep (UOne ub bd mc mi s) (HP.sep D I))))
    (fun v => HP.and (v = .bool (decide (k < s.low))) (HP.sep C (HP.sep (Box bx ub) (HP.sep (UOne ub bd mc mi s) (HP.sep D I))))) :=
  (uFor1_ok bx ub bd mc mi D C I s k what a n c).weak
    (fun R h H => HP.sep_mono (HP.swap H) (fun _ h => h) fun y hy => HP.sep_mono (HP.swap hy) (fun _ h => h) fun z hz => HP.swap hz)
    (fun v R h ⟨e, H⟩ => ⟨e, HP.swap (HP.sep_mono H (fun _ h => h) fun y hy => HP.swap (HP.sep_mono hy (fun _ h => h) fun z hz => HP.swap hz))⟩)
theorem least {p : Nat → Prop} (h : ∃ n, p n) : ∃ m, p m ∧ ∀ n, p n → m ≤ n := by
  obtain ⟨n, hn⟩ := h
  induction n using Nat.strongRecOn with
  | _ n ih =>
    by_cases hx : ∃ m, m < n ∧ p m
    · obtain ⟨m, hm, hp⟩ := hx; exact ih m hm hp
    · exact ⟨n, hn, fun m hp => Nat.le_of_not_lt fun hlt => hx ⟨m, hlt, hp⟩⟩
open Classical in
noncomputable def leastN (p : Nat → Prop) : Nat := if h : ∃ n, p n then Classical.choose (least h) else 0
theorem leastN_spec {p : Nat → Prop} (h : ∃ n, p n) : p (leastN p) := by
  unfold leastN; rw [dif_pos h]; exact (Classical.choose_spec (least h)).1
theorem leastN_le {p : Nat → Prop} {n : Nat} (h : p n) : leastN p ≤ n := by
  unfold leastN; rw [dif_pos ⟨n, h⟩]; exact (Classical.choose_spec (least ⟨n, h⟩)).2 n h
/-- The next entry of a map. -/
theorem next_map {κ α : Type} [DecidableEq κ] {enc : κ → Value} {m it c : Nat} {l : AL κ} {V : Value → α → HP} {f : κ → Option α} {S : Array Nat} {ty : TypeId} (hs : Stamps l c) :
    OTri Try.prog (nextS (.pointer (some ⟨it, 0, none⟩)) ty) (HP.sep (HP.one it (.mapIter (some m) c S c)) (MapH V enc m f l c))
    (fun v => HP.ex fun e => HP.and (nextE enc l S v e) (HP.sep (HP.one it (.mapIter (some m) c (nextI S e) c)) (MapH V enc m f l c))) := by
  refine OTri.fact (φ := MapI l c) (fun R h H => (HP.sep_right H).1) fun hI => ?_
  refine ((next_ok (m := m) (it := it) (S := S) (ty := ty) (enc := enc) hs).frame (Vals V l f)).weak (fun R h ⟨h1, h2, d, l1, l2, H1, ⟨_, H2⟩⟩ => HP.sep_assoc' ⟨h1, h2, d, l1, l2, H1, H2⟩) ?_
  rintro v R h ⟨h1, h2, d, l1, l2, ⟨e, he, H⟩, HV⟩
  exact ⟨e, he, HP.sep_mono (HP.sep_assoc ⟨h1, h2, d, l1, l2, H, HV⟩) (fun _ h => h) fun y hy => ⟨hI, hy⟩⟩
theorem map_inj {α β : Type} (g : α → β) : ∀ {l : List α}, (l.map g).Nodup → ∀ {x y : α}, x ∈ l → y ∈ l → g x = g y → x = y
  | [], _, _, _, hx, _, _ => by cases hx
  | z :: l, h, x, y, hx, hy, e => by
    simp only [List.map_cons, List.nodup_cons] at h
    rcases List.mem_cons.1 hx with rfl | hx2 <;> rcases List.mem_cons.1 hy with rfl | hy2
    · rfl
    · exact (h.1 (List.mem_map.2 ⟨y, hy2, e.symm⟩)).elim
    · exact (h.1 (List.mem_map.2 ⟨x, hx2, e⟩)).elim
    · exact map_inj g h.2 hx2 hy2 e
theorem stamp_push {κ : Type} {l : AL κ} {c : Nat} (hs : Stamps l c) {x y : κ × Value × Nat} {S : Array Nat} (hx : x ∈ l) (hy : y ∈ l) (h : y.2.2 ∈ S.push x.2.2) : y = x ∨ y.2.2 ∈ S := by
  rcases Array.mem_push.1 h with h | h
  · exact .inr h
  · exact .inl (map_inj (fun z : κ × Value × Nat => z.2.2) hs.nodup hy hx h)
theorem delF_ok (bx ub bd mc mi : Nat) (D I : HP) (s : USt) (lc : AL Int) (cc : Nat) :
    Tri Try.prog 105 #[.map (some mc), .func (.func 106) #[] #[.pointer (some ⟨bx, 0, none⟩)]] (HP.sep (MapH CellV iE mc s.cells lc cc) (HP.sep (Box bx ub) (HP.sep (UOne ub bd mc mi s) (HP.sep D I))))
    (fun v => HP.and (v = .tuple #[]) (HP.sep (MapE CellV iE mc (fun k => if k < s.low then none else s.cells k)) (HP.sep (Box bx ub) (HP.sep (UOne ub bd mc mi s) (HP.sep D I))))) := by
  refine Tri.fact (φ := MapI lc cc) (fun R h H => (HP.sep_left H).1) fun hI0 => ?_
  refine tri_of_tree (ρ := [.n mc, .p (MapH CellV iE mc s.cells lc cc), .n bx, .n ub, .n bd, .p D, .i s.epoch, .i s.low, .i s.top, .n mi, .p I]) mixed Try.func105 tree_delF ?_
  unfold t_delF
  simp only [T.den, E.prop, E.den, RX.look, F1.app, F2.app, Uni.int_i, Uni.nat_n, Uni.bool_c, Uni.str_s, Uni.adr_a, Uni.val_v, Uni.hp_p, hden, cden, V.den, W.den, A.den, BR.den, SA.den, FV.den, capV, exs, exP, allP, Cur.app, List.map_cons, List.map_nil, List.cons_append, List.nil_append, List.drop_succ_cons, List.drop_zero, List.length_cons, List.length_nil, Nat.zero_add, Nat.reduceAdd, Int.neg_neg, Bool.not_not, List.append_nil, Nat.add_zero, List.getElem?_cons_zero, List.getElem?_cons_succ, Decidable.not_not]
  rw [semOf_range]
  simp only [T.den, E.prop, E.den, RX.look, F1.app, F2.app, Uni.int_i, Uni.nat_n, Uni.bool_c, Uni.str_s, Uni.adr_a, Uni.val_v, Uni.hp_p, hden, cden, V.den, W.den, A.den, BR.den, SA.den, FV.den, capV, exs, exP, allP, Cur.app, List.map_cons, List.map_nil, List.cons_append, List.nil_append, List.drop_succ_cons, List.drop_zero, List.length_cons, List.length_nil, Nat.zero_add, Nat.reduceAdd, Int.neg_neg, Bool.not_not, List.append_nil, Nat.add_zero, List.getElem?_cons_zero, List.getElem?_cons_succ, Decidable.not_not]
  refine ((range_ok (m := mc) (l := lc) (c := cc) (enc := iE) undMc).frame (Vals CellV lc s.cells)).weak (fun R h H => H.2) ?_
  rintro v R h ⟨h1, h2, d, l1, l2, ⟨it, rfl, H⟩, HV⟩
  have Hst : (HP.sep (HP.one it (.mapIter (some mc) cc #[] cc)) (MapH CellV iE mc s.cells lc cc)).p R h := HP.sep_mono (HP.sep_assoc ⟨h1, h2, d, l1, l2, H, HV⟩) (fun _ h => h) fun y hy => ⟨hI0, hy⟩
  clear H HV d l1 l2
  let J : HP → HP → Nat → Prop := fun Pi Pm N => ∃ (l : AL Int) (S : Array Nat) (f : Int → Option CellS), Pi = HP.one it (.mapIter (some mc) cc S cc) ∧ Pm = MapH CellV iE mc f l cc ∧ MapI l cc ∧ (∀ k, f k = s.cells k ∨ (k < s.low ∧ f k = none)) ∧ (∀ x ∈ l, x.2.2 ∈ S → ¬ x.1 < s.low) ∧ leftN l S = N
  refine ⟨it, _, _, rfl, ⟨fun Pi Pm => ∃ N, J Pi Pm N, fun Pi Pm => leastN (J Pi Pm), ⟨_, lc, #[], s.cells, rfl, rfl, hI0, fun k => .inl rfl, fun x _ hx => absurd hx (by simp), rfl⟩, ?_⟩, Hst⟩
  intro Pi Pm hJ
  have hJ' := leastN_spec hJ
  generalize hNe : leastN (J Pi Pm) = N at hJ'
  obtain ⟨l, S, f, rfl, rfl, hI, hf, hS, hN⟩ := hJ'
  rw [semOf_next]
  simp only [T.den, E.prop, E.den, RX.look, F1.app, F2.app, Uni.int_i, Uni.nat_n, Uni.bool_c, Uni.str_s, Uni.adr_a, Uni.val_v, Uni.hp_p, hden, cden, V.den, W.den, A.den, BR.den, SA.den, FV.den, capV, exs, exP, allP, Cur.app, List.map_cons, List.map_nil, List.cons_append, List.nil_append, List.drop_succ_cons, List.drop_zero, List.length_cons, List.length_nil, Nat.zero_add, Nat.reduceAdd, Int.neg_neg, Bool.not_not, List.append_nil, Nat.add_zero, List.getElem?_cons_zero, List.getElem?_cons_succ, Decidable.not_not]
  refine (next_map hI.2).weak (fun _ _ h => h) ?_
  rintro v R h ⟨e, he, H⟩
  rcases e with _ | x
  · refine ⟨false, .tuple #[], .tuple #[], _, he.1, ⟨fun h => (by cases h), fun _ => HP.ent.of fun R h H => ⟨trivial, ?_⟩⟩, H⟩
    refine HP.sep_mono H (fun y hy => ?_) fun _ h => h
    have e : f = fun k => if k < s.low then none else s.cells k := funext fun k => by
      by_cases hk : k < s.low
      · rw [if_pos hk]
        cases hfk : f k with
        | none => rfl
        | some z =>
          obtain ⟨v, hv, _⟩ := MapH.yes hy cellV_pers hfk y
          obtain ⟨b, hb⟩ := alFind_some_mem k l v hv
          exact absurd hk (hS _ hb (he.2 _ hb))
      · rw [if_neg hk]
        exact (hf k).resolve_right fun h => hk h.1
    rw [← e]
    exact ⟨l, cc, hy⟩
  · obtain ⟨rfl, hx, hxS⟩ := he
    have Hm := HP.sep_right H
    have hfind : alFind x.1 l = some x.2.1 := alFind_mem x.1 x.2.1 x.2.2 l hI.1 hx
    obtain ⟨z, a, c, hz, _⟩ : ∃ z a c, x.2.1 = .agg #[.int .i64 (CellS.what z), .slice a z.data.length c] ∧ f x.1 = some z := by
      cases hfk : f x.1 with
      | none => rw [MapH.no Hm hfk] at hfind; cases hfind
      | some z =>
        obtain ⟨v, hv, a, c, ⟨e, _⟩, _⟩ := MapH.yes Hm cellV_pers hfk h
        rw [hfind] at hv
        cases hv
        exact ⟨z, a, c, e, rfl⟩
    refine ⟨true, iE x.1, x.2.1, _, rfl, ⟨fun _ => ?_, fun h => by simp at h⟩, H⟩
    have hent := entry_ok (enc := iE) (it := it) (m := mc) (c := cc) (S := S) (x := x) hI.2 hx (A := HP.sep (HP.one it (.mapIter (some mc) cc (nextI S (some x)) cc)) (MapH CellV iE mc f l cc)) (fun R h H => HP.sep_left H) (fun R h H => MapH.at (HP.sep_right H))
    rw [hz] at hent
    refine ⟨x.1, _, _, _, _, hent, fun y => ?_⟩
    refine (uFor1C_ok bx ub bd mc mi D (MapH CellV iE mc f l cc) I s x.1 _ _ _ _).weak (fun _ _ h => h) ?_
    rintro v R h ⟨rfl, H⟩
    refine ⟨_, rfl, ⟨fun hlow => ?_, fun hlow => ?_⟩, H⟩
    · rw [semOf_delete (by decide)]
      simp only [T.den, E.prop, E.den, RX.look, F1.app, F2.app, Uni.int_i, Uni.nat_n, Uni.bool_c, Uni.str_s, Uni.adr_a, Uni.val_v, Uni.hp_p, hden, cden, V.den, W.den, A.den, BR.den, SA.den, FV.den, capV, exs, exP, allP, Cur.app, List.map_cons, List.map_nil, List.cons_append, List.nil_append, List.drop_succ_cons, List.drop_zero, List.length_cons, List.length_nil, Nat.zero_add, Nat.reduceAdd, Int.neg_neg, Bool.not_not, List.append_nil, Nat.add_zero, List.getElem?_cons_zero, List.getElem?_cons_succ, Decidable.not_not]
      refine (MapH.del (r := mc) (l := l) (c := cc) (f := f) (V := CellV) iK undMc x.1 #[88, 3] 0 rfl).weak (fun _ _ h => h) ?_
      rintro v R h ⟨rfl, H⟩
      have hJ2 : J (HP.one it (.mapIter (some mc) cc (nextI S (some x)) cc)) (MapH CellV iE mc (fput f x.1 none) (alDel x.1 l) cc) (leftN (alDel x.1 l) (S.push x.2.2)) := by
        refine ⟨alDel x.1 l, S.push x.2.2, fput f x.1 none, rfl, rfl, hI.del x.1, fun k => ?_, fun y hy hyS => ?_, rfl⟩
        · unfold fput
          by_cases e : k = x.1
          · subst e; exact .inr ⟨by simpa using hlow, if_pos rfl⟩
          · rw [if_neg e]; exact hf k
        · have hyl := (alDel_sub x.1 l).subset hy
          rcases stamp_push hI.2 hx hyl hyS with rfl | h
          · have := (alFind_isSome y.1 (alDel y.1 l)).2 (List.mem_map.2 ⟨y, hy, rfl⟩)
            rw [alFind_del _ _ _ hI.1, if_pos rfl] at this
            cases this
          · exact hS y hyl h
      refine ⟨_, rfl, ⟨⟨_, hJ2⟩, Nat.lt_of_le_of_lt (leastN_le hJ2) ?_⟩, H⟩
      rw [hNe, ← hN]
      exact Nat.lt_of_le_of_lt (((alDel_sub x.1 l).filter _).length_le) (leftN_push hx hxS)
    · have hJ2 : J (HP.one it (.mapIter (some mc) cc (nextI S (some x)) cc)) (MapH CellV iE mc f l cc) (leftN l (S.push x.2.2)) := by
        refine ⟨l, S.push x.2.2, f, rfl, rfl, hI, hf, fun y hy hyS => ?_, rfl⟩
        rcases stamp_push hI.2 hx hy hyS with rfl | h
        · simpa using hlow
        · exact hS y hy h
      refine ⟨⟨_, hJ2⟩, Nat.lt_of_le_of_lt (leastN_le hJ2) ?_⟩
      rw [hNe, ← hN]
      exact leftN_push hx hxS
end Go.Proofs.Ytmibmjehjagmbaa

/- Contracts of the unit: forget, follow. No condition. -/
namespace Go.Proofs.Ytmibmjehjagmbaa
set_option linter.unusedSimpArgs false
set_option linter.unusedVariables false
open Go.Proofs.Ytmibmjehjagmbaa RX

def forgS (s : USt) : USt := { s with cells := fun k => if k < s.low then none else s.cells k }
theorem uForget_ok (ub bd mc mi : Nat) (D I : HP) (s : USt) (lc : AL Int) (cc : Nat) :
    Tri Try.prog 60 #[.pointer (some ⟨ub, 0, none⟩)] (HP.sep (UOne ub bd mc mi s) (HP.sep D (HP.sep (MapH CellV iE mc s.cells lc cc) I)))
    (fun v => HP.and (v = .tuple #[]) (HP.sep (UOne ub bd mc mi s) (HP.sep D (HP.sep (MapE CellV iE mc (forgS s).cells) I)))) := by
  refine tri_of_tree (ρ := [.n ub, .n bd, .p D, .i s.epoch, .i s.low, .i s.top, .n mc, .p (MapH CellV iE mc s.cells lc cc), .n mi, .p I]) mixed Try.func60 tree_uForget ?_
  unfold t_uForget
  simp only [T.den, E.prop, E.den, RX.look, F1.app, F2.app, Uni.int_i, Uni.nat_n, Uni.bool_c, Uni.str_s, Uni.adr_a, Uni.val_v, Uni.hp_p, hden, cden, V.den, W.den, A.den, BR.den, SA.den, FV.den, capV, exs, exP, allP, Cur.app, List.map_cons, List.map_nil, List.cons_append, List.nil_append, List.drop_succ_cons, List.drop_zero, List.length_cons, List.length_nil, Nat.zero_add, Nat.reduceAdd, Int.neg_neg, Bool.not_not, List.append_nil, Nat.add_zero, List.getElem?_cons_zero, List.getElem?_cons_succ, Decidable.not_not]
  intro bx
  refine (delF_ok bx ub bd mc mi D I s lc cc).weak (fun _ _ h => h) ?_
  rintro v R h ⟨rfl, H⟩
  exact ⟨_, rfl, .of fun R h H => ⟨trivial, H⟩, H⟩
def endedR (r : List UInt8 × Bool) : Bool := !(r.2 || !r.1.isEmpty)
theorem endedR_no {r : List UInt8 × Bool} (h : ¬ (if r.2 = true ∨ r.1 ≠ [] then (3 : Int) else 0) = 0) : endedR r = false := by
  obtain ⟨l, w⟩ := r
  cases w <;> cases l <;> simp_all [endedR]
theorem endedR_yes {r : List UInt8 × Bool} (h : (if r.2 = true ∨ r.1 ≠ [] then (3 : Int) else 0) = 0) : endedR r = true := by
  obtain ⟨l, w⟩ := r
  cases w <;> cases l <;> simp_all [endedR]
theorem bytesR_len (s : List UInt8 × Bool) (most : Int) : (bytesR s most).1.length ≤ 140737488355328 := by
  have h1 := takeR_len (toldR s most).2 (toldR s most).1
  have h2 : (toldR s most).1 ≤ 4294967296 := by
    have := numR_lt s 4
    unfold toldR
    split
    · exact Nat.zero_le _
    · split
      · exact Nat.zero_le _
      · simp only; omega
  unfold bytesR
  omega
/-- What a page leads to. -/
def followS (s : USt) (b : List UInt8) : Option USt :=
  let k := numR (b, false) 1
  let n := intOf64 (numR k.2 8).1
  let r := (numR k.2 8).2
  match k.1 with
  | 1 => let d := bytesR r 65536
    if endedR d.2 && addrOk n then some { s with cells := fput s.cells n (some ⟨1, d.1⟩), top := max s.top (n + 1) } else none
  | 2 => if endedR r && addrOk n then some { s with cells := fput s.cells n (some ⟨2, []⟩), top := max s.top (n + 1) } else none
  | 3 => if endedR r && addrOk n then some { s with low := n } else none
  | 4 => if endedR r && numOk n then some { s with epoch := n } else none
  | 5 => let a := numR r 8
    let c := numR a.2 8
    if endedR c.2 && propOk n (intOf64 a.1) (intOf64 c.1) then some (promS s n (intOf64 a.1) (intOf64 c.1)) else none
  | 6 => let a := numR r 8
    let c := numR a.2 8
    let d := bytesR c.2 1000
    if endedR d.2 && propOk n (intOf64 a.1) (intOf64 c.1) then some (accS s n (intOf64 a.1) (intOf64 c.1) d.1) else none
  | _ => none
theorem uFollow_ok (ub bd mc mi : Nat) (D : HP) (s : USt) (lc : AL Int) (cc : Nat) (li : AL Int) (ci : Nat) (a : Option Addr) (n c : Nat) (l : List UInt8) (S : HP) (hr : RdL S a n (l.map u8v)) (hl : l.length = n) (hb : n ≤ 140737488355328) :
    Tri Try.prog 59 #[.pointer (some ⟨ub, 0, none⟩), .slice a n c] (HP.sep (UOne ub bd mc mi s) (HP.sep D (HP.sep (MapH CellV iE mc s.cells lc cc) (HP.sep (MapH InstV iE mi s.inst li ci) S))))
    (fun v => HP.and (v = .bool (followS s l).isSome) (HP.sep (UOne ub bd mc mi ((followS s l).getD s)) (HP.sep D (HP.sep (MapE CellV iE mc ((followS s l).getD s).cells) (HP.sep (MapE InstV iE mi ((followS s l).getD s).inst) S))))) := by
  refine tri_of_tree (ρ := [.n ub, .n bd, .p D, .i s.epoch, .i s.low, .i s.top, .n mc, .p (MapH CellV iE mc s.cells lc cc), .n mi, .p (MapH InstV iE mi s.inst li ci), .a a, .n n, .n c, .p S]) mixed Try.func59 tree_uFollow ?_
  unfold t_uFollow
  simp only [T.den, E.prop, E.den, RX.look, F1.app, F2.app, Uni.int_i, Uni.nat_n, Uni.bool_c, Uni.str_s, Uni.adr_a, Uni.val_v, Uni.hp_p, hden, cden, V.den, W.den, A.den, BR.den, SA.den, FV.den, capV, exs, exP, allP, Cur.app, List.map_cons, List.map_nil, List.cons_append, List.nil_append, List.drop_succ_cons, List.drop_zero, List.length_cons, List.length_nil, Nat.zero_add, Nat.reduceAdd, Int.neg_neg, Bool.not_not, List.append_nil, Nat.add_zero, List.getElem?_cons_zero, List.getElem?_cons_succ, Decidable.not_not]
  refine (rRead_ok a n c l S hr hl hb).weak (fun _ _ h => h) ?_
  rintro v R h ⟨rb, rfl, H⟩
  refine ⟨rb, _, S, rfl, ?_, HP.sep_comm H⟩
  refine (rByte_ok rb (l, false)).weak (fun _ _ h => h) ?_
  rintro v R h ⟨rfl, H⟩
  refine ⟨_, _, rfl, ?_, H⟩
  refine (rInt_ok rb _).weak (fun _ _ h => h) ?_
  rintro v R h ⟨rfl, H⟩
  refine ⟨_, _, rfl, ?_, H⟩
  clear H
  have hk : (numR (l, false) 1).1 < 256 := by simpa using numR_lt (l, false) 1
  have fail : followS s l = none → HP.ent (HP.sep (UOne ub bd mc mi s) (HP.sep D (HP.sep (MapH CellV iE mc s.cells lc cc) (HP.sep (MapH InstV iE mi s.inst li ci) S)))) (HP.and (Value.bool false = Value.bool (followS s l).isSome) (HP.sep (UOne ub bd mc mi ((followS s l).getD s)) (HP.sep D (HP.sep (MapE CellV iE mc ((followS s l).getD s).cells) (HP.sep (MapE InstV iE mi ((followS s l).getD s).inst) S))))) := fun e => by
    rw [e]
    exact .of fun R h H => ⟨rfl, HP.sep_mono H (fun _ h => h) fun y hy => HP.sep_mono hy (fun _ h => h) fun z hz => HP.sep_mono hz (fun q hq => ⟨_, _, hq⟩) fun u hu => HP.sep_mono hu (fun q hq => ⟨_, _, hq⟩) fun _ h => h⟩
  generalize hkk : (numR (l, false) 1).1 = k at hk
  have hmod : k % 256 = k := Nat.mod_eq_of_lt hk
  rw [hmod]
  refine ⟨fun h1 => ?_, fun h1 => ⟨fun h2 => ?_, fun h2 => ⟨fun h3 => ?_, fun h3 => ⟨fun h4 => ?_, fun h4 => ⟨fun h5 => ?_, fun h5 => ⟨fun h6 => ?_, fun h6 => ?_⟩⟩⟩⟩⟩⟩
  · have hk1 : k = 1 := by omega
    subst hk1
    refine (rBytes_ok rb _ 65536).weak (fun _ _ h => h) ?_
    rintro v R h ⟨da, dc, rfl, H⟩
    refine ⟨da, _, dc, OwB da _ dc _, _, rfl, fun y => ?_, HP.sep_comm H⟩
    refine (rEnd_ok rb _).weak (fun _ _ h => h) ?_
    rintro v R h ⟨rfl, H⟩
    refine ⟨_, _, rfl, ⟨fun he => fail ?_, fun he => ?_⟩, H⟩
    · simp only [followS, hkk, endedR_no he]; rfl
    · refine (uaddr_ok _).weak (fun _ _ h => h) ?_
      rintro v R h ⟨rfl, H⟩
      refine ⟨_, rfl, ⟨fun ha => fail ?_, fun ha => ?_⟩, H⟩
      · simp only [followS, hkk]; rw [if_neg (by simp [ha])]
      · have e : followS s l = some { s with cells := fput s.cells (intOf64 (numR (numR (l, false) 1).2 8).1) (some ⟨1, (bytesR (numR (numR (l, false) 1).2 8).2 65536).1⟩), top := max s.top (intOf64 (numR (numR (l, false) 1).2 8).1 + 1) } := by
          simp only [followS, hkk]; rw [if_pos (by rw [endedR_yes he, ha]; rfl)]
        rw [e]
        refine (uPut_ok ub bd mc mi D (MapH InstV iE mi s.inst li ci) s lc cc _ 1 da _ dc (bytesR (numR (numR (l, false) 1).2 8).2 65536).1 _ (RdL.ow _ 1 _ _ _ _) rfl (bytesR_len _ _) ha).weak (fun _ _ h => h) ?_
        rintro v R h ⟨rfl, H⟩
        refine ⟨bd, D, s.epoch, s.low, _, mc, _, mi, MapH InstV iE mi s.inst li ci, _, rfl, .of fun R h H => ⟨rfl, ?_⟩, H⟩
        exact HP.sep_mono H (fun _ h => h) fun y hy => HP.sep_mono hy (fun _ h => h) fun z hz => HP.sep_mono hz (fun _ h => h) fun u hu => HP.sep_mono hu (fun q hq => ⟨_, _, hq⟩) fun _ h => h
  · have hk2 : k = 2 := by omega
    subst hk2
    refine (rEnd_ok rb _).weak (fun _ _ h => h) ?_
    rintro v R h ⟨rfl, H⟩
    refine ⟨_, _, rfl, ⟨fun he => fail ?_, fun he => ?_⟩, H⟩
    · simp only [followS, hkk, endedR_no he]; rfl
    · refine (uaddr_ok _).weak (fun _ _ h => h) ?_
      rintro v R h ⟨rfl, H⟩
      refine ⟨_, rfl, ⟨fun ha => fail ?_, fun ha => ?_⟩, H⟩
      · simp only [followS, hkk]; rw [if_neg (by simp [ha])]
      · have e : followS s l = some { s with cells := fput s.cells (intOf64 (numR (numR (l, false) 1).2 8).1) (some ⟨2, []⟩), top := max s.top (intOf64 (numR (numR (l, false) 1).2 8).1 + 1) } := by
          simp only [followS, hkk]; rw [if_pos (by rw [endedR_yes he, ha]; rfl)]
        rw [e]
        refine (uPut_ok ub bd mc mi D (MapH InstV iE mi s.inst li ci) s lc cc _ 2 none 0 0 [] HP.tt ⟨fun _ _ _ _ _ _ _ _ hj => by simp at hj, fun _ _ _ _ => rfl⟩ rfl (by omega) ha).weak (fun R h H => HP.sep_mono H (fun _ h => h) fun y hy => HP.sep_mono hy (fun _ h => h) fun z hz => HP.sep_mono hz (fun _ h => h) fun q hq => HP.sep_tt hq) ?_
        rintro v R h ⟨rfl, H⟩
        refine ⟨bd, D, s.epoch, s.low, _, mc, _, mi, MapH InstV iE mi s.inst li ci, rfl, .of fun R h H => ⟨rfl, ?_⟩, HP.sep_mono H (fun _ h => h) fun y hy => HP.sep_mono hy (fun _ h => h) fun z hz => HP.sep_mono hz (fun _ h => h) fun q hq => HP.sep_left hq⟩
        exact HP.sep_mono H (fun _ h => h) fun y hy => HP.sep_mono hy (fun _ h => h) fun z hz => HP.sep_mono hz (fun _ h => h) fun u hu => HP.sep_mono hu (fun q hq => ⟨_, _, hq⟩) fun _ h => h
  · have hk3 : k = 3 := by omega
    subst hk3
    refine (rEnd_ok rb _).weak (fun _ _ h => h) ?_
    rintro v R h ⟨rfl, H⟩
    refine ⟨_, _, rfl, ⟨fun he => fail ?_, fun he => ?_⟩, H⟩
    · simp only [followS, hkk, endedR_no he]; rfl
    · refine (uaddr_ok _).weak (fun _ _ h => h) ?_
      rintro v R h ⟨rfl, H⟩
      refine ⟨_, rfl, ⟨fun ha => fail ?_, fun ha => ?_⟩, H⟩
      · simp only [followS, hkk]; rw [if_neg (by simp [ha])]
      · have e : followS s l = some { s with low := intOf64 (numR (numR (l, false) 1).2 8).1 } := by
          simp only [followS, hkk]; rw [if_pos (by rw [endedR_yes he, ha]; rfl)]
        rw [e]
        exact .of fun R h H => ⟨rfl, HP.sep_mono H (fun _ h => h) fun y hy => HP.sep_mono hy (fun _ h => h) fun z hz => HP.sep_mono hz (fun q hq => ⟨_, _, hq⟩) fun u hu => HP.sep_mono hu (fun q hq => ⟨_, _, hq⟩) fun _ h => h⟩
  · have hk3 : k = 4 := by omega
    subst hk3
    refine (rEnd_ok rb _).weak (fun _ _ h => h) ?_
    rintro v R h ⟨rfl, H⟩
    refine ⟨_, _, rfl, ⟨fun he => fail ?_, fun he => ?_⟩, H⟩
    · simp only [followS, hkk, endedR_no he]; rfl
    · refine (unum_ok _).weak (fun _ _ h => h) ?_
      rintro v R h ⟨rfl, H⟩
      refine ⟨_, rfl, ⟨fun ha => fail ?_, fun ha => ?_⟩, H⟩
      · simp only [followS, hkk]; rw [if_neg (by simp [ha])]
      · have e : followS s l = some { s with epoch := intOf64 (numR (numR (l, false) 1).2 8).1 } := by
          simp only [followS, hkk]; rw [if_pos (by rw [endedR_yes he, ha]; rfl)]
        rw [e]
        exact .of fun R h H => ⟨rfl, HP.sep_mono H (fun _ h => h) fun y hy => HP.sep_mono hy (fun _ h => h) fun z hz => HP.sep_mono hz (fun q hq => ⟨_, _, hq⟩) fun u hu => HP.sep_mono hu (fun q hq => ⟨_, _, hq⟩) fun _ h => h⟩
  · have hk5 : k = 5 := by omega
    subst hk5
    refine (rInt_ok rb _).weak (fun _ _ h => h) ?_
    rintro v R h ⟨rfl, H⟩
    refine ⟨_, _, rfl, ?_, H⟩
    refine (rInt_ok rb _).weak (fun _ _ h => h) ?_
    rintro v R h ⟨rfl, H⟩
    refine ⟨_, _, rfl, fun y => ?_, H⟩
    refine (rEnd_ok rb _).weak (fun _ _ h => h) ?_
    rintro v R h ⟨rfl, H⟩
    refine ⟨_, _, rfl, ⟨fun he => fail ?_, fun he => ?_⟩, H⟩
    · simp only [followS, hkk, endedR_no he]; rfl
    · refine (uprop_ok _ _ _).weak (fun _ _ h => h) ?_
      rintro v R h ⟨rfl, H⟩
      refine ⟨_, rfl, ⟨fun ha => fail ?_, fun ha => ?_⟩, H⟩
      · simp only [followS, hkk]; rw [if_neg (by simp [ha])]
      · have e : followS s l = some (promS s (intOf64 (numR (numR (l, false) 1).2 8).1) (intOf64 (numR (numR (numR (l, false) 1).2 8).2 8).1) (intOf64 (numR (numR (numR (numR (l, false) 1).2 8).2 8).2 8).1)) := by
          simp only [followS, hkk]; rw [if_pos (by rw [endedR_yes he, ha]; rfl)]
        rw [e]
        refine (uProm_ok ub bd mc mi D (MapH CellV iE mc s.cells lc cc) s li ci _ _ _).weak (fun _ _ h => h) ?_
        rintro v R h ⟨rfl, H⟩
        refine ⟨bd, D, s.epoch, s.low, s.top, mc, MapH CellV iE mc s.cells lc cc, mi, _, rfl, .of fun R h H => ⟨rfl, ?_⟩, H⟩
        exact HP.sep_mono H (fun _ h => h) fun y hy => HP.sep_mono hy (fun _ h => h) fun z hz => HP.sep_mono hz (fun q hq => ⟨_, _, hq⟩) fun _ h => h
  · have hk6 : k = 6 := by omega
    subst hk6
    refine (rInt_ok rb _).weak (fun _ _ h => h) ?_
    rintro v R h ⟨rfl, H⟩
    refine ⟨_, _, rfl, ?_, H⟩
    refine (rInt_ok rb _).weak (fun _ _ h => h) ?_
    rintro v R h ⟨rfl, H⟩
    refine ⟨_, _, rfl, fun y => ?_, H⟩
    refine (rBytes_ok rb _ 1000).weak (fun _ _ h => h) ?_
    rintro v R h ⟨da, dc, rfl, H⟩
    refine ⟨da, _, dc, OwB da _ dc _, _, rfl, ?_, HP.sep_comm H⟩
    refine (rEnd_ok rb _).weak (fun _ _ h => h) ?_
    rintro v R h ⟨rfl, H⟩
    refine ⟨_, _, rfl, ⟨fun he => fail ?_, fun he => ?_⟩, H⟩
    · simp only [followS, hkk, endedR_no he]; rfl
    · refine (uprop_ok _ _ _).weak (fun _ _ h => h) ?_
      rintro v R h ⟨rfl, H⟩
      refine ⟨_, rfl, ⟨fun ha => fail ?_, fun ha => ?_⟩, H⟩
      · simp only [followS, hkk]; rw [if_neg (by simp [ha])]
      · have e : followS s l = some (accS s (intOf64 (numR (numR (l, false) 1).2 8).1) (intOf64 (numR (numR (numR (l, false) 1).2 8).2 8).1) (intOf64 (numR (numR (numR (numR (l, false) 1).2 8).2 8).2 8).1) (bytesR (numR (numR (numR (numR (l, false) 1).2 8).2 8).2 8).2 1000).1) := by
          simp only [followS, hkk]; rw [if_pos (by rw [endedR_yes he, ha]; rfl)]
        rw [e]
        refine (uAcc_ok ub bd mc mi D (MapH CellV iE mc s.cells lc cc) s li ci _ _ _ da _ dc _ _ (RdL.ow _ 1 _ _ _ _) rfl (bytesR_len _ _)).weak (fun _ _ h => h) ?_
        rintro v R h ⟨rfl, H⟩
        refine ⟨bd, D, s.epoch, s.low, s.top, mc, MapH CellV iE mc s.cells lc cc, mi, _, _, rfl, .of fun R h H => ⟨rfl, ?_⟩, H⟩
        exact HP.sep_mono H (fun _ h => h) fun y hy => HP.sep_mono hy (fun _ h => h) fun z hz => HP.sep_mono hz (fun q hq => ⟨_, _, hq⟩) fun _ h => h
  · refine fail ?_
    simp only [followS, hkk]
    split <;> first | rfl | omega
end Go.Proofs.Ytmibmjehjagmbaa

/- Contracts of the unit: its calls. No condition. -/
namespace Go.Proofs.Ytmibmjehjagmbaa
set_option linter.unusedSimpArgs false
set_option linter.unusedVariables false
open Go.Proofs.Ytmibmjehjagmbaa RX

/-- What Read tells. -/
def readS (s : USt) (epoch at' : Int) : CellS × Int :=
  if reachE s epoch at' ≠ 0 then (⟨0, []⟩, reachE s epoch at')
  else if at' < s.low then (⟨0, []⟩, 11)
  else match s.cells at' with
    | some x => (x, 0)
    | none => (⟨0, []⟩, 9)
theorem uRead_ok (ub bd : Nat) (D : HP) (s : USt) (epoch at' : Int) :
    Tri Try.prog 19 #[.pointer (some ⟨ub, 0, none⟩), .int .i64 epoch, .int .i64 at'] (URep ub bd D s)
    (fun v => HP.ex fun a => HP.ex fun c => HP.and (v = .tuple #[.agg #[.int .i64 (readS s epoch at').1.what, .slice a (readS s epoch at').1.data.length c], .int .i64 (readS s epoch at').2]) (HP.sep (URep ub bd D s) (RoB a (readS s epoch at').1.data.length (readS s epoch at').1.data))) := by
  refine URep.tri fun mc mi lc cc li ci => ?_
  refine tri_of_tree (ρ := [.n ub, .n bd, .p D, .i s.epoch, .i s.low, .i s.top, .n mc, .p (MapH CellV iE mc s.cells lc cc), .n mi, .p (MapH InstV iE mi s.inst li ci), .i epoch, .i at']) mixed Try.func19 tree_uRead ?_
  unfold t_uRead
  simp only [T.den, E.prop, E.den, RX.look, F1.app, F2.app, Uni.int_i, Uni.nat_n, Uni.bool_c, Uni.str_s, Uni.adr_a, Uni.val_v, Uni.hp_p, hden, cden, V.den, W.den, A.den, BR.den, SA.den, FV.den, capV, exs, exP, allP, Cur.app, List.map_cons, List.map_nil, List.cons_append, List.nil_append, List.drop_succ_cons, List.drop_zero, List.length_cons, List.length_nil, Nat.zero_add, Nat.reduceAdd, Int.neg_neg, Bool.not_not, List.append_nil, Nat.add_zero, List.getElem?_cons_zero, List.getElem?_cons_succ, Decidable.not_not]
  intro x
  refine (uReachRaw_ok ub bd mc mi D _ _ s epoch at').weak (fun _ _ h => h) ?_
  rintro v R h ⟨rfl, H⟩
  refine ⟨_, rfl, ⟨fun h1 => .of fun R h H => ?_, fun h1 => ⟨fun h2 => .of fun R h H => ?_, fun h2 => ?_⟩⟩, H⟩
  · have e : readS s epoch at' = (⟨0, []⟩, reachE s epoch at') := if_pos h1
    rw [e]
    exact ⟨none, 0, rfl, RoC.joinR (RoC.nil _ _ R h) (URep.ofH H)⟩
  · have e : readS s epoch at' = (⟨0, []⟩, 11) := by unfold readS; rw [if_neg (by simpa using h1), if_pos h2]
    rw [e]
    exact ⟨none, 0, rfl, RoC.joinR (RoC.nil _ _ R h) (URep.ofH H)⟩
  · refine (uCell_ok ub bd mc mi D (MapH InstV iE mi s.inst li ci) s lc cc at').weak (fun _ _ h => h) ?_
    rintro v R h ⟨a, c, rfl, H⟩
    have hu : (URep ub bd D s).p R h → True := fun _ => trivial
    refine ⟨_, a, _, c, RoB a ((s.cells at').getD ⟨0, []⟩).data.length ((s.cells at').getD ⟨0, []⟩).data, _, rfl, fun y => ⟨fun hno => .of fun R h H => ?_, fun hyes => .of fun R h H => ?_⟩, H⟩
    · have hc : s.cells at' = none := by simpa using hno
      have e : readS s epoch at' = (⟨0, []⟩, 9) := by unfold readS; rw [if_neg (by simpa using h1), if_neg h2, hc]
      rw [e]
      exact ⟨none, 0, rfl, RoC.joinR (RoC.nil _ _ R h) (URep.ofH H)⟩
    · obtain ⟨z, hz⟩ := Option.isSome_iff_exists.1 hyes
      have e : readS s epoch at' = (z, 0) := by unfold readS; rw [if_neg (by simpa using h1), if_neg h2, hz]
      rw [e]
      rw [hz] at H ⊢
      refine ⟨a, c, rfl, RoC.joinR (HP.sep_right (HP.sep_right (HP.sep_right (HP.sep_right H)))) (URep.ofH (HP.sep_mono H (fun _ h => h) fun y hy => HP.sep_mono hy (fun _ h => h) fun u hu => HP.sep_mono hu (fun _ h => h) fun q hq => HP.sep_left hq))⟩
end Go.Proofs.Ytmibmjehjagmbaa

/- Contracts of the unit: its calls that write. No condition. -/
namespace Go.Proofs.Ytmibmjehjagmbaa
set_option linter.unusedSimpArgs false
set_option linter.unusedVariables false
open Go.Proofs.Ytmibmjehjagmbaa RX

/-- A unit and its device, all of which lasts. -/
def UD (ub bd : Nat) (room : Int) (s : USt) (ps : List Pg) : HP := URep ub bd (DRep bd room ps ps.length) s
/-- Write a page and follow it. -/
def lastS (room : Int) (s : USt) (ps : List Pg) (l : List UInt8) (s' : USt) : Int × USt × List Pg := if room = ps.length then (4, s, ps) else (0, s', ps ++ [⟨1, l⟩])
def trimS (room : Int) (s : USt) (ps : List Pg) (epoch low : Int) : Int × USt × List Pg :=
  if reachE s epoch low ≠ 0 then (reachE s epoch low, s, ps)
  else if low ≤ s.low then (0, s, ps)
  else lastS room s ps (pageL 3 [low]) (forgS { s with low := low })
theorem putPg_last (room : Int) (ps : List Pg) (l : List UInt8) : (if (putPg room ps ⟨1, l⟩).1 = 0 then (putPg room ps ⟨1, l⟩).2.length else ps.length) = (putPg room ps ⟨1, l⟩).2.length := by
  unfold putPg
  split <;> simp
theorem uTrim_ok (ub bd : Nat) (room : Int) (s : USt) (ps : List Pg) (epoch low : Int) :
    Tri Try.prog 63 #[.pointer (some ⟨ub, 0, none⟩), .int .i64 epoch, .int .i64 low] (UD ub bd room s ps)
    (fun v => HP.and (v = .int .i64 (trimS room s ps epoch low).1) (UD ub bd room (trimS room s ps epoch low).2.1 (trimS room s ps epoch low).2.2)) := by
  refine URep.tri fun mc mi lc cc li ci => ?_
  refine tri_of_tree (ρ := [.n ub, .n bd, .p (DRep bd room ps ps.length), .i s.epoch, .i s.low, .i s.top, .n mc, .p (MapH CellV iE mc s.cells lc cc), .n mi, .p (MapH InstV iE mi s.inst li ci), .i epoch, .i low]) mixed Try.func63 tree_uTrim ?_
  unfold t_uTrim
  simp only [T.den, E.prop, E.den, RX.look, F1.app, F2.app, Uni.int_i, Uni.nat_n, Uni.bool_c, Uni.str_s, Uni.adr_a, Uni.val_v, Uni.hp_p, hden, cden, V.den, W.den, A.den, BR.den, SA.den, FV.den, capV, exs, exP, allP, Cur.app, List.map_cons, List.map_nil, List.cons_append, List.nil_append, List.drop_succ_cons, List.drop_zero, List.length_cons, List.length_nil, Nat.zero_add, Nat.reduceAdd, Int.neg_neg, Bool.not_not, List.append_nil, Nat.add_zero, List.getElem?_cons_zero, List.getElem?_cons_succ, Decidable.not_not]
  refine (uReachRaw_ok ub bd mc mi _ _ _ s epoch low).weak (fun _ _ h => h) ?_
  rintro v R h ⟨rfl, H⟩
  refine ⟨_, rfl, ⟨fun h1 => .of fun R h H => ?_, fun h1 => ⟨fun h2 => .of fun R h H => ?_, fun h2 y => ?_⟩⟩, H⟩
  · have e : trimS room s ps epoch low = (reachE s epoch low, s, ps) := if_pos h1
    rw [e]
    exact ⟨rfl, URep.ofH H⟩
  · have e : trimS room s ps epoch low = (0, s, ps) := by unfold trimS; rw [if_neg (by simpa using h1), if_pos h2]
    rw [e]
    exact ⟨rfl, URep.ofH H⟩
  · have e : trimS room s ps epoch low = lastS room s ps (pageL 3 [low]) (forgS { s with low := low }) := by unfold trimS; rw [if_neg (by simpa using h1), if_neg h2]
    rw [e]
    refine (upage_ok 3 (some ⟨y, 0, none⟩) 1 1 [low] _ (one_rd y #[.int .i64 low] _) rfl (fun _ => rfl) (by omega)).weak (fun _ _ h => h) ?_
    rintro v R h ⟨b, rfl, H⟩
    refine ⟨b, WRep b (pageL 3 [low]), low, rfl, ?_, HP.sep_comm H⟩
    refine (wOut_ok b (pageL 3 [low]) (by rw [pageL_len]; simp)).weak (fun _ _ h => h) ?_
    rintro v R h ⟨a', c', rfl, H⟩
    refine ⟨a', _, c', OwB a' (pageL 3 [low]).length c' (pageL 3 [low]), _, rfl, ?_, HP.sep_comm H⟩
    refine (uLast_ok ub bd mc mi room ps ps.length _ _ s a' _ c' (pageL 3 [low]) _ (RdL.ow _ 1 _ _ _ _) rfl (by rw [pageL_len]; simp)).weak (fun _ _ h => h) ?_
    rintro v R h ⟨rfl, H⟩
    rw [putPg_last] at H
    by_cases hf : room = ps.length
    · have e1 : putPg room ps ⟨1, pageL 3 [low]⟩ = (4, ps) := if_pos hf
      have e2 : ∀ s', lastS room s ps (pageL 3 [low]) s' = (4, s, ps) := fun _ => if_pos hf
      rw [e1] at H ⊢
      rw [e2]
      exact ⟨4, bd, DRep bd room ps ps.length, s.epoch, s.low, s.top, mc, MapH CellV iE mc s.cells lc cc, mi, MapH InstV iE mi s.inst li ci, _, rfl, ⟨fun _ => .of fun R h H => ⟨rfl, URep.ofH H⟩, fun h => absurd h (by decide)⟩, H⟩
    · have e1 : putPg room ps ⟨1, pageL 3 [low]⟩ = (0, ps ++ [(⟨1, pageL 3 [low]⟩ : Pg)]) := if_neg hf
      have e2 : ∀ s', lastS room s ps (pageL 3 [low]) s' = (0, s', ps ++ [(⟨1, pageL 3 [low]⟩ : Pg)]) := fun _ => if_neg hf
      rw [e1] at H ⊢
      rw [e2]
      dsimp only at H ⊢
      refine ⟨0, bd, DRep bd room (ps ++ [(⟨1, pageL 3 [low]⟩ : Pg)]) (ps ++ [(⟨1, pageL 3 [low]⟩ : Pg)]).length, s.epoch, s.low, s.top, mc, MapH CellV iE mc s.cells lc cc, mi, MapH InstV iE mi s.inst li ci, OwB a' (pageL 3 [low]).length c' (pageL 3 [low]), ?_⟩
      refine And.intro rfl (And.intro ?_ H)
      refine ⟨fun h => (h rfl).elim, fun _ => ?_⟩
      refine (uForget_ok ub bd mc mi _ (MapH InstV iE mi s.inst li ci) { s with low := low } lc cc).weak (fun _ _ h => h) ?_
      rintro v R h ⟨rfl, H⟩
      refine ⟨bd, DRep bd room (ps ++ [(⟨1, pageL 3 [low]⟩ : Pg)]) (ps ++ [(⟨1, pageL 3 [low]⟩ : Pg)]).length, s.epoch, low, s.top, mc, MapE CellV iE mc (forgS { s with low := low }).cells, mi, MapH InstV iE mi s.inst li ci, rfl, .of fun R h H => ⟨rfl, ?_⟩, H⟩
      show (URep ub bd (DRep bd room (ps ++ [(⟨1, pageL 3 [low]⟩ : Pg)]) (ps ++ [(⟨1, pageL 3 [low]⟩ : Pg)]).length) (forgS { s with low := low })).p R h
      refine URep.of (mc := mc) (mi := mi) (HP.sep_mono H (fun _ h => h) fun y hy => HP.sep_mono hy (fun _ h => h) fun z hz => HP.sep_mono hz (fun _ h => h) fun q hq => ?_)
      exact ⟨li, ci, hq⟩
end Go.Proofs.Ytmibmjehjagmbaa

/- Contracts of the unit: Seal and Write. No condition. -/
namespace Go.Proofs.Ytmibmjehjagmbaa
set_option linter.unusedSimpArgs false
set_option linter.unusedVariables false
open Go.Proofs.Ytmibmjehjagmbaa RX

def pgW (l : List UInt8) : Pg := ⟨1, l⟩
theorem lastS_full {room : Int} {s : USt} {ps : List Pg} {l : List UInt8} (h : room = ps.length) (s' : USt) : lastS room s ps l s' = (4, s, ps) := if_pos h
theorem lastS_room {room : Int} {s : USt} {ps : List Pg} {l : List UInt8} (h : ¬ room = ps.length) (s' : USt) : lastS room s ps l s' = (0, s', ps ++ [pgW l]) := if_neg h
/-- Write a page and let it last. -/
theorem uLastU_ok (ub bd mc mi : Nat) (room : Int) (ps : List Pg) (C I : HP) (s : USt) (a : Option Addr) (n c : Nat) (l : List UInt8) (S : HP) (hr : RdL S a n (l.map u8v)) (hl : l.length = n) (hb : n ≤ 140737488355328) :
    Tri Try.prog 75 #[.pointer (some ⟨ub, 0, none⟩), .slice a n c] (HP.sep (UOne ub bd mc mi s) (HP.sep (DRep bd room ps ps.length) (HP.sep C (HP.sep I S))))
    (fun v => HP.ex fun b : Bool => HP.and (v = .int .i64 (if b then 4 else 0) ∧ (b = true ↔ room = ps.length)) (HP.sep (UOne ub bd mc mi s) (HP.sep (DRep bd room (if b then ps else ps ++ [pgW l]) (if b then ps else ps ++ [pgW l]).length) (HP.sep C (HP.sep I S))))) := by
  refine (uLast_ok ub bd mc mi room ps ps.length C I s a n c l S hr hl hb).weak (fun _ _ h => h) ?_
  rintro v R h ⟨rfl, H⟩
  rw [putPg_last] at H
  by_cases hf : room = ps.length
  · have e1 : putPg room ps ⟨1, l⟩ = (4, ps) := if_pos hf
    rw [e1] at H ⊢
    exact ⟨true, ⟨rfl, fun _ => hf, fun _ => rfl⟩, H⟩
  · have e1 : putPg room ps ⟨1, l⟩ = (0, ps ++ [pgW l]) := if_neg hf
    rw [e1] at H ⊢
    exact ⟨false, ⟨rfl, fun h => (by cases h), fun h => absurd h hf⟩, H⟩
theorem UD.ofH {ub bd mc mi : Nat} {room : Int} {s : USt} {ps : List Pg} {lc : AL Int} {cc : Nat} {li : AL Int} {ci : Nat} {R h : PH} (H : (HP.sep (UOne ub bd mc mi s) (HP.sep (DRep bd room ps ps.length) (HP.sep (MapH CellV iE mc s.cells lc cc) (MapH InstV iE mi s.inst li ci)))).p R h) : (UD ub bd room s ps).p R h := URep.ofH H
def sealS (room : Int) (s : USt) (ps : List Pg) (epoch : Int) : Int × USt × List Pg :=
  if epoch ≤ s.epoch then (8, s, ps) else if 2147483647 < epoch then (1, s, ps) else lastS room s ps (pageL 4 [epoch]) { s with epoch := epoch }
theorem uSeal_ok (ub bd : Nat) (room : Int) (s : USt) (ps : List Pg) (epoch : Int) :
    Tri Try.prog 65 #[.pointer (some ⟨ub, 0, none⟩), .int .i64 epoch] (UD ub bd room s ps)
    (fun v => HP.and (v = .int .i64 (sealS room s ps epoch).1) (UD ub bd room (sealS room s ps epoch).2.1 (sealS room s ps epoch).2.2)) := by
  refine URep.tri fun mc mi lc cc li ci => ?_
  refine tri_of_tree (ρ := [.n ub, .n bd, .p (DRep bd room ps ps.length), .i s.epoch, .i s.low, .i s.top, .n mc, .p (MapH CellV iE mc s.cells lc cc), .n mi, .p (MapH InstV iE mi s.inst li ci), .i epoch]) mixed Try.func65 tree_uSeal ?_
  unfold t_uSeal
  simp only [T.den, E.prop, E.den, RX.look, F1.app, F2.app, Uni.int_i, Uni.nat_n, Uni.bool_c, Uni.str_s, Uni.adr_a, Uni.val_v, Uni.hp_p, hden, cden, V.den, W.den, A.den, BR.den, SA.den, FV.den, capV, exs, exP, allP, Cur.app, List.map_cons, List.map_nil, List.cons_append, List.nil_append, List.drop_succ_cons, List.drop_zero, List.length_cons, List.length_nil, Nat.zero_add, Nat.reduceAdd, Int.neg_neg, Bool.not_not, List.append_nil, Nat.add_zero, List.getElem?_cons_zero, List.getElem?_cons_succ, Decidable.not_not]
  refine ⟨fun h1 => .of fun R h H => ?_, fun h1 => ⟨fun h2 => .of fun R h H => ?_, fun h2 y => ?_⟩⟩
  · have e : sealS room s ps epoch = (8, s, ps) := if_pos h1
    rw [e]; exact ⟨rfl, UD.ofH H⟩
  · have e : sealS room s ps epoch = (1, s, ps) := by unfold sealS; rw [if_neg h1, if_pos h2]
    rw [e]; exact ⟨rfl, UD.ofH H⟩
  · have e : sealS room s ps epoch = lastS room s ps (pageL 4 [epoch]) { s with epoch := epoch } := by unfold sealS; rw [if_neg h1, if_neg h2]
    rw [e]
    refine (upage_ok 4 (some ⟨y, 0, none⟩) 1 1 [epoch] _ (one_rd y #[.int .i64 epoch] _) rfl (fun _ => rfl) (by omega)).weak (fun _ _ h => h) ?_
    rintro v R h ⟨b, rfl, H⟩
    refine ⟨b, WRep b (pageL 4 [epoch]), epoch, rfl, ?_, HP.sep_comm H⟩
    refine (wOut_ok b (pageL 4 [epoch]) (by rw [pageL_len]; simp)).weak (fun _ _ h => h) ?_
    rintro v R h ⟨a', c', rfl, H⟩
    refine ⟨a', _, c', OwB a' (pageL 4 [epoch]).length c' (pageL 4 [epoch]), _, rfl, ?_, HP.sep_comm H⟩
    refine (uLastU_ok ub bd mc mi room ps _ _ s a' _ c' (pageL 4 [epoch]) _ (RdL.ow _ 1 _ _ _ _) rfl (by rw [pageL_len]; simp)).weak (fun _ _ h => h) ?_
    rintro v R h ⟨full, ⟨rfl, hf⟩, H⟩
    cases full with
    | true =>
      rw [lastS_full (hf.1 rfl)]
      exact ⟨4, bd, DRep bd room ps ps.length, s.epoch, s.low, s.top, mc, MapH CellV iE mc s.cells lc cc, mi, MapH InstV iE mi s.inst li ci, _, rfl, ⟨fun _ => .of fun R h H => ⟨rfl, UD.ofH H⟩, fun h => absurd h (by decide)⟩, H⟩
    | false =>
      rw [lastS_room (fun h => by have := hf.2 h; cases this)]
      refine ⟨0, bd, DRep bd room (ps ++ [pgW (pageL 4 [epoch])]) (ps ++ [pgW (pageL 4 [epoch])]).length, s.epoch, s.low, s.top, mc, MapH CellV iE mc s.cells lc cc, mi, MapH InstV iE mi s.inst li ci, OwB a' (pageL 4 [epoch]).length c' (pageL 4 [epoch]), rfl, ⟨fun h => absurd rfl h, fun _ => .of fun R h H => ⟨rfl, ?_⟩⟩, H⟩
      exact UD.ofH (s := { s with epoch := epoch }) H
def zC : CellS := ⟨0, []⟩
def putS (s : USt) (at' : Int) (x : CellS) : USt := { s with cells := fput s.cells at' (some x), top := max s.top (at' + 1) }
/-- What Write tells, and what is there then. -/
def writeS (room : Int) (s : USt) (ps : List Pg) (epoch at' : Int) (x : CellS) : CellS × Int × USt × List Pg :=
  if reachE s epoch at' ≠ 0 then (zC, reachE s epoch at', s, ps)
  else if standB x.what x.data.length = false then (zC, 1, s, ps)
  else if at' < s.low then (zC, 11, s, ps)
  else match s.cells at' with
    | some y => (y, 10, s, ps)
    | none => (zC, lastS room s ps (cellL at' x) (putS s at' x))
theorem reach0 {s : USt} {epoch at' : Int} (h : reachE s epoch at' = 0) : epoch = s.epoch ∧ addrOk at' = true := by
  unfold reachE at h
  split at h
  · rename_i he
    split at h
    · rename_i ha; exact ⟨he, ha⟩
    · cases h
  · cases h
theorem UD.ofS {ub bd mc mi : Nat} {room : Int} {s : USt} {ps : List Pg} {lc : AL Int} {cc : Nat} {li : AL Int} {ci : Nat} {S : HP} {R h : PH} (H : (HP.sep (UOne ub bd mc mi s) (HP.sep (DRep bd room ps ps.length) (HP.sep (MapH CellV iE mc s.cells lc cc) (HP.sep (MapH InstV iE mi s.inst li ci) S)))).p R h) : (HP.sep (UD ub bd room s ps) S).p R h :=
  URep.ofS (HP.sep_mono H (fun _ h => h) fun y hy => HP.sep_mono hy (fun _ h => h) fun z hz => HP.sep_mono hz (fun q hq => ⟨_, _, hq⟩) fun u hu => HP.sep_mono hu (fun q hq => ⟨_, _, hq⟩) fun _ h => h)
theorem uWrite_ok (ub bd : Nat) (room : Int) (s : USt) (ps : List Pg) (epoch at' what : Int) (a : Option Addr) (n c : Nat) (d : List UInt8) (S : HP) (hr : RdL S a n (d.map u8v)) (hl : d.length = n) (ha : n ≠ 0 → a.isSome = true) :
    Tri Try.prog 57 #[.pointer (some ⟨ub, 0, none⟩), .int .i64 epoch, .int .i64 at', .agg #[.int .i64 what, .slice a n c]] (HP.sep (UD ub bd room s ps) S)
    (fun v => HP.ex fun a' => HP.ex fun c' => HP.and (v = .tuple #[.agg #[.int .i64 (writeS room s ps epoch at' ⟨what, d⟩).1.what, .slice a' (writeS room s ps epoch at' ⟨what, d⟩).1.data.length c'], .int .i64 (writeS room s ps epoch at' ⟨what, d⟩).2.1])
      (HP.sep (RoB a' (writeS room s ps epoch at' ⟨what, d⟩).1.data.length (writeS room s ps epoch at' ⟨what, d⟩).1.data) (HP.sep (UD ub bd room (writeS room s ps epoch at' ⟨what, d⟩).2.2.1 (writeS room s ps epoch at' ⟨what, d⟩).2.2.2) S))) := by
  refine URep.triS fun mc mi lc cc li ci => ?_
  refine tri_of_tree (ρ := [.n ub, .n bd, .p (DRep bd room ps ps.length), .i s.epoch, .i s.low, .i s.top, .n mc, .p (MapH CellV iE mc s.cells lc cc), .n mi, .p (MapH InstV iE mi s.inst li ci), .i epoch, .i at', .i what, .a a, .n n, .n c, .p S]) mixed Try.func57 tree_uWrite ?_
  unfold t_uWrite
  simp only [T.den, E.prop, E.den, RX.look, F1.app, F2.app, Uni.int_i, Uni.nat_n, Uni.bool_c, Uni.str_s, Uni.adr_a, Uni.val_v, Uni.hp_p, hden, cden, V.den, W.den, A.den, BR.den, SA.den, FV.den, capV, exs, exP, allP, Cur.app, List.map_cons, List.map_nil, List.cons_append, List.nil_append, List.drop_succ_cons, List.drop_zero, List.length_cons, List.length_nil, Nat.zero_add, Nat.reduceAdd, Int.neg_neg, Bool.not_not, List.append_nil, Nat.add_zero, List.getElem?_cons_zero, List.getElem?_cons_succ, Decidable.not_not]
  intro x y
  refine (uReachRaw_ok ub bd mc mi _ _ _ s epoch at').weak (fun _ _ h => h) ?_
  rintro v R h ⟨rfl, H⟩
  refine ⟨_, rfl, ⟨fun h1 => .of fun R h H => ?_, fun h1 => ?_⟩, H⟩
  · have e : writeS room s ps epoch at' ⟨what, d⟩ = (zC, reachE s epoch at', s, ps) := if_pos h1
    rw [e]; exact ⟨none, 0, rfl, RoC.join (RoC.nil _ _ R h) (UD.ofS H)⟩
  have hat := (reach0 h1).2
  refine (ustand_ok what a n c S).weak (fun _ _ h => h) ?_
  rintro v R h ⟨rfl, H⟩
  refine ⟨_, rfl, ⟨fun h2 => .of fun R h H => ?_, fun h2 => ⟨fun h3 => .of fun R h H => ?_, fun h3 => ?_⟩⟩, H⟩
  · have e : writeS room s ps epoch at' ⟨what, d⟩ = (zC, 1, s, ps) := by unfold writeS; rw [if_neg (by simpa using h1), if_pos (by simp only [hl]; simpa using h2)]
    rw [e]; exact ⟨none, 0, rfl, RoC.join (RoC.nil _ _ R h) (UD.ofS H)⟩
  · have e : writeS room s ps epoch at' ⟨what, d⟩ = (zC, 11, s, ps) := by unfold writeS; rw [if_neg (by simpa using h1), if_neg (by simp only [hl]; simpa using h2), if_pos h3]
    rw [e]; exact ⟨none, 0, rfl, RoC.join (RoC.nil _ _ R h) (UD.ofS H)⟩
  have hn : n ≤ 65536 := by
    simp only [standB] at h2
    split at h2
    · simp at h2; omega
    · split at h2
      · simp at h2; omega
      · simp at h2
  clear H
  refine (uCell_ok ub bd mc mi _ (MapH InstV iE mi s.inst li ci) s lc cc at').weak (fun _ _ h => h) ?_
  rintro v R h ⟨a', c', rfl, H⟩
  refine ⟨_, a', _, c', RoB a' ((s.cells at').getD ⟨0, []⟩).data.length ((s.cells at').getD ⟨0, []⟩).data, _, rfl, fun z => ⟨fun hyes => .of fun R h H => ?_, fun hno => ?_⟩, H⟩
  · obtain ⟨u, hu⟩ := Option.isSome_iff_exists.1 hyes
    have e : writeS room s ps epoch at' ⟨what, d⟩ = (u, 10, s, ps) := by unfold writeS; rw [if_neg (by simpa using h1), if_neg (by simp only [hl]; simpa using h2), if_neg h3, hu]
    rw [e]
    rw [hu] at H ⊢
    have hro := HP.sep_right (HP.sep_right (HP.sep_right (HP.sep_right (HP.sep_right H))))
    exact ⟨a', c', rfl, RoC.join hro (UD.ofS (HP.sep_mono H (fun _ h => h) fun y hy => HP.sep_mono hy (fun _ h => h) fun z hz => HP.sep_mono hz (fun _ h => h) fun u hu => HP.sep_mono hu (fun _ h => h) fun q hq => HP.sep_left hq))⟩
  · have hc : s.cells at' = none := by simpa using hno
    have e : writeS room s ps epoch at' ⟨what, d⟩ = (zC, lastS room s ps (cellL at' ⟨what, d⟩) (putS s at' ⟨what, d⟩)) := by unfold writeS; rw [if_neg (by simpa using h1), if_neg (by simp only [hl]; simpa using h2), if_neg h3, hc]
    rw [e]
    clear H
    refine (ucellPage_ok at' what a n c d S hr hl (by omega) ha).weak (fun _ _ h => h) ?_
    rintro v R h ⟨pa, pc, rfl, H⟩
    refine ⟨pa, _, pc, OwB pa (cellL at' ⟨what, d⟩).length pc (cellL at' ⟨what, d⟩), S, rfl, ?_, HP.sep_comm H⟩
    have hcl : (cellL at' ⟨what, d⟩).length ≤ 140737488355328 := by
      unfold cellL; split
      · rw [pageL_len]; simp
      · rw [List.length_append, List.length_append, pageL_len, beN_len]; simp; omega
    refine (uLastU_ok ub bd mc mi room ps _ _ s pa _ pc (cellL at' ⟨what, d⟩) _ (RdL.ow _ 1 _ _ _ _) rfl hcl).weak (fun _ _ h => h) ?_
    rintro v R h ⟨full, ⟨rfl, hf⟩, H⟩
    cases full with
    | true =>
      rw [lastS_full (hf.1 rfl)]
      exact ⟨4, bd, DRep bd room ps ps.length, s.epoch, s.low, s.top, mc, MapH CellV iE mc s.cells lc cc, mi, MapH InstV iE mi s.inst li ci, _, rfl, ⟨fun _ => .of fun R h H => ⟨none, 0, rfl, RoC.join (RoC.nil _ _ R h) (UD.ofS H)⟩, fun h => absurd h (by decide)⟩, H⟩
    | false =>
      rw [lastS_room (fun h => by have := hf.2 h; cases this)]
      refine ⟨0, bd, DRep bd room (ps ++ [pgW (cellL at' ⟨what, d⟩)]) (ps ++ [pgW (cellL at' ⟨what, d⟩)]).length, s.epoch, s.low, s.top, mc, MapH CellV iE mc s.cells lc cc, mi, MapH InstV iE mi s.inst li ci, OwB pa (cellL at' ⟨what, d⟩).length pc (cellL at' ⟨what, d⟩), rfl, ⟨fun h => absurd rfl h, fun _ => ?_⟩, H⟩
      refine (uPut_ok ub bd mc mi _ (MapH InstV iE mi s.inst li ci) s lc cc at' what a n c d S hr hl (by omega) hat).weak (fun _ _ h => h) ?_
      rintro v R h ⟨rfl, H⟩
      refine ⟨bd, DRep bd room (ps ++ [pgW (cellL at' ⟨what, d⟩)]) (ps ++ [pgW (cellL at' ⟨what, d⟩)]).length, s.epoch, s.low, max s.top (at' + 1), mc, MapE CellV iE mc (fput s.cells at' (some ⟨what, d⟩)), mi, MapH InstV iE mi s.inst li ci, S, rfl, .of fun R h H => ⟨none, 0, rfl, RoC.join (RoC.nil _ _ R h) ?_⟩, H⟩
      exact URep.ofS (s := putS s at' ⟨what, d⟩) (mc := mc) (mi := mi) (HP.sep_mono H (fun _ h => h) fun y hy => HP.sep_mono hy (fun _ h => h) fun z hz => HP.sep_mono hz (fun _ h => h) fun u hu => HP.sep_mono hu (fun q hq => ⟨_, _, hq⟩) fun _ h => h)
end Go.Proofs.Ytmibmjehjagmbaa

/- Contracts of the unit: Accept and Promise. No condition. -/
namespace Go.Proofs.Ytmibmjehjagmbaa
set_option linter.unusedSimpArgs false
set_option linter.unusedVariables false
open Go.Proofs.Ytmibmjehjagmbaa RX

theorem OTri.ofRead {P : Program} {s : Sem Next} {A : HP} {B : Value → HP} {v : Value} (r : ORead P s A v) (post : ∀ R h, A.p R h → (B v).p R h) : OTri P s A B := fun w R h F st a => ⟨.value v, v, w, r w R h F st a, rfl, Same.refl w, R, h, PH.le.refl _, st, post R h a⟩
def neqS (t : TypeId) (u v : Value) : Sem Next := do pure (.value (← binOp .neq t u v))
theorem part1 {w : World} {t : TypeId} (ht : Try.prog.underlying t = some (.int .i64)) (cs : Array Value) (off : Nat) (v : Value) (h : cs[off]? = some v) : (part t cs off).run Try.prog w = .ok v w := by
  have ha : aggT Try.prog t = false := by unfold aggT; rw [ht]
  simp only [part, Sem.run_bind, RX.run_isAgg ht, Result.andThen_ok, ha, Bool.false_eq_true, if_false, h]
  rfl
theorem run_equal_int {w : World} {t : TypeId} (ht : Try.prog.underlying t = some (.int .i64)) (n : Nat) (a b : Int) : (Op.equalIn (n + 1) t (.int .i64 a) (.int .i64 b)).run Try.prog w = .ok (decide (a = b)) w := by
  simp only [Op.equalIn, Sem.run_bind, RX.run_underlying ht, Result.andThen_ok, if_true, Sem.run_pure]
  rfl
theorem run_ballot_eq {w : World} (r q r' q' : Int) : (Op.equal 34 (.agg #[.int .i64 r, .int .i64 q]) (.agg #[.int .i64 r', .int .i64 q'])).run Try.prog w = .ok (decide (r = r') && decide (q = q')) w := by
  have hs : Try.prog.stoodInHeld 34 = false := by kernel_rfl
  have hi : Try.prog.underlying 3 = some (.int .i64) := by kernel_rfl
  have e2 : ∀ n, (Op.equalIn (n + 2) 34 (.agg #[.int .i64 r, .int .i64 q]) (.agg #[.int .i64 r', .int .i64 q'])).run Try.prog w = .ok (decide (r = r') && decide (q = q')) w := fun n => by
    rw [Op.equalIn]
    simp only [Sem.run_bind, RX.run_underlying Try.underlying34, Result.andThen_ok]
    simp [program, Sem.run, hs, Result.andThen]
    have p0 : ∀ a b : Int, Sem.run Try.prog (part 3 #[Value.int IntKind.i64 a, Value.int IntKind.i64 b] 0) w = .ok (.int .i64 a) w := fun a b => part1 hi _ _ _ rfl
    have p1 : ∀ a b : Int, Sem.run Try.prog (part 3 #[Value.int IntKind.i64 a, Value.int IntKind.i64 b] 1) w = .ok (.int .i64 b) w := fun a b => part1 hi _ _ _ rfl
    simp only [p0, run_equal_int hi]
    by_cases h1 : r = r'
    · simp [h1, Sem.run_bind, p1, run_equal_int hi]
      by_cases h2 : q = q'
      · simp [h2]
      · simp [h2]
    · simp [h1]
  exact e2 9998
theorem semOf_neqB {ρ : Env} {i j : Nat} {ty u : TypeId} {x y : V} (h : i ≠ j) {r q r' q' : Int} (hx : x.den ρ = .agg #[.int .i64 r, .int .i64 q]) (hy : y.den ρ = .agg #[.int .i64 r', .int .i64 q']) {A : HP} :
    ORead Try.prog (semOf ρ (.binOp .neq 34 (.tmp i) (.tmp j) u) ty [(i, x), (j, y)]) A (.bool (!(decide (r = r') && decide (q = q')))) := fun w R hh F s _ => by
  have h' : (i == j) = false := by simpa using h
  have hg : Try.prog.eqGuardType Try.prog.depth 34 = false := by kernel_rfl
  simp only [semOf, execOp, arEval, List.find?_cons, beq_self_eq_true, h', hx, hy]
  simp [eqGuard, binOp, hg, program, Sem.run_bind, Sem.run, Result.andThen, run_ballot_eq]
def acceptS (room : Int) (s : USt) (ps : List Pg) (n r w : Int) (l : List UInt8) : Int × USt × List Pg :=
  if propOk n r w = false then (1, s, ps)
  else if 1000 < l.length then (1, s, ps)
  else if lessB r w (instAt s n).pr (instAt s n).pw = true then (7, s, ps)
  else lastS room s ps (pageL 6 [n, r, w] ++ beN l.length 4 ++ l) (accS s n r w l)
set_option maxRecDepth 100000 in
theorem uAccept_ok (ub bd : Nat) (room : Int) (s : USt) (ps : List Pg) (n r w : Int) (a : Option Addr) (k c : Nat) (l : List UInt8) (S : HP) (hr : RdL S a k (l.map u8v)) (hl : l.length = k) (ha : k ≠ 0 → a.isSome = true) :
    Tri Try.prog 29 #[.pointer (some ⟨ub, 0, none⟩), .int .i64 n, .agg #[.int .i64 r, .int .i64 w], .slice a k c] (HP.sep (UD ub bd room s ps) S)
    (fun v => HP.and (v = .int .i64 (acceptS room s ps n r w l).1) (HP.sep (UD ub bd room (acceptS room s ps n r w l).2.1 (acceptS room s ps n r w l).2.2) S)) := by
  refine URep.triS fun mc mi lc cc li ci => ?_
  refine Tri.fact (fun R h H => inst_look mi s li ci n (HP.sep_left (HP.sep_right (HP.sep_right (HP.sep_right H))))) ?_
  rintro ⟨va, vc, hval, hb, hro⟩
  refine tri_of_tree (ρ := [.n ub, .n bd, .p (DRep bd room ps ps.length), .i s.epoch, .i s.low, .i s.top, .n mc, .p (MapH CellV iE mc s.cells lc cc), .n mi, .p (MapH InstV iE mi s.inst li ci), .i n, .i r, .i w, .a a, .n k, .n c, .p S]) mixed Try.func29 tree_uAccept ?_
  unfold t_uAccept
  simp only [T.den, E.prop, E.den, RX.look, F1.app, F2.app, Uni.int_i, Uni.nat_n, Uni.bool_c, Uni.str_s, Uni.adr_a, Uni.val_v, Uni.hp_p, hden, cden, V.den, W.den, A.den, BR.den, SA.den, FV.den, capV, exs, exP, allP, Cur.app, List.map_cons, List.map_nil, List.cons_append, List.nil_append, List.drop_succ_cons, List.drop_zero, List.length_cons, List.length_nil, Nat.zero_add, Nat.reduceAdd, Int.neg_neg, Bool.not_not, List.append_nil, Nat.add_zero, List.getElem?_cons_zero, List.getElem?_cons_succ, Decidable.not_not]
  intro x
  refine (uprop_ok n r w).weak (fun _ _ h => h) ?_
  rintro v R h ⟨rfl, H⟩
  refine ⟨_, rfl, ⟨fun h1 => .of fun R h H => ?_, fun h1 => ⟨fun h2 => .of fun R h H => ?_, fun h2 => ?_⟩⟩, H⟩
  · have e : acceptS room s ps n r w l = (1, s, ps) := if_pos (by simpa using h1)
    rw [e]; exact ⟨rfl, UD.ofS H⟩
  · have e : acceptS room s ps n r w l = (1, s, ps) := by unfold acceptS; rw [if_neg (by simpa using h1), if_pos (by omega)]
    rw [e]; exact ⟨rfl, UD.ofS H⟩
  obtain ⟨i, hi, z1, _⟩ := info_parts infoI
  have hlook := look_ok (r := mi) (l := li) (c := ci) iK undMi hi z1 n false (A := MapH InstV iE mi s.inst li ci) (fun R h H => MapH.at H)
  rw [if_neg (by decide), hval] at hlook
  refine ⟨_, _, _, _, _, _, _, hlook, ?_⟩
  refine (uless_ok r w (instAt s n).pr (instAt s n).pw).weak (fun _ _ h => h) ?_
  rintro v R h ⟨rfl, H⟩
  refine ⟨_, rfl, ⟨fun h3 => .of fun R h H => ?_, fun h3 y => ?_⟩, H⟩
  · have e : acceptS room s ps n r w l = (7, s, ps) := by unfold acceptS; rw [if_neg (by simpa using h1), if_neg (by omega), if_pos h3]
    rw [e]; exact ⟨rfl, UD.ofS H⟩
  have e : acceptS room s ps n r w l = lastS room s ps (pageL 6 [n, r, w] ++ beN l.length 4 ++ l) (accS s n r w l) := by unfold acceptS; rw [if_neg (by simpa using h1), if_neg (by omega), if_neg h3]
  rw [e]
  clear H
  refine (upage_ok 6 (some ⟨y, 0, none⟩) 3 3 [n, r, w] _ (one_rd y #[.int .i64 n, .int .i64 r, .int .i64 w] _) rfl (fun _ => rfl) (by omega)).weak (fun _ _ h => h) ?_
  rintro v R h ⟨b, rfl, H⟩
  refine ⟨b, WRep b (pageL 6 [n, r, w]), n, r, w, rfl, ?_, HP.sep_comm H⟩
  refine (wBytes_ok b (pageL 6 [n, r, w]) a k c l S hr hl ha (by rw [pageL_len]; simp only [List.length_cons, List.length_nil]; omega)).weak (fun _ _ h => h) ?_
  rintro v R h ⟨rfl, H⟩
  refine ⟨WRep b (pageL 6 [n, r, w] ++ beN k 4 ++ l), S, rfl, ?_, H⟩
  have hlen : (pageL 6 [n, r, w] ++ beN k 4 ++ l).length ≤ 140737488355328 := by
    rw [List.length_append, List.length_append, pageL_len, beN_len]; simp; omega
  refine (wOut_ok b _ (by rw [List.length_append, List.length_append, pageL_len, beN_len]; simp only [List.length_cons, List.length_nil]; omega)).weak (fun _ _ h => h) ?_
  rintro v R h ⟨pa, pc, rfl, H⟩
  refine ⟨pa, _, pc, OwB pa (pageL 6 [n, r, w] ++ beN k 4 ++ l).length pc (pageL 6 [n, r, w] ++ beN k 4 ++ l), _, rfl, ?_, HP.sep_comm H⟩
  rw [hl]
  refine (uLastU_ok ub bd mc mi room ps _ _ s pa _ pc (pageL 6 [n, r, w] ++ beN k 4 ++ l) _ (RdL.ow _ 1 _ _ _ _) rfl hlen).weak (fun _ _ h => h) ?_
  rintro v R h ⟨full, ⟨rfl, hf⟩, H⟩
  cases full with
  | true =>
    rw [lastS_full (hf.1 rfl)]
    exact ⟨4, bd, DRep bd room ps ps.length, s.epoch, s.low, s.top, mc, MapH CellV iE mc s.cells lc cc, mi, MapH InstV iE mi s.inst li ci, _, rfl, ⟨fun _ => .of fun R h H => ⟨rfl, UD.ofS H⟩, fun h => absurd h (by decide)⟩, H⟩
  | false =>
    rw [lastS_room (fun h => by have := hf.2 h; cases this)]
    refine ⟨0, bd, DRep bd room (ps ++ [pgW (pageL 6 [n, r, w] ++ beN k 4 ++ l)]) (ps ++ [pgW (pageL 6 [n, r, w] ++ beN k 4 ++ l)]).length, s.epoch, s.low, s.top, mc, MapH CellV iE mc s.cells lc cc, mi, MapH InstV iE mi s.inst li ci, OwB pa (pageL 6 [n, r, w] ++ beN k 4 ++ l).length pc (pageL 6 [n, r, w] ++ beN k 4 ++ l), rfl, ⟨fun h => absurd rfl h, fun _ => ?_⟩, H⟩
    refine (uAcc_ok ub bd mc mi _ (MapH CellV iE mc s.cells lc cc) s li ci n r w a k c l S hr hl (by omega)).weak (fun _ _ h => h) ?_
    rintro v R h ⟨rfl, H⟩
    refine ⟨bd, DRep bd room (ps ++ [pgW (pageL 6 [n, r, w] ++ beN k 4 ++ l)]) (ps ++ [pgW (pageL 6 [n, r, w] ++ beN k 4 ++ l)]).length, s.epoch, s.low, s.top, mc, MapH CellV iE mc s.cells lc cc, mi, MapE InstV iE mi (accS s n r w l).inst, S, rfl, .of fun R h H => ⟨rfl, ?_⟩, H⟩
    exact URep.ofS (s := accS s n r w l) (mc := mc) (mi := mi) (HP.sep_mono H (fun _ h => h) fun y hy => HP.sep_mono hy (fun _ h => h) fun z hz => HP.sep_mono hz (fun q hq => ⟨_, _, hq⟩) fun _ h => h)
/-- What Promise tells: the accepted ballot, the value, the error; and what is there then. -/
def promiseS (room : Int) (s : USt) (ps : List Pg) (n r w : Int) : Int × Int × List UInt8 × Int × USt × List Pg :=
  if propOk n r w = false then (0, 0, [], 1, s, ps)
  else if lessB r w (instAt s n).pr (instAt s n).pw = true then (0, 0, [], 7, s, ps)
  else if r = (instAt s n).pr ∧ w = (instAt s n).pw then ((instAt s n).ar, (instAt s n).aw, (instAt s n).val, 0, s, ps)
  else if room = ps.length then (0, 0, [], 4, s, ps)
  else ((instAt s n).ar, (instAt s n).aw, (instAt s n).val, 0, promS s n r w, ps ++ [pgW (pageL 5 [n, r, w])])
set_option maxRecDepth 100000 in
theorem uPromise_ok (ub bd : Nat) (room : Int) (s : USt) (ps : List Pg) (n r w : Int) :
    Tri Try.prog 26 #[.pointer (some ⟨ub, 0, none⟩), .int .i64 n, .agg #[.int .i64 r, .int .i64 w]] (UD ub bd room s ps)
    (fun v => HP.ex fun a => HP.ex fun c => HP.and (v = .tuple #[.agg #[.int .i64 (promiseS room s ps n r w).1, .int .i64 (promiseS room s ps n r w).2.1], .slice a (promiseS room s ps n r w).2.2.1.length c, .int .i64 (promiseS room s ps n r w).2.2.2.1])
      (HP.sep (UD ub bd room (promiseS room s ps n r w).2.2.2.2.1 (promiseS room s ps n r w).2.2.2.2.2) (RoB a (promiseS room s ps n r w).2.2.1.length (promiseS room s ps n r w).2.2.1))) := by
  refine URep.tri fun mc mi lc cc li ci => ?_
  refine Tri.fact (fun R h H => inst_look mi s li ci n (HP.sep_right (HP.sep_right (HP.sep_right H)))) ?_
  rintro ⟨va, vc, hval, hb, hro⟩
  refine tri_of_tree (ρ := [.n ub, .n bd, .p (DRep bd room ps ps.length), .i s.epoch, .i s.low, .i s.top, .n mc, .p (MapH CellV iE mc s.cells lc cc), .n mi, .p (MapH InstV iE mi s.inst li ci), .i n, .i r, .i w]) mixed Try.func26 tree_uPromise ?_
  unfold t_uPromise
  simp only [T.den, E.prop, E.den, RX.look, F1.app, F2.app, Uni.int_i, Uni.nat_n, Uni.bool_c, Uni.str_s, Uni.adr_a, Uni.val_v, Uni.hp_p, hden, cden, V.den, W.den, A.den, BR.den, SA.den, FV.den, capV, exs, exP, allP, Cur.app, List.map_cons, List.map_nil, List.cons_append, List.nil_append, List.drop_succ_cons, List.drop_zero, List.length_cons, List.length_nil, Nat.zero_add, Nat.reduceAdd, Int.neg_neg, Bool.not_not, List.append_nil, Nat.add_zero, List.getElem?_cons_zero, List.getElem?_cons_succ, Decidable.not_not]
  intro x y
  refine (uprop_ok n r w).weak (fun _ _ h => h) ?_
  rintro v R h ⟨rfl, H⟩
  refine ⟨_, rfl, ⟨fun h1 => .of fun R h H => ?_, fun h1 => ?_⟩, H⟩
  · have e : promiseS room s ps n r w = (0, 0, [], 1, s, ps) := if_pos (by simpa using h1)
    rw [e]; exact ⟨none, 0, rfl, RoC.joinR (RoC.nil _ _ R h) (UD.ofH H)⟩
  obtain ⟨i, hi, z1, _⟩ := info_parts infoI
  have hlook := look_ok (r := mi) (l := li) (c := ci) iK undMi hi z1 n false (A := MapH InstV iE mi s.inst li ci) (fun R h H => MapH.at H)
  rw [if_neg (by decide), hval] at hlook
  rw [semOf_lookup (by decide)]
  simp only [T.den, E.prop, E.den, RX.look, F1.app, F2.app, Uni.int_i, Uni.nat_n, Uni.bool_c, Uni.str_s, Uni.adr_a, Uni.val_v, Uni.hp_p, hden, cden, V.den, W.den, A.den, BR.den, SA.den, FV.den, capV, exs, exP, allP, Cur.app, List.map_cons, List.map_nil, List.cons_append, List.nil_append, List.drop_succ_cons, List.drop_zero, List.length_cons, List.length_nil, Nat.zero_add, Nat.reduceAdd, Int.neg_neg, Bool.not_not, List.append_nil, Nat.add_zero, List.getElem?_cons_zero, List.getElem?_cons_succ, Decidable.not_not]
  refine OTri.ofRead hlook fun R h H => ⟨(instAt s n).pr, (instAt s n).pw, (instAt s n).ar, (instAt s n).aw, va, (instAt s n).val.length, vc, RoB va (instAt s n).val.length (instAt s n).val, MapH InstV iE mi s.inst li ci, rfl, fun z => ?_, RoC.join (hro R h H) H⟩
  clear H
  refine (uless_ok r w (instAt s n).pr (instAt s n).pw).weak (fun _ _ h => h) ?_
  rintro v R h ⟨rfl, H⟩
  refine ⟨_, rfl, ⟨fun h3 => .of fun R h H => ?_, fun h3 => ?_⟩, H⟩
  · have e : promiseS room s ps n r w = (0, 0, [], 7, s, ps) := by unfold promiseS; rw [if_neg (by simpa using h1), if_pos h3]
    rw [e]; exact ⟨none, 0, rfl, RoC.joinR (RoC.nil _ _ R h) (UD.ofH H)⟩
  clear H
  refine ⟨_, semOf_neqB (r := r) (q := w) (r' := (instAt s n).pr) (q' := (instAt s n).pw) (by decide) rfl rfl, fun hne => fun y2 => ?_, fun heq => ?_⟩
  · have hne' : ¬ (r = (instAt s n).pr ∧ w = (instAt s n).pw) := by
      simp only [Bool.not_eq_true', Bool.and_eq_false_iff, decide_eq_false_iff_not] at hne
      rintro ⟨h1, h2⟩
      rcases hne with h | h
      · exact h h1
      · exact h h2
    refine (upage_ok 5 (some ⟨y2, 0, none⟩) 3 3 [n, r, w] _ (one_rd y2 #[.int .i64 n, .int .i64 r, .int .i64 w] _) rfl (fun _ => rfl) (by omega)).weak (fun _ _ h => h) ?_
    rintro v R h ⟨b, rfl, H⟩
    refine ⟨b, WRep b (pageL 5 [n, r, w]), n, r, w, rfl, ?_, HP.sep_comm H⟩
    refine (wOut_ok b (pageL 5 [n, r, w]) (by rw [pageL_len]; simp)).weak (fun _ _ h => h) ?_
    rintro v R h ⟨pa, pc, rfl, H⟩
    refine ⟨pa, _, pc, OwB pa (pageL 5 [n, r, w]).length pc (pageL 5 [n, r, w]), _, rfl, ?_, HP.sep_comm H⟩
    refine (uLastU_ok ub bd mc mi room ps _ _ s pa _ pc (pageL 5 [n, r, w]) _ (RdL.ow _ 1 _ _ _ _) rfl (by rw [pageL_len]; simp)).weak (fun _ _ h => h) ?_
    rintro v R h ⟨full, ⟨rfl, hf⟩, H⟩
    cases full with
    | true =>
      have e : promiseS room s ps n r w = (0, 0, [], 4, s, ps) := by unfold promiseS; rw [if_neg (by simpa using h1), if_neg h3, if_neg hne', if_pos (hf.1 rfl)]
      rw [e]
      exact ⟨4, bd, DRep bd room ps ps.length, s.epoch, s.low, s.top, mc, MapH CellV iE mc s.cells lc cc, mi, MapH InstV iE mi s.inst li ci, _, rfl, ⟨fun _ => .of fun R h H => ⟨none, 0, rfl, RoC.joinR (RoC.nil _ _ R h) (UD.ofH H)⟩, fun h => absurd h (by decide)⟩, H⟩
    | false =>
      have e : promiseS room s ps n r w = ((instAt s n).ar, (instAt s n).aw, (instAt s n).val, 0, promS s n r w, ps ++ [pgW (pageL 5 [n, r, w])]) := by unfold promiseS; rw [if_neg (by simpa using h1), if_neg h3, if_neg hne', if_neg (fun h => by have := hf.2 h; cases this)]
      rw [e]
      refine ⟨0, bd, DRep bd room (ps ++ [pgW (pageL 5 [n, r, w])]) (ps ++ [pgW (pageL 5 [n, r, w])]).length, s.epoch, s.low, s.top, mc, MapH CellV iE mc s.cells lc cc, mi, MapH InstV iE mi s.inst li ci, OwB pa (pageL 5 [n, r, w]).length pc (pageL 5 [n, r, w]), rfl, ⟨fun h => absurd rfl h, fun _ => ?_⟩, H⟩
      refine (uProm_ok ub bd mc mi _ (MapH CellV iE mc s.cells lc cc) s li ci n r w).weak (fun _ _ h => h) ?_
      rintro v R h ⟨rfl, H⟩
      refine ⟨bd, DRep bd room (ps ++ [pgW (pageL 5 [n, r, w])]) (ps ++ [pgW (pageL 5 [n, r, w])]).length, s.epoch, s.low, s.top, mc, MapH CellV iE mc s.cells lc cc, mi, MapE InstV iE mi (promS s n r w).inst, rfl, ?_, H⟩
      refine (cloneR_ok (RoB va (instAt s n).val.length (instAt s n).val) va _ vc (instAt s n).val (RdL.ro _ _ _ _) rfl hb).weak (fun _ _ h => h) ?_
      rintro v R h ⟨ca, cc', rfl, H⟩
      refine ⟨ca, _, cc', RoB ca (instAt s n).val.length (instAt s n).val, _, rfl, .of fun R h H => ⟨ca, cc', rfl, ?_⟩, H⟩
      exact URep.ofS (s := promS s n r w) (mc := mc) (mi := mi) (HP.sep_mono H (fun _ h => h) fun y hy => HP.sep_mono hy (fun _ h => h) fun z hz => HP.sep_mono hz (fun q hq => ⟨_, _, hq⟩) fun _ h => h)
  · have heq' : r = (instAt s n).pr ∧ w = (instAt s n).pw := by simpa using heq
    have e : promiseS room s ps n r w = ((instAt s n).ar, (instAt s n).aw, (instAt s n).val, 0, s, ps) := by unfold promiseS; rw [if_neg (by simpa using h1), if_neg h3, if_pos heq']
    rw [e]
    refine (cloneR_ok (HP.sep (RoB va (instAt s n).val.length (instAt s n).val) (MapH InstV iE mi s.inst li ci)) va _ vc (instAt s n).val ⟨(RdL.ro 1 va _ _).rd.left, fun R h H => (RdL.ro 1 va _ _).none R h (HP.sep_left H)⟩ rfl hb).weak (fun _ _ h => h) ?_
    rintro v R h ⟨ca, cc', rfl, H⟩
    refine ⟨ca, _, cc', RoB ca (instAt s n).val.length (instAt s n).val, RoB va (instAt s n).val.length (instAt s n).val, MapH InstV iE mi s.inst li ci, rfl, .of fun R h H => ⟨ca, cc', rfl, UD.ofS H⟩, H⟩
end Go.Proofs.Ytmibmjehjagmbaa

/- Contracts of the unit: Open. No condition. -/
namespace Go.Proofs.Ytmibmjehjagmbaa
set_option linter.unusedSimpArgs false
set_option linter.unusedVariables false
open Go.Proofs.Ytmibmjehjagmbaa RX

def s0 : USt := ⟨0, 0, 0, fun _ => none, fun _ => none⟩
/-- What pages lead to, one behind the other. -/
def foldS (s : USt) : List (List UInt8) → Option USt
  | [] => some s
  | b :: r => match followS s b with
    | some s' => foldS s' r
    | none => none
theorem foldS_app (s : USt) : ∀ (l m : List (List UInt8)), foldS s (l ++ m) = (foldS s l).bind fun s' => foldS s' m
  | [], m => rfl
  | b :: r, m => by
    simp only [List.cons_append, foldS]
    cases followS s b with
    | none => rfl
    | some s' => exact foldS_app s' r m
theorem foldS_step {s s1 : USt} {l : List (List UInt8)} (h : foldS s l = some s1) (k : Nat) (b : List UInt8) (hk : l[k]? = some b) : ∃ s2 s3, foldS s (l.take k) = some s2 ∧ followS s2 b = some s3 ∧ foldS s (l.take (k + 1)) = some s3 := by
  obtain ⟨hlt, rfl⟩ := List.getElem?_eq_some_iff.1 hk
  have e : l = l.take (k + 1) ++ l.drop (k + 1) := (List.take_append_drop _ _).symm
  rw [e, foldS_app] at h
  cases h1 : foldS s (l.take (k + 1)) with
  | none => rw [h1] at h; cases h
  | some s3 =>
    have h1' := h1
    rw [List.take_succ_eq_append_getElem hlt, foldS_app] at h1'
    cases h2 : foldS s (l.take k) with
    | none => rw [h2] at h1'; cases h1'
    | some s2 =>
      rw [h2] at h1'
      simp only [Option.bind_some, foldS] at h1'
      split at h1'
      · rename_i s' hs; cases h1'; exact ⟨s2, s3, rfl, hs, rfl⟩
      · cases h1'
theorem triM {f : FuncId} {args : Array Value} {ub bd mc mi : Nat} {D S : HP} {s : USt} {B : Value → HP}
    (t : ∀ lc cc li ci, Tri Try.prog f args (HP.sep (UOne ub bd mc mi s) (HP.sep D (HP.sep (MapH CellV iE mc s.cells lc cc) (HP.sep (MapH InstV iE mi s.inst li ci) S)))) B) : Tri Try.prog f args (HP.sep (UOne ub bd mc mi s) (HP.sep D (HP.sep (MapE CellV iE mc s.cells) (HP.sep (MapE InstV iE mi s.inst) S)))) B := by
  refine (Tri.ex (A := fun lc => HP.ex fun cc => HP.ex fun li => HP.ex fun ci => HP.sep (UOne ub bd mc mi s) (HP.sep D (HP.sep (MapH CellV iE mc s.cells lc cc) (HP.sep (MapH InstV iE mi s.inst li ci) S)))) fun lc => Tri.ex fun cc => Tri.ex fun li => Tri.ex fun ci => t lc cc li ci).weak ?_ fun _ _ _ h => h
  rintro R h ⟨h1, h2, d, l1, l2, H1, h3, h4, d2, l3, l4, H2, h5, h6, d3, l5, l6, ⟨lc, cc, H3⟩, h7, h8, d4, l7, l8, ⟨li, ci, H4⟩, H5⟩
  exact ⟨lc, cc, li, ci, h1, h2, d, l1, l2, H1, h3, h4, d2, l3, l4, H2, h5, h6, d3, l5, l6, H3, h7, h8, d4, l7, l8, H4, H5⟩
theorem uOpen_ok (bd : Nat) (room : Int) (ps : List Pg) (lasts : Nat) (s1 : USt) (hs : foldS s0 (wholes ps) = some s1) :
    Tri Try.prog 17 #[.pointer (some ⟨bd, 0, none⟩)] (DRep bd room ps lasts)
    (fun v => HP.ex fun ub => HP.and (v = .tuple #[.pointer (some ⟨ub, 0, none⟩), .int .i64 0]) (URep ub bd (DRep bd room ps lasts) (forgS s1))) := by
  refine tri_of_tree (ρ := [.n bd, .p (DRep bd room ps lasts)]) mixed Try.func17 tree_uOpen ?_
  unfold t_uOpen
  simp only [T.den, E.prop, E.den, RX.look, F1.app, F2.app, Uni.int_i, Uni.nat_n, Uni.bool_c, Uni.str_s, Uni.adr_a, Uni.val_v, Uni.hp_p, hden, cden, V.den, W.den, A.den, BR.den, SA.den, FV.den, capV, exs, exP, allP, Cur.app, List.map_cons, List.map_nil, List.cons_append, List.nil_append, List.drop_succ_cons, List.drop_zero, List.length_cons, List.length_nil, Nat.zero_add, Nat.reduceAdd, Int.neg_neg, Bool.not_not, List.append_nil, Nat.add_zero, List.getElem?_cons_zero, List.getElem?_cons_succ, Decidable.not_not]
  intro mc mi ub
  refine (dPages_ok bd room ps lasts).weak (fun _ _ h => h) ?_
  rintro v R h ⟨a, c, ⟨rfl, hD⟩, h1, h2, dj, l1, l2, HD, xs, ⟨hx1, hx2⟩, HL⟩
  have hall : ∀ (k : Nat) (p : List UInt8), (wholes ps)[k]? = some p → ∃ x, xs[k]? = some x ∧ x.2.1 = p.length ∧ p.length ≤ 140737488355328 := fun k p hp => by
    obtain ⟨x, q1, q2, q3, _⟩ := AllB.get k (HP.sep_right HL) hp
    exact ⟨x, q1, q2, q3⟩
  have hsome : (wholes ps).length ≠ 0 → a.isSome = true := fun hn => OwC.some (HP.sep_left HL) (by omega)
  have hlen : (wholes ps).length ≤ 65536 := by
    have h1 : (wholes ps).length ≤ ps.length := List.length_filterMap_le _ _
    have := hD.2.1
    have := hD.2.2.1
    omega
  generalize hls : wholes ps = ls at *
  refine ⟨a, ls.length, c, HP.sep (OwC 30 1 a ls.length c (xs.map slV)) (AllB xs ls), DRep bd room ps lasts, rfl, ?_, h2, h1, dj.symm, l2, l1, HL, HD⟩
  clear HL HD dj l1 l2
  let J : Value → HP → Int → Int → HP → HP → Nat → Int → Int → Int → Nat → Nat → HP → HP → Prop := fun _ _ _ i Pl D d ep lo tp m1 m2 PI PC => ∃ (k : Nat) (s : USt), i = k ∧ k ≤ ls.length ∧ foldS s0 (ls.take k) = some s ∧ ep = s.epoch ∧ lo = s.low ∧ tp = s.top ∧ m1 = mc ∧ m2 = mi ∧ d = bd ∧
    HP.ent Pl (HP.sep (OwC 30 1 a ls.length c (xs.map slV)) (AllB xs ls)) ∧ HP.ent D (DRep bd room ps lasts) ∧ HP.ent PI (MapE InstV iE mi s.inst) ∧ HP.ent PC (MapE CellV iE mc s.cells)
  refine ⟨J, fun _ _ _ i _ _ _ _ _ _ _ _ _ _ => ls.length - i.toNat, ⟨0, s0, rfl, Nat.zero_le _, rfl, rfl, rfl, rfl, rfl, rfl, rfl, HP.ent.refl _, HP.ent.refl _, .of fun R h H => MapE.new _ _ _ H, .of fun R h H => MapE.new _ _ _ H⟩, ?_⟩
  rintro u0 p0 e0 i Pl D d ep lo tp m1 m2 PI PC ⟨k, s, rfl, hk, hf, rfl, rfl, rfl, rfl, rfl, rfl, hPl, hDD, hPI, hPC⟩
  refine ⟨fun hlt => ⟨by omega, fun _ => ⟨hsome (by omega), fun _ => ?_⟩⟩, fun hge => ?_⟩
  · have hlt' : k < ls.length := by omega
    have hg : ls[k]? = some ls[k] := List.getElem?_eq_getElem hlt'
    obtain ⟨x, hx, x1, x2⟩ := hall k _ hg
    obtain ⟨s2, s3, g1, g2, g3⟩ := foldS_step hs k _ hg
    rw [hf] at g1
    cases g1
    refine ⟨x.1, x.2.1, x.2.2, ?_, ?_⟩
    · rw [semOf_load]
      simp only [T.den, E.prop, E.den, RX.look, F1.app, F2.app, Uni.int_i, Uni.nat_n, Uni.bool_c, Uni.str_s, Uni.adr_a, Uni.val_v, Uni.hp_p, hden, cden, V.den, W.den, A.den, BR.den, SA.den, FV.den, capV, exs, exP, allP, Cur.app, List.map_cons, List.map_nil, List.cons_append, List.nil_append, List.drop_succ_cons, List.drop_zero, List.length_cons, List.length_nil, Nat.zero_add, Nat.reduceAdd, Int.neg_neg, Bool.not_not, List.append_nil, Nat.add_zero, List.getElem?_cons_zero, List.getElem?_cons_succ, Decidable.not_not]
      rw [Int.toNat_natCast]
      exact ORead.ent hPl (load1_ok und8 (by kernel_rfl) (by kernel_rfl) ((OwC.rd 30 1 a ls.length c (xs.map slV)).left (B := AllB xs ls)) (k := k * 1) (off := 0) (v := slV x) (by simp [hx]))
    · refine Tri.pre (A := HP.sep (UOne ub d m1 m2 s) (HP.sep (DRep d room ps lasts) (HP.sep (MapE CellV iE m1 s.cells) (HP.sep (MapE InstV iE m2 s.inst) (HP.sep (OwC 30 1 a ls.length c (xs.map slV)) (AllB xs ls)))))) ?_ ((HP.ent.refl _).sep2 (hDD.sep2 (hPC.sep2 (hPI.sep2 hPl))))
      refine triM fun lc cc li ci => ?_
      refine (uFollow_ok ub d m1 m2 (DRep d room ps lasts) s lc cc li ci x.1 x.2.1 x.2.2 ls[k] (HP.sep (OwC 30 1 a ls.length c (xs.map slV)) (AllB xs ls)) (by
        rw [x1]
        exact RdL.imp fun R h H => by
          obtain ⟨y, q1, q2, q3, q4⟩ := AllB.get k (HP.sep_right H) hg
          rw [hx] at q1
          cases q1
          rw [x1] at q4
          exact q4) x1.symm (by omega)).weak (fun _ _ h => h) ?_
      rintro v R h ⟨rfl, H⟩
      rw [g2] at H
      simp only [Option.getD_some] at H
      refine ⟨true, d, DRep d room ps lasts, s3.epoch, s3.low, s3.top, m1, MapE CellV iE m1 s3.cells, m2, MapE InstV iE m2 s3.inst, HP.sep (OwC 30 1 a ls.length c (xs.map slV)) (AllB xs ls), by rw [g2]; rfl, ⟨fun h => absurd rfl h, fun _ => ⟨inI64 _ (by omega) (by omega), fun _ => ⟨⟨k + 1, s3, by omega, by omega, g3, rfl, rfl, rfl, rfl, rfl, rfl, HP.ent.refl _, HP.ent.refl _, HP.ent.refl _, HP.ent.refl _⟩, by dsimp only; omega⟩⟩⟩, H⟩
  · have hke : k = ls.length := by omega
    subst hke
    rw [List.take_length, hs] at hf
    cases hf
    refine Tri.pre (A := HP.sep (UOne ub d m1 m2 s1) (HP.sep (DRep d room ps lasts) (HP.sep (MapE CellV iE m1 s1.cells) (MapE InstV iE m2 s1.inst)))) ?_ ((HP.ent.refl _).sep2 (hDD.sep2 (hPC.sep2 hPI)))
    refine (Tri.ex (A := fun lc => HP.ex fun cc => HP.sep (UOne ub d m1 m2 s1) (HP.sep (DRep d room ps lasts) (HP.sep (MapH CellV iE m1 s1.cells lc cc) (MapE InstV iE m2 s1.inst)))) fun lc => Tri.ex fun cc => ?_).weak (fun R h ⟨h1, h2, d, l1, l2, H1, h3, h4, d2, l3, l4, H2, h5, h6, d3, l5, l6, ⟨lc, cc, H3⟩, H4⟩ => ⟨lc, cc, h1, h2, d, l1, l2, H1, h3, h4, d2, l3, l4, H2, h5, h6, d3, l5, l6, H3, H4⟩) fun _ _ _ h => h
    refine (uForget_ok ub d m1 m2 _ (MapE InstV iE m2 s1.inst) s1 lc cc).weak (fun _ _ h => h) ?_
    rintro v R h ⟨rfl, H⟩
    refine ⟨d, DRep d room ps lasts, s1.epoch, s1.low, s1.top, m1, MapE CellV iE m1 (forgS s1).cells, m2, MapE InstV iE m2 s1.inst, rfl, .of fun R h H => ⟨ub, rfl, ?_⟩, H⟩
    exact URep.of (s := forgS s1) (mc := m1) (mi := m2) H
end Go.Proofs.Ytmibmjehjagmbaa

/- A unit is what its pages lead to; what is read at an address stays: no program in sight. No condition. -/
namespace Go.Proofs.Ytmibmjehjagmbaa
open Go.Proofs.Ytmibmjehjagmbaa RX

theorem byteAt_val (v n j : Nat) : (byteAt v n j).toNat = v / 256 ^ (n - 1 - j) % 256 := by
  unfold byteAt
  rw [UInt8.toNat_ofNat', Nat.pow_mul]
theorem beV_beN (v n : Nat) : beV (beN v n) = v % 256 ^ n := by
  have key : ∀ j, j ≤ n → beV ((beN v n).take j) = v / 256 ^ (n - j) % 256 ^ j := by
    intro j
    induction j with
    | zero => intro _; simp [beV, Nat.mod_one]
    | succ j ih =>
      intro hj
      rw [beN_take v n j (by omega), beV_snoc, ih (by omega), byteAt_val]
      have e1 : n - j = (n - 1 - j) + 1 := by omega
      have e2 : n - (j + 1) = n - 1 - j := by omega
      rw [e1, e2, Nat.pow_succ, ← Nat.div_div_eq_div_mul]
      generalize v / 256 ^ (n - 1 - j) = q
      rw [Nat.pow_succ, Nat.mul_comm (256 ^ j) 256, Nat.mod_mul]
      omega
  have := key n (Nat.le_refl _)
  rw [List.take_of_length_le (by rw [beN_len]; omega), Nat.sub_self, Nat.pow_zero, Nat.div_one] at this
  exact this
theorem numR_beN (v n : Nat) (r : List UInt8) : numR (beN v n ++ r, false) n = (v % 256 ^ n, (r, false)) := by
  unfold numR takeR
  simp only [Bool.false_eq_true, if_false]
  rw [if_neg (by rw [List.length_append, beN_len]; omega)]
  have e1 : (beN v n ++ r).take n = beN v n := by rw [List.take_append_of_le_length (by rw [beN_len]; omega), List.take_of_length_le (by rw [beN_len]; omega)]
  have e2 : (beN v n ++ r).drop n = r := by rw [List.drop_append_of_le_length (by rw [beN_len]; omega), List.drop_of_length_le (by rw [beN_len]; omega), List.nil_append]
  rw [e1, e2, beV_beN]
theorem numR_cons (k : UInt8) (r : List UInt8) : numR (k :: r, false) 1 = (k.toNat, (r, false)) := by
  unfold numR takeR
  simp [beV]
theorem wrap_num {n : Int} (h0 : 0 ≤ n) (h1 : n ≤ 4294967296) : (IntKind.u64.wrap n).toNat = n.toNat ∧ intOf64 n.toNat = n := by
  constructor
  · simp only [IntKind.wrap, IntKind.bits, IntKind.signed, Bool.false_and, Bool.false_eq_true, if_false]
    omega
  · unfold intOf64
    rw [Int.toNat_of_nonneg h0]
    simp only [IntKind.wrap, IntKind.bits, IntKind.signed, Bool.true_and]
    have e : n % 2 ^ 64 = n := Int.emod_eq_of_lt h0 (by omega)
    split
    · rename_i h
      have := of_decide_eq_true h
      rw [e] at this
      omega
    · exact e
theorem num8 {n : Int} (h0 : 0 ≤ n) (h1 : n ≤ 4294967296) (r : List UInt8) : numR (beN (IntKind.u64.wrap n).toNat 8 ++ r, false) 8 = (n.toNat, (r, false)) := by
  rw [numR_beN, (wrap_num h0 h1).1]
  rw [Nat.mod_eq_of_lt (by omega)]
theorem bytes_round (d : List UInt8) (most : Int) (hd : (d.length : Int) ≤ most) (hm : most ≤ 1000000) : bytesR (beN d.length 4 ++ d, false) most = (d, ([], false)) := by
  have e : numR (beN d.length 4 ++ d, false) 4 = (d.length, (d, false)) := by
    rw [numR_beN, Nat.mod_eq_of_lt (by omega)]
  unfold bytesR toldR
  rw [e]
  simp only [Bool.false_eq_true, if_false]
  rw [if_neg (by omega)]
  unfold takeR
  simp
theorem ended0 : endedR ([], false) = true := rfl
section
variable (s : USt)
theorem addr_iff {n : Int} : addrOk n = true ↔ 0 ≤ n ∧ n ≤ 4294967296 := by simp [addrOk]
theorem follow_data {a : Int} (ha : addrOk a = true) (d : List UInt8) (hd : d.length ≤ 65536) : followS s (pageL 1 [a] ++ beN d.length 4 ++ d) = some { s with cells := fput s.cells a (some ⟨1, d⟩), top := max s.top (a + 1) } := by
  obtain ⟨h0, h1⟩ := addr_iff.1 ha
  have e : pageL 1 [a] ++ beN d.length 4 ++ d = 1 :: (beN (IntKind.u64.wrap a).toNat 8 ++ (beN d.length 4 ++ d)) := by simp [pageL]
  rw [e]
  unfold followS
  simp only [numR_cons, num8 h0 h1, (wrap_num h0 h1).2, bytes_round d 65536 (by omega) (by decide), ended0, ha, Bool.and_self, if_true]
  rfl
theorem follow_junk {a : Int} (ha : addrOk a = true) : followS s (pageL 2 [a]) = some { s with cells := fput s.cells a (some ⟨2, []⟩), top := max s.top (a + 1) } := by
  obtain ⟨h0, h1⟩ := addr_iff.1 ha
  have e : pageL 2 [a] = 2 :: (beN (IntKind.u64.wrap a).toNat 8 ++ []) := by simp [pageL]
  rw [e]
  unfold followS
  simp only [numR_cons, num8 h0 h1, (wrap_num h0 h1).2, ended0, ha, Bool.and_self, if_true]
  rfl
theorem follow_low {a : Int} (ha : addrOk a = true) : followS s (pageL 3 [a]) = some { s with low := a } := by
  obtain ⟨h0, h1⟩ := addr_iff.1 ha
  have e : pageL 3 [a] = 3 :: (beN (IntKind.u64.wrap a).toNat 8 ++ []) := by simp [pageL]
  rw [e]
  unfold followS
  simp only [numR_cons, num8 h0 h1, (wrap_num h0 h1).2, ended0, ha, Bool.and_self, if_true]
  rfl
theorem num_iff {n : Int} : numOk n = true ↔ 0 ≤ n ∧ n ≤ 2147483647 := by simp [numOk]
theorem follow_epoch {a : Int} (ha : numOk a = true) : followS s (pageL 4 [a]) = some { s with epoch := a } := by
  obtain ⟨h0, h1⟩ := num_iff.1 ha
  have e : pageL 4 [a] = 4 :: (beN (IntKind.u64.wrap a).toNat 8 ++ []) := by simp [pageL]
  rw [e]
  unfold followS
  simp only [numR_cons, num8 h0 (by omega), (wrap_num h0 (by omega)).2, ended0, ha, Bool.and_self, if_true]
  rfl
theorem prop_iff {n r w : Int} : propOk n r w = true ↔ (1 ≤ n ∧ n ≤ 2147483647) ∧ (0 ≤ r ∧ r ≤ 2147483647) ∧ (0 ≤ w ∧ w ≤ 2147483647) := by simp [propOk, numOk, and_assoc]
theorem follow_prom {n r w : Int} (h : propOk n r w = true) : followS s (pageL 5 [n, r, w]) = some (promS s n r w) := by
  obtain ⟨⟨a0, a1⟩, ⟨b0, b1⟩, ⟨c0, c1⟩⟩ := prop_iff.1 h
  have e : pageL 5 [n, r, w] = 5 :: (beN (IntKind.u64.wrap n).toNat 8 ++ (beN (IntKind.u64.wrap r).toNat 8 ++ (beN (IntKind.u64.wrap w).toNat 8 ++ []))) := by simp [pageL]
  rw [e]
  unfold followS
  simp only [numR_cons, num8 (show 0 ≤ n by omega) (by omega), num8 b0 (by omega), num8 c0 (by omega), (wrap_num (show 0 ≤ n by omega) (by omega)).2, (wrap_num b0 (by omega)).2, (wrap_num c0 (by omega)).2, ended0, h, Bool.and_self, if_true]
  rfl
theorem follow_acc {n r w : Int} (h : propOk n r w = true) (l : List UInt8) (hl : l.length ≤ 1000) : followS s (pageL 6 [n, r, w] ++ beN l.length 4 ++ l) = some (accS s n r w l) := by
  obtain ⟨⟨a0, a1⟩, ⟨b0, b1⟩, ⟨c0, c1⟩⟩ := prop_iff.1 h
  have e : pageL 6 [n, r, w] ++ beN l.length 4 ++ l = 6 :: (beN (IntKind.u64.wrap n).toNat 8 ++ (beN (IntKind.u64.wrap r).toNat 8 ++ (beN (IntKind.u64.wrap w).toNat 8 ++ (beN l.length 4 ++ l)))) := by simp [pageL]
  rw [e]
  unfold followS
  simp only [numR_cons, num8 (show 0 ≤ n by omega) (by omega), num8 b0 (by omega), num8 c0 (by omega), (wrap_num (show 0 ≤ n by omega) (by omega)).2, (wrap_num b0 (by omega)).2, (wrap_num c0 (by omega)).2, bytes_round l 1000 (by omega) (by decide), ended0, h, Bool.and_self, if_true]
  rfl
end
/-- A unit is what its pages lead to, all of which are whole. -/
def Inv9 (s : USt) (ps : List Pg) : Prop := (∃ s1, foldS s0 (wholes ps) = some s1 ∧ forgS s1 = s) ∧ (∀ p ∈ ps, p.is = 1) ∧ 0 ≤ s.epoch ∧ 0 ≤ s.low
theorem inv9_new : Inv9 s0 [] := ⟨⟨s0, rfl, by unfold forgS s0; simp⟩, (fun p hp => by cases hp), Int.le_refl _, Int.le_refl _⟩
theorem inv9_page {s1 s2 : USt} {ps : List Pg} {b : List UInt8} (h : foldS s0 (wholes ps) = some s1) (hp : ∀ p ∈ ps, p.is = 1) (hf : followS s1 b = some s2) (he : 0 ≤ s2.epoch) (hl : 0 ≤ s2.low) : Inv9 (forgS s2) (ps ++ [pgW b]) := by
  refine ⟨⟨s2, ?_, rfl⟩, fun p h' => ?_, he, hl⟩
  · have e : wholes (ps ++ [pgW b]) = wholes ps ++ [b] := by simp [wholes, List.filterMap_append, pgW]
    rw [e, foldS_app, h]
    simp only [Option.bind_some, foldS, hf]
  · rcases List.mem_append.1 h' with h' | h'
    · exact hp p h'
    · simp at h'; subst h'; rfl
theorem inv9_write {room : Int} {s : USt} {ps : List Pg} (h : Inv9 s ps) (epoch at' : Int) (x : CellS) : Inv9 (writeS room s ps epoch at' x).2.2.1 (writeS room s ps epoch at' x).2.2.2 := by
  unfold writeS
  split
  · exact h
  rename_i hr
  split
  · exact h
  rename_i hs
  split
  · exact h
  rename_i hlow
  split
  · exact h
  by_cases hf : room = ps.length
  · rw [lastS_full hf]; exact h
  rw [lastS_room hf]
  obtain ⟨⟨s1, h1, rfl⟩, hp, he, hl⟩ := h
  have ha := (reach0 (by simpa using hr)).2
  have hs' : standB x.what x.data.length = true := by simpa using hs
  have e2 : followS s1 (cellL at' x) = some { s1 with cells := fput s1.cells at' (some x), top := max s1.top (at' + 1) } := by
    unfold cellL
    unfold standB at hs'
    obtain ⟨w, d⟩ := x
    simp only at hs' ⊢
    by_cases h2 : w = 2
    · subst h2
      simp at hs'
      obtain rfl : d = [] := by simpa using hs'
      rw [if_pos rfl]
      exact follow_junk s1 ha
    · rw [if_neg h2]
      by_cases hw1 : w = 1
      · subst hw1
        simp at hs'
        exact follow_data s1 ha d (by omega)
      · simp [hw1, h2] at hs'
  have := inv9_page h1 hp e2 he hl
  have e3 : forgS { s1 with cells := fput s1.cells at' (some x), top := max s1.top (at' + 1) } = putS (forgS s1) at' x := by
    unfold forgS putS fput
    simp only [USt.mk.injEq, true_and, and_true]
    funext k
    by_cases hk : k = at'
    · subst hk
      rw [if_pos rfl, if_pos rfl, if_neg (by simpa [forgS] using hlow)]
    · rw [if_neg hk, if_neg hk]
  rw [e3] at this
  exact this
theorem inv9_trim {room : Int} {s : USt} {ps : List Pg} (h : Inv9 s ps) (epoch low : Int) : Inv9 (trimS room s ps epoch low).2.1 (trimS room s ps epoch low).2.2 := by
  unfold trimS
  split
  · exact h
  rename_i hr
  split
  · exact h
  rename_i hlow
  by_cases hf : room = ps.length
  · rw [lastS_full hf]; exact h
  rw [lastS_room hf]
  obtain ⟨⟨s1, h1, rfl⟩, hp, he, hl⟩ := h
  have ha := (reach0 (by simpa using hr)).2
  have := inv9_page h1 hp (follow_low s1 ha) he (addr_iff.1 ha).1
  have e3 : forgS { s1 with low := low } = forgS { forgS s1 with low := low } := by
    unfold forgS at hlow ⊢
    simp only [USt.mk.injEq, true_and, and_true] at hlow ⊢
    funext k
    by_cases hk : k < low
    · rw [if_pos hk, if_pos hk]
    · rw [if_neg hk, if_neg hk, if_neg (by omega)]
  rw [e3] at this
  exact this
theorem inv9_seal {room : Int} {s : USt} {ps : List Pg} (h : Inv9 s ps) (epoch : Int) : Inv9 (sealS room s ps epoch).2.1 (sealS room s ps epoch).2.2 := by
  unfold sealS
  split
  · exact h
  rename_i h1'
  split
  · exact h
  rename_i h2'
  by_cases hf : room = ps.length
  · rw [lastS_full hf]; exact h
  rw [lastS_room hf]
  obtain ⟨⟨s1, h1, rfl⟩, hp, he, hl⟩ := h
  have he' : 0 ≤ epoch := by omega
  exact inv9_page h1 hp (follow_epoch s1 (num_iff.2 ⟨he', by omega⟩)) he' hl
theorem inv9_promise {room : Int} {s : USt} {ps : List Pg} (h : Inv9 s ps) (n r w : Int) : Inv9 (promiseS room s ps n r w).2.2.2.2.1 (promiseS room s ps n r w).2.2.2.2.2 := by
  unfold promiseS
  split
  · exact h
  rename_i hpo
  split
  · exact h
  split
  · exact h
  split
  · exact h
  obtain ⟨⟨s1, h1, rfl⟩, hp, he, hl⟩ := h
  exact inv9_page h1 hp (follow_prom s1 (by simpa using hpo)) he hl
theorem inv9_accept {room : Int} {s : USt} {ps : List Pg} (h : Inv9 s ps) (n r w : Int) (l : List UInt8) : Inv9 (acceptS room s ps n r w l).2.1 (acceptS room s ps n r w l).2.2 := by
  unfold acceptS
  split
  · exact h
  rename_i hpo
  split
  · exact h
  rename_i hln
  split
  · exact h
  by_cases hf : room = ps.length
  · rw [lastS_full hf]; exact h
  rw [lastS_room hf]
  obtain ⟨⟨s1, h1, rfl⟩, hp, he, hl⟩ := h
  exact inv9_page h1 hp (follow_acc s1 (by simpa using hpo) l (by omega)) he hl
/-- What was read at an address stands there, or is trimmed. -/
def Stays (a : Int) (x : CellS) (s : USt) : Prop := a < s.low ∨ s.cells a = some x
theorem stays_write {room : Int} {s : USt} {ps : List Pg} {a : Int} {y : CellS} (h : Stays a y s) (epoch at' : Int) (x : CellS) : Stays a y (writeS room s ps epoch at' x).2.2.1 := by
  unfold writeS
  split
  · exact h
  split
  · exact h
  split
  · exact h
  split
  · exact h
  rename_i hn
  unfold lastS
  split
  · exact h
  · refine h.imp id fun hc => ?_
    show fput s.cells at' (some x) a = some y
    unfold fput
    rw [if_neg (fun e => by subst e; rw [hn] at hc; cases hc)]
    exact hc
theorem stays_trim {room : Int} {s : USt} {ps : List Pg} {a : Int} {y : CellS} (h : Stays a y s) (epoch low : Int) : Stays a y (trimS room s ps epoch low).2.1 := by
  unfold trimS
  split
  · exact h
  split
  · exact h
  rename_i hlow
  unfold lastS
  split
  · exact h
  · by_cases hl : a < low
    · exact .inl hl
    · refine .inr ?_
      rcases h with h | h
      · omega
      · show (if a < low then none else s.cells a) = some y
        rw [if_neg hl]; exact h
end Go.Proofs.Ytmibmjehjagmbaa

/- Single operations, told by the values of their operands alone. No condition. -/
namespace Go.Proofs.Ytmibmjehjagmbaa
open Go.Proofs.Ytmibmjehjagmbaa RX

def arW (ar : List (Nat × Value)) : Operand → Value
  | .tmp t => match ar.find? (·.1 == t) with
    | some x => x.2
    | none => undef
  | .const v => v
  | .global g => .pointer (some ⟨g, 0, none⟩)
  | .func f => .func (.func f) #[] #[]
def semW (o : Op) (ty : TypeId) (ar : List (Nat × Value)) : Sem Next := execOp (arW ar) { dst := none, op := o, type := ty, pos := "", after := #[], guard := none }
theorem find_map (ρ : Env) (t : Nat) : ∀ ar : List (Nat × V), (ar.map fun x => (x.1, x.2.den ρ)).find? (·.1 == t) = (ar.find? (·.1 == t)).map fun x => (x.1, x.2.den ρ)
  | [] => rfl
  | x :: r => by
    simp only [List.map_cons, List.find?_cons]
    cases x.1 == t <;> simp [find_map ρ t r]
theorem semW_eq {ρ : Env} {o : Op} {ty : TypeId} {ar : List (Nat × V)} : semOf ρ o ty ar = semW o ty (ar.map fun x => (x.1, x.2.den ρ)) := by
  have h : arEval ρ ar = arW (ar.map fun x => (x.1, x.2.den ρ)) := by
    funext x
    cases x with
    | tmp t =>
      simp only [arEval, arW, find_map]
      cases ar.find? (·.1 == t) <;> rfl
    | const v => rfl
    | global g => rfl
    | func f => rfl
  unfold semOf semW
  rw [h]
section
variable {t ty : TypeId} {i j q : Nat} {u v x : Value}
theorem semW_load : semW (.load t (.tmp i)) ty [(i, u)] = loadS t u := by simp [semW, execOp, arW, loadS]
theorem semW_store (h : i ≠ j) : semW (.store t (.tmp i) (.tmp j)) ty [(i, u), (j, v)] = storeS t u v := by
  have h' : (i == j) = false := by simpa using h
  simp [semW, execOp, arW, h', storeS]
theorem semW_storeC : semW (.store t (.tmp i) (.const v)) ty [(i, u)] = storeS t u v := by simp [semW, execOp, arW, storeS]
theorem semW_append (h : i ≠ j) : semW (.call ⟨.builtin .append, #[.tmp i, .tmp j], #[t, t]⟩) ty [(i, u), (j, v)] = appS t ty u v := by
  have h' : (i == j) = false := by simpa using h
  simp [semW, execOp, resolve, arW, invoke, builtin, h', appS]
theorem semW_lookup {ok : Bool} (h : i ≠ j) : semW (.lookup t (.tmp i) (.tmp j) ok) ty [(i, u), (j, v)] = lookS t u v ok := by
  have h' : (i == j) = false := by simpa using h
  simp [semW, execOp, arW, h', lookS]
theorem semW_lookupC {ok : Bool} {k : Value} : semW (.lookup t (.tmp i) (.const k) ok) ty [(i, u)] = lookS t u k ok := by
  simp [semW, execOp, arW, lookS]
theorem semW_update (h : i ≠ j) (h2 : i ≠ q) (h3 : j ≠ q) : semW (.mapUpdate t (.tmp i) (.tmp j) (.tmp q)) ty [(i, u), (j, v), (q, x)] = updS t u v x := by
  have h' : (i == j) = false := by simpa using h
  have h2' : (i == q) = false := by simpa using h2
  have h3' : (j == q) = false := by simpa using h3
  simp [semW, execOp, arW, h', h2', h3', updS]
theorem semW_updateC {k : Value} (h : i ≠ j) : semW (.mapUpdate t (.tmp i) (.tmp j) (.const k)) ty [(i, u), (j, v)] = updS t u v k := by
  have h' : (i == j) = false := by simpa using h
  simp [semW, execOp, arW, h', updS]
theorem semW_updateK {k : Value} (h : i ≠ j) : semW (.mapUpdate t (.tmp i) (.const k) (.tmp j)) ty [(i, u), (j, v)] = updS t u k v := by
  have h' : (i == j) = false := by simpa using h
  simp [semW, execOp, arW, h', updS]
theorem semW_delete {ts : Array TypeId} (h : i ≠ j) : semW (.call ⟨.builtin .delete, #[.tmp i, .tmp j], ts⟩) ty [(i, u), (j, v)] = delS ts ty u v := by
  have h' : (i == j) = false := by simpa using h
  simp [semW, execOp, resolve, arW, invoke, builtin, h', delS]
theorem semW_range : semW (.range t (.tmp i)) ty [(i, u)] = rangS t u := by simp [semW, execOp, arW, rangS]
theorem semW_next : semW (.next (.tmp i) false) ty [(i, u)] = nextS u ty := by simp [semW, execOp, arW, nextS]
theorem semW_entry : semW (.entry (.tmp i)) ty [(i, u)] = entS u := by simp [semW, execOp, arW, entS]
theorem semW_slice {lo hi mx : Option Operand} {y : Operand} {ar : List (Nat × Value)} : semW (.slice t y lo hi mx) ty ar = sliceS t (arW ar y) (lo.map (arW ar)) (hi.map (arW ar)) (mx.map (arW ar)) := rfl
def nilS (u : Value) : Sem Next := semW (.nilCheck (.tmp 0)) 0 [(0, u)]
theorem semW_nil : semW (.nilCheck (.tmp i)) ty [(i, u)] = nilS u := by simp [nilS, semW, execOp, arW]
end
end Go.Proofs.Ytmibmjehjagmbaa

/- Trees of functions, printed by rx.lean. No condition. -/
namespace Go.Proofs.Ytmibmjehjagmbaa.RX
set_option maxRecDepth 100000
-- tideline/rpc.Reply: ρ := [.i m_From, .i m_To, .i m_Number, .c m_Reply, .i m_Kind, .i m_Epoch, .i m_At, .i m_Cell_What, .a m_Cell_Dataa, .n m_Cell_Datal, .n m_Cell_Datac, .p m_Cell_DataP, .i m_Ballot_Round, .i m_Ballot_Who, .a m_Valuea, .n m_Valuel, .n m_Valuec, .p m_ValueP, .i m_Err, .i m_Tail, .i m_Low, .i m_Back, .i e]
def t_reply : T :=
(.new
(.new
(.ret (.w (.agg [(.int .i64 (.v 1)), (.int .i64 (.v 0)), (.int .i64 (.v 2)), (.bool (.c true)), (.int .i64 (.v 4)), (.int .i64 (.v 5)), (.int .i64 (.v 6)), (.int .i64 (.i 0)), (.sl .nil (.n 0) (.n 0)), (.int .i64 (.i 0)), (.int .i64 (.i 0)), (.sl .nil (.n 0) (.n 0)), (.int .i64 (.v 22)), (.int .i64 (.i 0)), (.int .i64 (.i 0)), (.int .i64 (.i 0))])) [((.a 8), (.prop 11)), ((.a 14), (.prop 17))])))
theorem tree_reply : tree Try.prog { absT := [], opq := [], hv := [], keep := [20, 38, 40, 88], link := [], ent := [], turn := [], shr := [], vt := [], mkd := [], rlink := [], pty := [], outl := false, stay := [], snk := [] } Try.f88 [(.agg [(.int .i64 (.v 0)), (.int .i64 (.v 1)), (.int .i64 (.v 2)), (.bool (.v 3)), (.int .i64 (.v 4)), (.int .i64 (.v 5)), (.int .i64 (.v 6)), (.int .i64 (.v 7)), (.sl (.v 8) (.v 9) (.v 10)), (.int .i64 (.v 12)), (.int .i64 (.v 13)), (.sl (.v 14) (.v 15) (.v 16)), (.int .i64 (.v 18)), (.int .i64 (.v 19)), (.int .i64 (.v 20)), (.int .i64 (.v 21))]), (.a (.int .i64 (.v 22)))] [((.a 8), (.prop 11)), ((.a 14), (.prop 17))] 23 = t_reply := by kernel_rfl
-- tideline/server.deeds: ρ := [.n u, .p uP, .i m_From, .i m_To, .i m_Number, .c m_Reply, .i m_Kind, .i m_Epoch, .i m_At, .i m_Cell_What, .a m_Cell_Dataa, .n m_Cell_Datal, .n m_Cell_Datac, .p m_Cell_DataP, .i m_Ballot_Round, .i m_Ballot_Who, .a m_Valuea, .n m_Valuel, .n m_Valuec, .p m_ValueP, .i m_Err, .i m_Tail, .i m_Low, .i m_Back, .n r, .p rP]
def t_deeds : T :=
(.new
(.new
(.new
(.new
(.op (.insert 152 (.tmp 7) (.const (.int .i64 1)) (.tmp 8)) 0 [(7, (.w (.a (.map (.v 29))))), (8, (.w (.a (.func 119 [((.v 26), 0), ((.v 27), 0), ((.v 28), 0)]))))] [((.b (.v 29)), .emap), ((.b (.v 26)), (.cells [(.ptr (.v 0) 0)] 26)), ((.b (.v 0)), (.prop 1)), ((.b (.v 27)), (.cells [(.int .i64 (.v 2)), (.int .i64 (.v 3)), (.int .i64 (.v 4)), (.bool (.v 5)), (.int .i64 (.v 6)), (.int .i64 (.v 7)), (.int .i64 (.v 8)), (.int .i64 (.v 9)), (.sl (.v 10) (.v 11) (.v 12)), (.int .i64 (.v 14)), (.int .i64 (.v 15)), (.sl (.v 16) (.v 17) (.v 18)), (.int .i64 (.v 20)), (.int .i64 (.v 21)), (.int .i64 (.v 22)), (.int .i64 (.v 23))] 80)), ((.a 10), (.prop 13)), ((.a 16), (.prop 19)), ((.b (.v 28)), (.cells [(.ptr (.v 24) 0)] 154)), ((.b (.v 24)), (.prop 25))] [.p] (.tup []) [((.b (.v 29)), (.prop 30))]
(.op (.insert 152 (.tmp 7) (.const (.int .i64 2)) (.tmp 9)) 0 [(7, (.w (.a (.map (.v 29))))), (9, (.w (.a (.func 120 [((.v 26), 0), ((.v 27), 0), ((.v 28), 0)]))))] [((.b (.v 29)), (.prop 30))] [.p] (.tup []) [((.b (.v 29)), (.prop 31))]
(.op (.insert 152 (.tmp 7) (.const (.int .i64 3)) (.tmp 10)) 0 [(7, (.w (.a (.map (.v 29))))), (10, (.w (.a (.func 121 [((.v 26), 0), ((.v 27), 0)]))))] [((.b (.v 29)), (.prop 31))] [.p] (.tup []) [((.b (.v 29)), (.prop 32))]
(.op (.insert 152 (.tmp 7) (.const (.int .i64 4)) (.tmp 11)) 0 [(7, (.w (.a (.map (.v 29))))), (11, (.w (.a (.func 122 [((.v 26), 0), ((.v 27), 0), ((.v 28), 0)]))))] [((.b (.v 29)), (.prop 32))] [.p] (.tup []) [((.b (.v 29)), (.prop 33))]
(.op (.insert 152 (.tmp 7) (.const (.int .i64 5)) (.tmp 12)) 0 [(7, (.w (.a (.map (.v 29))))), (12, (.w (.a (.func 123 [((.v 26), 0), ((.v 27), 0), ((.v 28), 0)]))))] [((.b (.v 29)), (.prop 33))] [.p] (.tup []) [((.b (.v 29)), (.prop 34))]
(.op (.insert 152 (.tmp 7) (.const (.int .i64 6)) (.tmp 13)) 0 [(7, (.w (.a (.map (.v 29))))), (13, (.w (.a (.func 124 [((.v 26), 0), ((.v 27), 0), ((.v 28), 0)]))))] [((.b (.v 29)), (.prop 34))] [.p] (.tup []) [((.b (.v 29)), (.prop 35))]
(.op (.insert 152 (.tmp 7) (.const (.int .i64 7)) (.tmp 14)) 0 [(7, (.w (.a (.map (.v 29))))), (14, (.w (.a (.func 125 [((.v 26), 0), ((.v 27), 0)]))))] [((.b (.v 29)), (.prop 35))] [.p] (.tup []) [((.b (.v 29)), (.prop 36))]
(.ret (.w (.a (.map (.v 29)))) [((.b (.v 29)), (.prop 36))]))))))))))))
theorem tree_deeds : tree Try.prog { absT := [], opq := [], hv := [], keep := [20, 38, 40, 88], link := [], ent := [], turn := [], shr := [], vt := [], mkd := [], rlink := [], pty := [], outl := false, stay := [], snk := [] } Try.f89 [(.a (.ptr (.v 0) 0)), (.agg [(.int .i64 (.v 2)), (.int .i64 (.v 3)), (.int .i64 (.v 4)), (.bool (.v 5)), (.int .i64 (.v 6)), (.int .i64 (.v 7)), (.int .i64 (.v 8)), (.int .i64 (.v 9)), (.sl (.v 10) (.v 11) (.v 12)), (.int .i64 (.v 14)), (.int .i64 (.v 15)), (.sl (.v 16) (.v 17) (.v 18)), (.int .i64 (.v 20)), (.int .i64 (.v 21)), (.int .i64 (.v 22)), (.int .i64 (.v 23))]), (.a (.ptr (.v 24) 0))] [((.b (.v 0)), (.prop 1)), ((.a 10), (.prop 13)), ((.a 16), (.prop 19)), ((.b (.v 24)), (.prop 25))] 26 = t_deeds := by kernel_rfl
-- tideline/server.deeds$1: ρ := [.n u, .n u, .p uP, .n m, .i m_From, .i m_To, .i m_Number, .c m_Reply, .i m_Kind, .i m_Epoch, .i m_At, .i m_Cell_What, .a m_Cell_Dataa, .n m_Cell_Datal, .n m_Cell_Datac, .p m_Cell_DataP, .i m_Ballot_Round, .i m_Ballot_Who, .a m_Valuea, .n m_Valuel, .n m_Valuec, .p m_ValueP, .i m_Err, .i m_Tail, .i m_Low, .i m_Back, .n r, .n r, .i r_From, .i r_To, .i r_Number, .c r_Reply, .i r_Kind, .i r_Epoch, .i r_At, .i r_Cell_What, .a r_Cell_Dataa, .n r_Cell_Datal, .n r_Cell_Datac, .p r_Cell_DataP, .i r_Ballot_Round, .i r_Ballot_Who, .a r_Valuea, .n r_Valuel, .n r_Valuec, .p r_ValueP, .i r_Err, .i r_Tail, .i r_Low, .i r_Back]
def t_deed1 : T :=
(.call 57 [(.a (.ptr (.v 1) 0)), (.a (.int .i64 (.v 9))), (.a (.int .i64 (.v 10))), (.agg [(.int .i64 (.v 11)), (.sl (.v 12) (.v 13) (.v 14))])] [((.b (.v 1)), (.prop 2)), ((.a 12), (.prop 15))] [.i, .a, .n, .n, .p, .i, .p, .p] (.tup [(.agg [(.int .i64 (.v 50)), (.sl (.v 51) (.v 52) (.v 53))]), (.a (.int .i64 (.v 55)))]) [((.a 51), (.prop 54)), ((.b (.v 1)), (.prop 56)), ((.a 12), (.prop 57))]
(.ret (.w (.a (.int .i64 (.v 55)))) [((.b (.v 0)), (.cells [(.ptr (.v 1) 0)] 26)), ((.b (.v 1)), (.prop 56)), ((.b (.v 3)), (.cells [(.int .i64 (.v 4)), (.int .i64 (.v 5)), (.int .i64 (.v 6)), (.bool (.v 7)), (.int .i64 (.v 8)), (.int .i64 (.v 9)), (.int .i64 (.v 10)), (.int .i64 (.v 11)), (.sl (.v 12) (.v 13) (.v 14)), (.int .i64 (.v 16)), (.int .i64 (.v 17)), (.sl (.v 18) (.v 19) (.v 20)), (.int .i64 (.v 22)), (.int .i64 (.v 23)), (.int .i64 (.v 24)), (.int .i64 (.v 25))] 80)), ((.a 12), (.prop 57)), ((.a 18), (.prop 21)), ((.b (.v 26)), (.cells [(.ptr (.v 27) 0)] 154)), ((.b (.v 27)), (.cells [(.int .i64 (.v 28)), (.int .i64 (.v 29)), (.int .i64 (.v 30)), (.bool (.v 31)), (.int .i64 (.v 32)), (.int .i64 (.v 33)), (.int .i64 (.v 34)), (.int .i64 (.v 50)), (.sl (.v 51) (.v 52) (.v 53)), (.int .i64 (.v 40)), (.int .i64 (.v 41)), (.sl (.v 42) (.v 43) (.v 44)), (.int .i64 (.v 46)), (.int .i64 (.v 47)), (.int .i64 (.v 48)), (.int .i64 (.v 49))] 80)), ((.a 51), (.prop 54)), ((.a 42), (.prop 45)), ((.a 36), (.prop 39))]))
theorem tree_deed1 : tree Try.prog { absT := [], opq := [], hv := [], keep := [20, 38, 40, 88], link := [], ent := [], turn := [], shr := [], vt := [], mkd := [], rlink := [], pty := [], outl := false, stay := [], snk := [] } Try.f119 [(.a (.ptr (.v 0) 0)), (.a (.ptr (.v 3) 0)), (.a (.ptr (.v 26) 0))] [((.b (.v 0)), (.cells [(.ptr (.v 1) 0)] 26)), ((.b (.v 1)), (.prop 2)), ((.b (.v 3)), (.cells [(.int .i64 (.v 4)), (.int .i64 (.v 5)), (.int .i64 (.v 6)), (.bool (.v 7)), (.int .i64 (.v 8)), (.int .i64 (.v 9)), (.int .i64 (.v 10)), (.int .i64 (.v 11)), (.sl (.v 12) (.v 13) (.v 14)), (.int .i64 (.v 16)), (.int .i64 (.v 17)), (.sl (.v 18) (.v 19) (.v 20)), (.int .i64 (.v 22)), (.int .i64 (.v 23)), (.int .i64 (.v 24)), (.int .i64 (.v 25))] 80)), ((.a 12), (.prop 15)), ((.a 18), (.prop 21)), ((.b (.v 26)), (.cells [(.ptr (.v 27) 0)] 154)), ((.b (.v 27)), (.cells [(.int .i64 (.v 28)), (.int .i64 (.v 29)), (.int .i64 (.v 30)), (.bool (.v 31)), (.int .i64 (.v 32)), (.int .i64 (.v 33)), (.int .i64 (.v 34)), (.int .i64 (.v 35)), (.sl (.v 36) (.v 37) (.v 38)), (.int .i64 (.v 40)), (.int .i64 (.v 41)), (.sl (.v 42) (.v 43) (.v 44)), (.int .i64 (.v 46)), (.int .i64 (.v 47)), (.int .i64 (.v 48)), (.int .i64 (.v 49))] 80)), ((.a 36), (.prop 39)), ((.a 42), (.prop 45))] 50 = t_deed1 := by kernel_rfl
-- tideline/server.deeds$2: ρ := [.n u, .n u, .p uP, .n m, .i m_From, .i m_To, .i m_Number, .c m_Reply, .i m_Kind, .i m_Epoch, .i m_At, .i m_Cell_What, .a m_Cell_Dataa, .n m_Cell_Datal, .n m_Cell_Datac, .p m_Cell_DataP, .i m_Ballot_Round, .i m_Ballot_Who, .a m_Valuea, .n m_Valuel, .n m_Valuec, .p m_ValueP, .i m_Err, .i m_Tail, .i m_Low, .i m_Back, .n r, .n r, .i r_From, .i r_To, .i r_Number, .c r_Reply, .i r_Kind, .i r_Epoch, .i r_At, .i r_Cell_What, .a r_Cell_Dataa, .n r_Cell_Datal, .n r_Cell_Datac, .p r_Cell_DataP, .i r_Ballot_Round, .i r_Ballot_Who, .a r_Valuea, .n r_Valuel, .n r_Valuec, .p r_ValueP, .i r_Err, .i r_Tail, .i r_Low, .i r_Back]
def t_deed2 : T :=
(.call 19 [(.a (.ptr (.v 1) 0)), (.a (.int .i64 (.v 9))), (.a (.int .i64 (.v 10)))] [((.b (.v 1)), (.prop 2))] [.i, .a, .n, .n, .p, .i, .p] (.tup [(.agg [(.int .i64 (.v 50)), (.sl (.v 51) (.v 52) (.v 53))]), (.a (.int .i64 (.v 55)))]) [((.a 51), (.prop 54)), ((.b (.v 1)), (.prop 56))]
(.ret (.w (.a (.int .i64 (.v 55)))) [((.b (.v 0)), (.cells [(.ptr (.v 1) 0)] 26)), ((.b (.v 1)), (.prop 56)), ((.b (.v 3)), (.cells [(.int .i64 (.v 4)), (.int .i64 (.v 5)), (.int .i64 (.v 6)), (.bool (.v 7)), (.int .i64 (.v 8)), (.int .i64 (.v 9)), (.int .i64 (.v 10)), (.int .i64 (.v 11)), (.sl (.v 12) (.v 13) (.v 14)), (.int .i64 (.v 16)), (.int .i64 (.v 17)), (.sl (.v 18) (.v 19) (.v 20)), (.int .i64 (.v 22)), (.int .i64 (.v 23)), (.int .i64 (.v 24)), (.int .i64 (.v 25))] 80)), ((.a 12), (.prop 15)), ((.a 18), (.prop 21)), ((.b (.v 26)), (.cells [(.ptr (.v 27) 0)] 154)), ((.b (.v 27)), (.cells [(.int .i64 (.v 28)), (.int .i64 (.v 29)), (.int .i64 (.v 30)), (.bool (.v 31)), (.int .i64 (.v 32)), (.int .i64 (.v 33)), (.int .i64 (.v 34)), (.int .i64 (.v 50)), (.sl (.v 51) (.v 52) (.v 53)), (.int .i64 (.v 40)), (.int .i64 (.v 41)), (.sl (.v 42) (.v 43) (.v 44)), (.int .i64 (.v 46)), (.int .i64 (.v 47)), (.int .i64 (.v 48)), (.int .i64 (.v 49))] 80)), ((.a 51), (.prop 54)), ((.a 42), (.prop 45)), ((.a 36), (.prop 39))]))
theorem tree_deed2 : tree Try.prog { absT := [], opq := [], hv := [], keep := [20, 38, 40, 88], link := [], ent := [], turn := [], shr := [], vt := [], mkd := [], rlink := [], pty := [], outl := false, stay := [], snk := [] } Try.f120 [(.a (.ptr (.v 0) 0)), (.a (.ptr (.v 3) 0)), (.a (.ptr (.v 26) 0))] [((.b (.v 0)), (.cells [(.ptr (.v 1) 0)] 26)), ((.b (.v 1)), (.prop 2)), ((.b (.v 3)), (.cells [(.int .i64 (.v 4)), (.int .i64 (.v 5)), (.int .i64 (.v 6)), (.bool (.v 7)), (.int .i64 (.v 8)), (.int .i64 (.v 9)), (.int .i64 (.v 10)), (.int .i64 (.v 11)), (.sl (.v 12) (.v 13) (.v 14)), (.int .i64 (.v 16)), (.int .i64 (.v 17)), (.sl (.v 18) (.v 19) (.v 20)), (.int .i64 (.v 22)), (.int .i64 (.v 23)), (.int .i64 (.v 24)), (.int .i64 (.v 25))] 80)), ((.a 12), (.prop 15)), ((.a 18), (.prop 21)), ((.b (.v 26)), (.cells [(.ptr (.v 27) 0)] 154)), ((.b (.v 27)), (.cells [(.int .i64 (.v 28)), (.int .i64 (.v 29)), (.int .i64 (.v 30)), (.bool (.v 31)), (.int .i64 (.v 32)), (.int .i64 (.v 33)), (.int .i64 (.v 34)), (.int .i64 (.v 35)), (.sl (.v 36) (.v 37) (.v 38)), (.int .i64 (.v 40)), (.int .i64 (.v 41)), (.sl (.v 42) (.v 43) (.v 44)), (.int .i64 (.v 46)), (.int .i64 (.v 47)), (.int .i64 (.v 48)), (.int .i64 (.v 49))] 80)), ((.a 36), (.prop 39)), ((.a 42), (.prop 45))] 50 = t_deed2 := by kernel_rfl
-- tideline/server.deeds$3: ρ := [.n u, .n u, .p uP, .n m, .i m_From, .i m_To, .i m_Number, .c m_Reply, .i m_Kind, .i m_Epoch, .i m_At, .i m_Cell_What, .a m_Cell_Dataa, .n m_Cell_Datal, .n m_Cell_Datac, .p m_Cell_DataP, .i m_Ballot_Round, .i m_Ballot_Who, .a m_Valuea, .n m_Valuel, .n m_Valuec, .p m_ValueP, .i m_Err, .i m_Tail, .i m_Low, .i m_Back]
def t_deed3 : T :=
(.call 63 [(.a (.ptr (.v 1) 0)), (.a (.int .i64 (.v 9))), (.a (.int .i64 (.v 10)))] [((.b (.v 1)), (.prop 2))] [.i, .p] (.w (.a (.int .i64 (.v 26)))) [((.b (.v 1)), (.prop 27))]
(.ret (.w (.a (.int .i64 (.v 26)))) [((.b (.v 0)), (.cells [(.ptr (.v 1) 0)] 26)), ((.b (.v 1)), (.prop 27)), ((.b (.v 3)), (.cells [(.int .i64 (.v 4)), (.int .i64 (.v 5)), (.int .i64 (.v 6)), (.bool (.v 7)), (.int .i64 (.v 8)), (.int .i64 (.v 9)), (.int .i64 (.v 10)), (.int .i64 (.v 11)), (.sl (.v 12) (.v 13) (.v 14)), (.int .i64 (.v 16)), (.int .i64 (.v 17)), (.sl (.v 18) (.v 19) (.v 20)), (.int .i64 (.v 22)), (.int .i64 (.v 23)), (.int .i64 (.v 24)), (.int .i64 (.v 25))] 80)), ((.a 12), (.prop 15)), ((.a 18), (.prop 21))]))
theorem tree_deed3 : tree Try.prog { absT := [], opq := [], hv := [], keep := [20, 38, 40, 88], link := [], ent := [], turn := [], shr := [], vt := [], mkd := [], rlink := [], pty := [], outl := false, stay := [], snk := [] } Try.f121 [(.a (.ptr (.v 0) 0)), (.a (.ptr (.v 3) 0))] [((.b (.v 0)), (.cells [(.ptr (.v 1) 0)] 26)), ((.b (.v 1)), (.prop 2)), ((.b (.v 3)), (.cells [(.int .i64 (.v 4)), (.int .i64 (.v 5)), (.int .i64 (.v 6)), (.bool (.v 7)), (.int .i64 (.v 8)), (.int .i64 (.v 9)), (.int .i64 (.v 10)), (.int .i64 (.v 11)), (.sl (.v 12) (.v 13) (.v 14)), (.int .i64 (.v 16)), (.int .i64 (.v 17)), (.sl (.v 18) (.v 19) (.v 20)), (.int .i64 (.v 22)), (.int .i64 (.v 23)), (.int .i64 (.v 24)), (.int .i64 (.v 25))] 80)), ((.a 12), (.prop 15)), ((.a 18), (.prop 21))] 26 = t_deed3 := by kernel_rfl
-- tideline/server.deeds$4: ρ := [.n u, .n u, .p uP, .n m, .i m_From, .i m_To, .i m_Number, .c m_Reply, .i m_Kind, .i m_Epoch, .i m_At, .i m_Cell_What, .a m_Cell_Dataa, .n m_Cell_Datal, .n m_Cell_Datac, .p m_Cell_DataP, .i m_Ballot_Round, .i m_Ballot_Who, .a m_Valuea, .n m_Valuel, .n m_Valuec, .p m_ValueP, .i m_Err, .i m_Tail, .i m_Low, .i m_Back, .n r, .n r, .i r_From, .i r_To, .i r_Number, .c r_Reply, .i r_Kind, .i r_Epoch, .i r_At, .i r_Cell_What, .a r_Cell_Dataa, .n r_Cell_Datal, .n r_Cell_Datac, .p r_Cell_DataP, .i r_Ballot_Round, .i r_Ballot_Who, .a r_Valuea, .n r_Valuel, .n r_Valuec, .p r_ValueP, .i r_Err, .i r_Tail, .i r_Low, .i r_Back]
def t_deed4 : T :=
(.call 20 [(.a (.ptr (.v 1) 0))] [((.b (.v 1)), (.prop 2))] [.i] (.w (.a (.int .i64 (.v 50)))) [((.b (.v 1)), (.prop 2))]
(.br (.o1 .not (.o2 .eq (.v 50) (.v 9)))
 (.call 65 [(.a (.ptr (.v 1) 0)), (.a (.int .i64 (.v 9)))] [((.b (.v 1)), (.prop 2))] [.i, .p] (.w (.a (.int .i64 (.v 51)))) [((.b (.v 1)), (.prop 52))]
 (.br (.o1 .not (.o2 .eq (.v 51) (.i 0)))
  (.ret (.w (.a (.int .i64 (.v 51)))) [((.b (.v 0)), (.cells [(.ptr (.v 1) 0)] 26)), ((.b (.v 1)), (.prop 52)), ((.b (.v 3)), (.cells [(.int .i64 (.v 4)), (.int .i64 (.v 5)), (.int .i64 (.v 6)), (.bool (.v 7)), (.int .i64 (.v 8)), (.int .i64 (.v 9)), (.int .i64 (.v 10)), (.int .i64 (.v 11)), (.sl (.v 12) (.v 13) (.v 14)), (.int .i64 (.v 16)), (.int .i64 (.v 17)), (.sl (.v 18) (.v 19) (.v 20)), (.int .i64 (.v 22)), (.int .i64 (.v 23)), (.int .i64 (.v 24)), (.int .i64 (.v 25))] 80)), ((.a 12), (.prop 15)), ((.a 18), (.prop 21)), ((.b (.v 26)), (.cells [(.ptr (.v 27) 0)] 154)), ((.b (.v 27)), (.cells [(.int .i64 (.v 28)), (.int .i64 (.v 29)), (.int .i64 (.v 30)), (.bool (.v 31)), (.int .i64 (.v 32)), (.int .i64 (.v 33)), (.int .i64 (.v 34)), (.int .i64 (.v 35)), (.sl (.v 36) (.v 37) (.v 38)), (.int .i64 (.v 40)), (.int .i64 (.v 41)), (.sl (.v 42) (.v 43) (.v 44)), (.int .i64 (.v 46)), (.int .i64 (.v 47)), (.int .i64 (.v 48)), (.int .i64 (.v 49))] 80)), ((.a 36), (.prop 39)), ((.a 42), (.prop 45))])
  (.call 40 [(.a (.ptr (.v 1) 0))] [((.b (.v 1)), (.prop 52))] [.i] (.w (.a (.int .i64 (.v 53)))) [((.b (.v 1)), (.prop 52))]
  (.ret (.w (.a (.int .i64 (.i 0)))) [((.b (.v 0)), (.cells [(.ptr (.v 1) 0)] 26)), ((.b (.v 1)), (.prop 52)), ((.b (.v 3)), (.cells [(.int .i64 (.v 4)), (.int .i64 (.v 5)), (.int .i64 (.v 6)), (.bool (.v 7)), (.int .i64 (.v 8)), (.int .i64 (.v 9)), (.int .i64 (.v 10)), (.int .i64 (.v 11)), (.sl (.v 12) (.v 13) (.v 14)), (.int .i64 (.v 16)), (.int .i64 (.v 17)), (.sl (.v 18) (.v 19) (.v 20)), (.int .i64 (.v 22)), (.int .i64 (.v 23)), (.int .i64 (.v 24)), (.int .i64 (.v 25))] 80)), ((.a 12), (.prop 15)), ((.a 18), (.prop 21)), ((.b (.v 26)), (.cells [(.ptr (.v 27) 0)] 154)), ((.b (.v 27)), (.cells [(.int .i64 (.v 28)), (.int .i64 (.v 29)), (.int .i64 (.v 30)), (.bool (.v 31)), (.int .i64 (.v 32)), (.int .i64 (.v 33)), (.int .i64 (.v 34)), (.int .i64 (.v 35)), (.sl (.v 36) (.v 37) (.v 38)), (.int .i64 (.v 40)), (.int .i64 (.v 41)), (.sl (.v 42) (.v 43) (.v 44)), (.int .i64 (.v 46)), (.int .i64 (.v 53)), (.int .i64 (.v 48)), (.int .i64 (.v 49))] 80)), ((.a 36), (.prop 39)), ((.a 42), (.prop 45))]))))
 (.call 40 [(.a (.ptr (.v 1) 0))] [((.b (.v 1)), (.prop 2))] [.i] (.w (.a (.int .i64 (.v 51)))) [((.b (.v 1)), (.prop 2))]
 (.ret (.w (.a (.int .i64 (.i 0)))) [((.b (.v 0)), (.cells [(.ptr (.v 1) 0)] 26)), ((.b (.v 1)), (.prop 2)), ((.b (.v 3)), (.cells [(.int .i64 (.v 4)), (.int .i64 (.v 5)), (.int .i64 (.v 6)), (.bool (.v 7)), (.int .i64 (.v 8)), (.int .i64 (.v 9)), (.int .i64 (.v 10)), (.int .i64 (.v 11)), (.sl (.v 12) (.v 13) (.v 14)), (.int .i64 (.v 16)), (.int .i64 (.v 17)), (.sl (.v 18) (.v 19) (.v 20)), (.int .i64 (.v 22)), (.int .i64 (.v 23)), (.int .i64 (.v 24)), (.int .i64 (.v 25))] 80)), ((.a 12), (.prop 15)), ((.a 18), (.prop 21)), ((.b (.v 26)), (.cells [(.ptr (.v 27) 0)] 154)), ((.b (.v 27)), (.cells [(.int .i64 (.v 28)), (.int .i64 (.v 29)), (.int .i64 (.v 30)), (.bool (.v 31)), (.int .i64 (.v 32)), (.int .i64 (.v 33)), (.int .i64 (.v 34)), (.int .i64 (.v 35)), (.sl (.v 36) (.v 37) (.v 38)), (.int .i64 (.v 40)), (.int .i64 (.v 41)), (.sl (.v 42) (.v 43) (.v 44)), (.int .i64 (.v 46)), (.int .i64 (.v 51)), (.int .i64 (.v 48)), (.int .i64 (.v 49))] 80)), ((.a 36), (.prop 39)), ((.a 42), (.prop 45))]))))
theorem tree_deed4 : tree Try.prog { absT := [], opq := [], hv := [], keep := [20, 38, 40, 88], link := [], ent := [], turn := [], shr := [], vt := [], mkd := [], rlink := [], pty := [], outl := false, stay := [], snk := [] } Try.f122 [(.a (.ptr (.v 0) 0)), (.a (.ptr (.v 3) 0)), (.a (.ptr (.v 26) 0))] [((.b (.v 0)), (.cells [(.ptr (.v 1) 0)] 26)), ((.b (.v 1)), (.prop 2)), ((.b (.v 3)), (.cells [(.int .i64 (.v 4)), (.int .i64 (.v 5)), (.int .i64 (.v 6)), (.bool (.v 7)), (.int .i64 (.v 8)), (.int .i64 (.v 9)), (.int .i64 (.v 10)), (.int .i64 (.v 11)), (.sl (.v 12) (.v 13) (.v 14)), (.int .i64 (.v 16)), (.int .i64 (.v 17)), (.sl (.v 18) (.v 19) (.v 20)), (.int .i64 (.v 22)), (.int .i64 (.v 23)), (.int .i64 (.v 24)), (.int .i64 (.v 25))] 80)), ((.a 12), (.prop 15)), ((.a 18), (.prop 21)), ((.b (.v 26)), (.cells [(.ptr (.v 27) 0)] 154)), ((.b (.v 27)), (.cells [(.int .i64 (.v 28)), (.int .i64 (.v 29)), (.int .i64 (.v 30)), (.bool (.v 31)), (.int .i64 (.v 32)), (.int .i64 (.v 33)), (.int .i64 (.v 34)), (.int .i64 (.v 35)), (.sl (.v 36) (.v 37) (.v 38)), (.int .i64 (.v 40)), (.int .i64 (.v 41)), (.sl (.v 42) (.v 43) (.v 44)), (.int .i64 (.v 46)), (.int .i64 (.v 47)), (.int .i64 (.v 48)), (.int .i64 (.v 49))] 80)), ((.a 36), (.prop 39)), ((.a 42), (.prop 45))] 50 = t_deed4 := by kernel_rfl
-- tideline/server.deeds$5: ρ := [.n u, .n u, .p uP, .n m, .i m_From, .i m_To, .i m_Number, .c m_Reply, .i m_Kind, .i m_Epoch, .i m_At, .i m_Cell_What, .a m_Cell_Dataa, .n m_Cell_Datal, .n m_Cell_Datac, .p m_Cell_DataP, .i m_Ballot_Round, .i m_Ballot_Who, .a m_Valuea, .n m_Valuel, .n m_Valuec, .p m_ValueP, .i m_Err, .i m_Tail, .i m_Low, .i m_Back, .n r, .n r, .i r_From, .i r_To, .i r_Number, .c r_Reply, .i r_Kind, .i r_Epoch, .i r_At, .i r_Cell_What, .a r_Cell_Dataa, .n r_Cell_Datal, .n r_Cell_Datac, .p r_Cell_DataP, .i r_Ballot_Round, .i r_Ballot_Who, .a r_Valuea, .n r_Valuel, .n r_Valuec, .p r_ValueP, .i r_Err, .i r_Tail, .i r_Low, .i r_Back]
def t_deed5 : T :=
(.call 20 [(.a (.ptr (.v 1) 0))] [((.b (.v 1)), (.prop 2))] [.i] (.w (.a (.int .i64 (.v 50)))) [((.b (.v 1)), (.prop 2))]
(.br (.o1 .not (.o2 .eq (.v 50) (.v 9)))
 (.ret (.w (.a (.int .i64 (.i 8)))) [((.b (.v 0)), (.cells [(.ptr (.v 1) 0)] 26)), ((.b (.v 1)), (.prop 2)), ((.b (.v 3)), (.cells [(.int .i64 (.v 4)), (.int .i64 (.v 5)), (.int .i64 (.v 6)), (.bool (.v 7)), (.int .i64 (.v 8)), (.int .i64 (.v 9)), (.int .i64 (.v 10)), (.int .i64 (.v 11)), (.sl (.v 12) (.v 13) (.v 14)), (.int .i64 (.v 16)), (.int .i64 (.v 17)), (.sl (.v 18) (.v 19) (.v 20)), (.int .i64 (.v 22)), (.int .i64 (.v 23)), (.int .i64 (.v 24)), (.int .i64 (.v 25))] 80)), ((.a 12), (.prop 15)), ((.a 18), (.prop 21)), ((.b (.v 26)), (.cells [(.ptr (.v 27) 0)] 154)), ((.b (.v 27)), (.cells [(.int .i64 (.v 28)), (.int .i64 (.v 29)), (.int .i64 (.v 30)), (.bool (.v 31)), (.int .i64 (.v 32)), (.int .i64 (.v 33)), (.int .i64 (.v 34)), (.int .i64 (.v 35)), (.sl (.v 36) (.v 37) (.v 38)), (.int .i64 (.v 40)), (.int .i64 (.v 41)), (.sl (.v 42) (.v 43) (.v 44)), (.int .i64 (.v 46)), (.int .i64 (.v 47)), (.int .i64 (.v 48)), (.int .i64 (.v 49))] 80)), ((.a 36), (.prop 39)), ((.a 42), (.prop 45))])
 (.call 40 [(.a (.ptr (.v 1) 0))] [((.b (.v 1)), (.prop 2))] [.i] (.w (.a (.int .i64 (.v 51)))) [((.b (.v 1)), (.prop 2))]
 (.ret (.w (.a (.int .i64 (.i 0)))) [((.b (.v 0)), (.cells [(.ptr (.v 1) 0)] 26)), ((.b (.v 1)), (.prop 2)), ((.b (.v 3)), (.cells [(.int .i64 (.v 4)), (.int .i64 (.v 5)), (.int .i64 (.v 6)), (.bool (.v 7)), (.int .i64 (.v 8)), (.int .i64 (.v 9)), (.int .i64 (.v 10)), (.int .i64 (.v 11)), (.sl (.v 12) (.v 13) (.v 14)), (.int .i64 (.v 16)), (.int .i64 (.v 17)), (.sl (.v 18) (.v 19) (.v 20)), (.int .i64 (.v 22)), (.int .i64 (.v 23)), (.int .i64 (.v 24)), (.int .i64 (.v 25))] 80)), ((.a 12), (.prop 15)), ((.a 18), (.prop 21)), ((.b (.v 26)), (.cells [(.ptr (.v 27) 0)] 154)), ((.b (.v 27)), (.cells [(.int .i64 (.v 28)), (.int .i64 (.v 29)), (.int .i64 (.v 30)), (.bool (.v 31)), (.int .i64 (.v 32)), (.int .i64 (.v 33)), (.int .i64 (.v 34)), (.int .i64 (.v 35)), (.sl (.v 36) (.v 37) (.v 38)), (.int .i64 (.v 40)), (.int .i64 (.v 41)), (.sl (.v 42) (.v 43) (.v 44)), (.int .i64 (.v 46)), (.int .i64 (.v 51)), (.int .i64 (.v 48)), (.int .i64 (.v 49))] 80)), ((.a 36), (.prop 39)), ((.a 42), (.prop 45))]))))
theorem tree_deed5 : tree Try.prog { absT := [], opq := [], hv := [], keep := [20, 38, 40, 88], link := [], ent := [], turn := [], shr := [], vt := [], mkd := [], rlink := [], pty := [], outl := false, stay := [], snk := [] } Try.f123 [(.a (.ptr (.v 0) 0)), (.a (.ptr (.v 3) 0)), (.a (.ptr (.v 26) 0))] [((.b (.v 0)), (.cells [(.ptr (.v 1) 0)] 26)), ((.b (.v 1)), (.prop 2)), ((.b (.v 3)), (.cells [(.int .i64 (.v 4)), (.int .i64 (.v 5)), (.int .i64 (.v 6)), (.bool (.v 7)), (.int .i64 (.v 8)), (.int .i64 (.v 9)), (.int .i64 (.v 10)), (.int .i64 (.v 11)), (.sl (.v 12) (.v 13) (.v 14)), (.int .i64 (.v 16)), (.int .i64 (.v 17)), (.sl (.v 18) (.v 19) (.v 20)), (.int .i64 (.v 22)), (.int .i64 (.v 23)), (.int .i64 (.v 24)), (.int .i64 (.v 25))] 80)), ((.a 12), (.prop 15)), ((.a 18), (.prop 21)), ((.b (.v 26)), (.cells [(.ptr (.v 27) 0)] 154)), ((.b (.v 27)), (.cells [(.int .i64 (.v 28)), (.int .i64 (.v 29)), (.int .i64 (.v 30)), (.bool (.v 31)), (.int .i64 (.v 32)), (.int .i64 (.v 33)), (.int .i64 (.v 34)), (.int .i64 (.v 35)), (.sl (.v 36) (.v 37) (.v 38)), (.int .i64 (.v 40)), (.int .i64 (.v 41)), (.sl (.v 42) (.v 43) (.v 44)), (.int .i64 (.v 46)), (.int .i64 (.v 47)), (.int .i64 (.v 48)), (.int .i64 (.v 49))] 80)), ((.a 36), (.prop 39)), ((.a 42), (.prop 45))] 50 = t_deed5 := by kernel_rfl
-- tideline/server.deeds$6: ρ := [.n u, .n u, .p uP, .n m, .i m_From, .i m_To, .i m_Number, .c m_Reply, .i m_Kind, .i m_Epoch, .i m_At, .i m_Cell_What, .a m_Cell_Dataa, .n m_Cell_Datal, .n m_Cell_Datac, .p m_Cell_DataP, .i m_Ballot_Round, .i m_Ballot_Who, .a m_Valuea, .n m_Valuel, .n m_Valuec, .p m_ValueP, .i m_Err, .i m_Tail, .i m_Low, .i m_Back, .n r, .n r, .i r_From, .i r_To, .i r_Number, .c r_Reply, .i r_Kind, .i r_Epoch, .i r_At, .i r_Cell_What, .a r_Cell_Dataa, .n r_Cell_Datal, .n r_Cell_Datac, .p r_Cell_DataP, .i r_Ballot_Round, .i r_Ballot_Who, .a r_Valuea, .n r_Valuel, .n r_Valuec, .p r_ValueP, .i r_Err, .i r_Tail, .i r_Low, .i r_Back]
def t_deed6 : T :=
(.call 26 [(.a (.ptr (.v 1) 0)), (.a (.int .i64 (.v 10))), (.agg [(.int .i64 (.v 16)), (.int .i64 (.v 17))])] [((.b (.v 1)), (.prop 2))] [.i, .i, .a, .n, .n, .p, .i, .p] (.tup [(.agg [(.int .i64 (.v 50)), (.int .i64 (.v 51))]), (.a (.sl (.v 52) (.v 53) (.v 54))), (.a (.int .i64 (.v 56)))]) [((.a 52), (.prop 55)), ((.b (.v 1)), (.prop 57))]
(.ret (.w (.a (.int .i64 (.v 56)))) [((.b (.v 0)), (.cells [(.ptr (.v 1) 0)] 26)), ((.b (.v 1)), (.prop 57)), ((.b (.v 3)), (.cells [(.int .i64 (.v 4)), (.int .i64 (.v 5)), (.int .i64 (.v 6)), (.bool (.v 7)), (.int .i64 (.v 8)), (.int .i64 (.v 9)), (.int .i64 (.v 10)), (.int .i64 (.v 11)), (.sl (.v 12) (.v 13) (.v 14)), (.int .i64 (.v 16)), (.int .i64 (.v 17)), (.sl (.v 18) (.v 19) (.v 20)), (.int .i64 (.v 22)), (.int .i64 (.v 23)), (.int .i64 (.v 24)), (.int .i64 (.v 25))] 80)), ((.a 12), (.prop 15)), ((.a 18), (.prop 21)), ((.b (.v 26)), (.cells [(.ptr (.v 27) 0)] 154)), ((.b (.v 27)), (.cells [(.int .i64 (.v 28)), (.int .i64 (.v 29)), (.int .i64 (.v 30)), (.bool (.v 31)), (.int .i64 (.v 32)), (.int .i64 (.v 33)), (.int .i64 (.v 34)), (.int .i64 (.v 35)), (.sl (.v 36) (.v 37) (.v 38)), (.int .i64 (.v 50)), (.int .i64 (.v 51)), (.sl (.v 52) (.v 53) (.v 54)), (.int .i64 (.v 46)), (.int .i64 (.v 47)), (.int .i64 (.v 48)), (.int .i64 (.v 49))] 80)), ((.a 36), (.prop 39)), ((.a 52), (.prop 55)), ((.a 42), (.prop 45))]))
theorem tree_deed6 : tree Try.prog { absT := [], opq := [], hv := [], keep := [20, 38, 40, 88], link := [], ent := [], turn := [], shr := [], vt := [], mkd := [], rlink := [], pty := [], outl := false, stay := [], snk := [] } Try.f124 [(.a (.ptr (.v 0) 0)), (.a (.ptr (.v 3) 0)), (.a (.ptr (.v 26) 0))] [((.b (.v 0)), (.cells [(.ptr (.v 1) 0)] 26)), ((.b (.v 1)), (.prop 2)), ((.b (.v 3)), (.cells [(.int .i64 (.v 4)), (.int .i64 (.v 5)), (.int .i64 (.v 6)), (.bool (.v 7)), (.int .i64 (.v 8)), (.int .i64 (.v 9)), (.int .i64 (.v 10)), (.int .i64 (.v 11)), (.sl (.v 12) (.v 13) (.v 14)), (.int .i64 (.v 16)), (.int .i64 (.v 17)), (.sl (.v 18) (.v 19) (.v 20)), (.int .i64 (.v 22)), (.int .i64 (.v 23)), (.int .i64 (.v 24)), (.int .i64 (.v 25))] 80)), ((.a 12), (.prop 15)), ((.a 18), (.prop 21)), ((.b (.v 26)), (.cells [(.ptr (.v 27) 0)] 154)), ((.b (.v 27)), (.cells [(.int .i64 (.v 28)), (.int .i64 (.v 29)), (.int .i64 (.v 30)), (.bool (.v 31)), (.int .i64 (.v 32)), (.int .i64 (.v 33)), (.int .i64 (.v 34)), (.int .i64 (.v 35)), (.sl (.v 36) (.v 37) (.v 38)), (.int .i64 (.v 40)), (.int .i64 (.v 41)), (.sl (.v 42) (.v 43) (.v 44)), (.int .i64 (.v 46)), (.int .i64 (.v 47)), (.int .i64 (.v 48)), (.int .i64 (.v 49))] 80)), ((.a 36), (.prop 39)), ((.a 42), (.prop 45))] 50 = t_deed6 := by kernel_rfl
-- tideline/server.deeds$7: ρ := [.n u, .n u, .p uP, .n m, .i m_From, .i m_To, .i m_Number, .c m_Reply, .i m_Kind, .i m_Epoch, .i m_At, .i m_Cell_What, .a m_Cell_Dataa, .n m_Cell_Datal, .n m_Cell_Datac, .p m_Cell_DataP, .i m_Ballot_Round, .i m_Ballot_Who, .a m_Valuea, .n m_Valuel, .n m_Valuec, .p m_ValueP, .i m_Err, .i m_Tail, .i m_Low, .i m_Back]
def t_deed7 : T :=
(.call 29 [(.a (.ptr (.v 1) 0)), (.a (.int .i64 (.v 10))), (.agg [(.int .i64 (.v 16)), (.int .i64 (.v 17))]), (.a (.sl (.v 18) (.v 19) (.v 20)))] [((.b (.v 1)), (.prop 2)), ((.a 18), (.prop 21))] [.i, .p, .p] (.w (.a (.int .i64 (.v 26)))) [((.b (.v 1)), (.prop 27)), ((.a 18), (.prop 28))]
(.ret (.w (.a (.int .i64 (.v 26)))) [((.b (.v 0)), (.cells [(.ptr (.v 1) 0)] 26)), ((.b (.v 1)), (.prop 27)), ((.b (.v 3)), (.cells [(.int .i64 (.v 4)), (.int .i64 (.v 5)), (.int .i64 (.v 6)), (.bool (.v 7)), (.int .i64 (.v 8)), (.int .i64 (.v 9)), (.int .i64 (.v 10)), (.int .i64 (.v 11)), (.sl (.v 12) (.v 13) (.v 14)), (.int .i64 (.v 16)), (.int .i64 (.v 17)), (.sl (.v 18) (.v 19) (.v 20)), (.int .i64 (.v 22)), (.int .i64 (.v 23)), (.int .i64 (.v 24)), (.int .i64 (.v 25))] 80)), ((.a 12), (.prop 15)), ((.a 18), (.prop 28))]))
theorem tree_deed7 : tree Try.prog { absT := [], opq := [], hv := [], keep := [20, 38, 40, 88], link := [], ent := [], turn := [], shr := [], vt := [], mkd := [], rlink := [], pty := [], outl := false, stay := [], snk := [] } Try.f125 [(.a (.ptr (.v 0) 0)), (.a (.ptr (.v 3) 0))] [((.b (.v 0)), (.cells [(.ptr (.v 1) 0)] 26)), ((.b (.v 1)), (.prop 2)), ((.b (.v 3)), (.cells [(.int .i64 (.v 4)), (.int .i64 (.v 5)), (.int .i64 (.v 6)), (.bool (.v 7)), (.int .i64 (.v 8)), (.int .i64 (.v 9)), (.int .i64 (.v 10)), (.int .i64 (.v 11)), (.sl (.v 12) (.v 13) (.v 14)), (.int .i64 (.v 16)), (.int .i64 (.v 17)), (.sl (.v 18) (.v 19) (.v 20)), (.int .i64 (.v 22)), (.int .i64 (.v 23)), (.int .i64 (.v 24)), (.int .i64 (.v 25))] 80)), ((.a 12), (.prop 15)), ((.a 18), (.prop 21))] 26 = t_deed7 := by kernel_rfl
-- tideline/server.Answer: ρ := [.n u, .p uP, .i m_From, .i m_To, .i m_Number, .c m_Reply, .i m_Kind, .i m_Epoch, .i m_At, .i m_Cell_What, .a m_Cell_Dataa, .n m_Cell_Datal, .n m_Cell_Datac, .p m_Cell_DataP, .i m_Ballot_Round, .i m_Ballot_Who, .a m_Valuea, .n m_Valuel, .n m_Valuec, .p m_ValueP, .i m_Err, .i m_Tail, .i m_Low, .i m_Back]
def t_answer : T :=
(.new
(.new
(.call 88 [(.agg [(.int .i64 (.v 2)), (.int .i64 (.v 3)), (.int .i64 (.v 4)), (.bool (.v 5)), (.int .i64 (.v 6)), (.int .i64 (.v 7)), (.int .i64 (.v 8)), (.int .i64 (.v 9)), (.sl (.v 10) (.v 11) (.v 12)), (.int .i64 (.v 14)), (.int .i64 (.v 15)), (.sl (.v 16) (.v 17) (.v 18)), (.int .i64 (.v 20)), (.int .i64 (.v 21)), (.int .i64 (.v 22)), (.int .i64 (.v 23))]), (.a (.int .i64 (.i 0)))] [((.a 10), (.prop 13)), ((.a 16), (.prop 19))] [.i, .i, .i, .c, .i, .i, .i, .i, .a, .n, .n, .p, .i, .i, .a, .n, .n, .p, .i, .i, .i, .i] (.w (.agg [(.int .i64 (.v 26)), (.int .i64 (.v 27)), (.int .i64 (.v 28)), (.bool (.v 29)), (.int .i64 (.v 30)), (.int .i64 (.v 31)), (.int .i64 (.v 32)), (.int .i64 (.v 33)), (.sl (.v 34) (.v 35) (.v 36)), (.int .i64 (.v 38)), (.int .i64 (.v 39)), (.sl (.v 40) (.v 41) (.v 42)), (.int .i64 (.v 44)), (.int .i64 (.v 45)), (.int .i64 (.v 46)), (.int .i64 (.v 47))])) [((.a 34), (.prop 37)), ((.a 40), (.prop 43)), ((.a 10), (.prop 13)), ((.a 16), (.prop 19))]
(.new
(.call 89 [(.a (.ptr (.v 0) 0)), (.agg [(.int .i64 (.v 2)), (.int .i64 (.v 3)), (.int .i64 (.v 4)), (.bool (.v 5)), (.int .i64 (.v 6)), (.int .i64 (.v 7)), (.int .i64 (.v 8)), (.int .i64 (.v 9)), (.sl (.v 10) (.v 11) (.v 12)), (.int .i64 (.v 14)), (.int .i64 (.v 15)), (.sl (.v 16) (.v 17) (.v 18)), (.int .i64 (.v 20)), (.int .i64 (.v 21)), (.int .i64 (.v 22)), (.int .i64 (.v 23))]), (.a (.ptr (.v 48) 0))] [((.b (.v 0)), (.prop 1)), ((.a 10), (.prop 13)), ((.a 16), (.prop 19)), ((.b (.v 48)), (.cells [(.int .i64 (.v 26)), (.int .i64 (.v 27)), (.int .i64 (.v 28)), (.bool (.v 29)), (.int .i64 (.v 30)), (.int .i64 (.v 31)), (.int .i64 (.v 32)), (.int .i64 (.v 33)), (.sl (.v 34) (.v 35) (.v 36)), (.int .i64 (.v 38)), (.int .i64 (.v 39)), (.sl (.v 40) (.v 41) (.v 42)), (.int .i64 (.v 44)), (.int .i64 (.v 45)), (.int .i64 (.v 46)), (.int .i64 (.v 47))] 80)), ((.a 34), (.prop 37)), ((.a 40), (.prop 43))] [.n, .p, .p, .p, .p, .i, .i, .i, .c, .i, .i, .i, .i, .a, .n, .n, .p, .i, .i, .a, .n, .n, .p, .i, .i, .i, .i] (.w (.a (.map (.v 49)))) [((.b (.v 49)), (.prop 50)), ((.b (.v 0)), (.prop 51)), ((.a 10), (.prop 52)), ((.a 16), (.prop 53)), ((.b (.v 48)), (.cells [(.int .i64 (.v 54)), (.int .i64 (.v 55)), (.int .i64 (.v 56)), (.bool (.v 57)), (.int .i64 (.v 58)), (.int .i64 (.v 59)), (.int .i64 (.v 60)), (.int .i64 (.v 61)), (.sl (.v 62) (.v 63) (.v 64)), (.int .i64 (.v 66)), (.int .i64 (.v 67)), (.sl (.v 68) (.v 69) (.v 70)), (.int .i64 (.v 72)), (.int .i64 (.v 73)), (.int .i64 (.v 74)), (.int .i64 (.v 75))] 80)), ((.a 62), (.prop 65)), ((.a 68), (.prop 71))]
(.read (.lookup 152 (.tmp 14) (.tmp 16) true) 151 [(14, (.w (.a (.map (.v 49))))), (16, (.w (.a (.int .i64 (.v 6)))))] [((.b (.v 49)), (.prop 50))] [.v, .c] (.tup [(.a (.val 76)), (.a (.bool (.v 77)))])
(.br (.v 5)
 (.ret (.tup [(.agg [(.int .i64 (.i 0)), (.int .i64 (.i 0)), (.int .i64 (.i 0)), (.bool (.c false)), (.int .i64 (.i 0)), (.int .i64 (.i 0)), (.int .i64 (.i 0)), (.int .i64 (.i 0)), (.sl .nil (.n 0) (.n 0)), (.int .i64 (.i 0)), (.int .i64 (.i 0)), (.sl .nil (.n 0) (.n 0)), (.int .i64 (.i 0)), (.int .i64 (.i 0)), (.int .i64 (.i 0)), (.int .i64 (.i 0))]), (.a (.bool (.c false)))]) [((.b (.v 0)), (.prop 51)), ((.a 10), (.prop 52)), ((.a 16), (.prop 53))])
 (.br (.o1 .not (.v 77))
  (.ret (.tup [(.agg [(.int .i64 (.i 0)), (.int .i64 (.i 0)), (.int .i64 (.i 0)), (.bool (.c false)), (.int .i64 (.i 0)), (.int .i64 (.i 0)), (.int .i64 (.i 0)), (.int .i64 (.i 0)), (.sl .nil (.n 0) (.n 0)), (.int .i64 (.i 0)), (.int .i64 (.i 0)), (.sl .nil (.n 0) (.n 0)), (.int .i64 (.i 0)), (.int .i64 (.i 0)), (.int .i64 (.i 0)), (.int .i64 (.i 0))]), (.a (.bool (.c false)))]) [((.b (.v 0)), (.prop 51)), ((.a 10), (.prop 52)), ((.a 16), (.prop 53))])
  (.callv 76 [] [((.b (.v 49)), (.prop 50)), ((.b (.v 0)), (.prop 51)), ((.b (.v 48)), (.cells [(.int .i64 (.v 54)), (.int .i64 (.v 55)), (.int .i64 (.v 56)), (.bool (.v 57)), (.int .i64 (.v 58)), (.int .i64 (.v 59)), (.int .i64 (.v 60)), (.int .i64 (.v 61)), (.sl (.v 62) (.v 63) (.v 64)), (.int .i64 (.v 66)), (.int .i64 (.v 67)), (.sl (.v 68) (.v 69) (.v 70)), (.int .i64 (.v 72)), (.int .i64 (.v 73)), (.int .i64 (.v 74)), (.int .i64 (.v 75))] 80)), ((.a 62), (.prop 65)), ((.a 68), (.prop 71))] [.i, .p, .i, .i, .i, .c, .i, .i, .i, .i, .a, .n, .n, .p, .i, .i, .a, .n, .n, .p, .i, .i, .i, .i] (.w (.a (.int .i64 (.v 78)))) [((.b (.v 0)), (.prop 79)), ((.b (.v 48)), (.cells [(.int .i64 (.v 80)), (.int .i64 (.v 81)), (.int .i64 (.v 82)), (.bool (.v 83)), (.int .i64 (.v 84)), (.int .i64 (.v 85)), (.int .i64 (.v 86)), (.int .i64 (.v 87)), (.sl (.v 88) (.v 89) (.v 90)), (.int .i64 (.v 92)), (.int .i64 (.v 93)), (.sl (.v 94) (.v 95) (.v 96)), (.int .i64 (.v 98)), (.int .i64 (.v 99)), (.int .i64 (.v 100)), (.int .i64 (.v 101))] 80)), ((.a 88), (.prop 91)), ((.a 94), (.prop 97)), ((.b (.v 49)), (.prop 50)), ((.a 62), (.prop 65)), ((.a 68), (.prop 71))]
  (.br (.o1 .not (.o2 .eq (.v 78) (.i 0)))
   (.br (.o1 .not (.o2 .eq (.v 78) (.i 10)))
    (.call 38 [(.a (.ptr (.v 0) 0))] [((.b (.v 0)), (.prop 79))] [.i] (.w (.a (.int .i64 (.v 102)))) [((.b (.v 0)), (.prop 79))]
    (.call 20 [(.a (.ptr (.v 0) 0))] [((.b (.v 0)), (.prop 79))] [.i] (.w (.a (.int .i64 (.v 103)))) [((.b (.v 0)), (.prop 79))]
    (.ret (.tup [(.agg [(.int .i64 (.v 80)), (.int .i64 (.v 81)), (.int .i64 (.v 82)), (.bool (.v 83)), (.int .i64 (.v 84)), (.int .i64 (.v 85)), (.int .i64 (.v 86)), (.int .i64 (.i 0)), (.sl .nil (.n 0) (.n 0)), (.int .i64 (.i 0)), (.int .i64 (.i 0)), (.sl .nil (.n 0) (.n 0)), (.int .i64 (.v 78)), (.int .i64 (.i 0)), (.int .i64 (.v 102)), (.int .i64 (.v 103))]), (.a (.bool (.c true)))]) [((.b (.v 0)), (.prop 79)), ((.a 10), (.prop 52)), ((.a 16), (.prop 53))])))
    (.call 38 [(.a (.ptr (.v 0) 0))] [((.b (.v 0)), (.prop 79))] [.i] (.w (.a (.int .i64 (.v 102)))) [((.b (.v 0)), (.prop 79))]
    (.call 20 [(.a (.ptr (.v 0) 0))] [((.b (.v 0)), (.prop 79))] [.i] (.w (.a (.int .i64 (.v 103)))) [((.b (.v 0)), (.prop 79))]
    (.ret (.tup [(.agg [(.int .i64 (.v 80)), (.int .i64 (.v 81)), (.int .i64 (.v 82)), (.bool (.v 83)), (.int .i64 (.v 84)), (.int .i64 (.v 85)), (.int .i64 (.v 86)), (.int .i64 (.v 87)), (.sl (.v 88) (.v 89) (.v 90)), (.int .i64 (.i 0)), (.int .i64 (.i 0)), (.sl .nil (.n 0) (.n 0)), (.int .i64 (.v 78)), (.int .i64 (.i 0)), (.int .i64 (.v 102)), (.int .i64 (.v 103))]), (.a (.bool (.c true)))]) [((.b (.v 0)), (.prop 79)), ((.a 10), (.prop 52)), ((.a 16), (.prop 53)), ((.a 88), (.prop 91))]))))
   (.call 38 [(.a (.ptr (.v 0) 0))] [((.b (.v 0)), (.prop 79))] [.i] (.w (.a (.int .i64 (.v 102)))) [((.b (.v 0)), (.prop 79))]
   (.call 20 [(.a (.ptr (.v 0) 0))] [((.b (.v 0)), (.prop 79))] [.i] (.w (.a (.int .i64 (.v 103)))) [((.b (.v 0)), (.prop 79))]
   (.ret (.tup [(.agg [(.int .i64 (.v 80)), (.int .i64 (.v 81)), (.int .i64 (.v 82)), (.bool (.v 83)), (.int .i64 (.v 84)), (.int .i64 (.v 85)), (.int .i64 (.v 86)), (.int .i64 (.v 87)), (.sl (.v 88) (.v 89) (.v 90)), (.int .i64 (.v 92)), (.int .i64 (.v 93)), (.sl (.v 94) (.v 95) (.v 96)), (.int .i64 (.v 78)), (.int .i64 (.v 99)), (.int .i64 (.v 102)), (.int .i64 (.v 103))]), (.a (.bool (.c true)))]) [((.b (.v 0)), (.prop 79)), ((.a 10), (.prop 52)), ((.a 16), (.prop 53)), ((.a 88), (.prop 91)), ((.a 94), (.prop 97))])))))))))))))
theorem tree_answer : tree Try.prog { absT := [], opq := [], hv := [], keep := [20, 38, 40, 88], link := [], ent := [], turn := [], shr := [], vt := [(.b (.v 0)), (.b (.v 48))], mkd := [], rlink := [], pty := [], outl := false, stay := [], snk := [] } Try.f45 [(.a (.ptr (.v 0) 0)), (.agg [(.int .i64 (.v 2)), (.int .i64 (.v 3)), (.int .i64 (.v 4)), (.bool (.v 5)), (.int .i64 (.v 6)), (.int .i64 (.v 7)), (.int .i64 (.v 8)), (.int .i64 (.v 9)), (.sl (.v 10) (.v 11) (.v 12)), (.int .i64 (.v 14)), (.int .i64 (.v 15)), (.sl (.v 16) (.v 17) (.v 18)), (.int .i64 (.v 20)), (.int .i64 (.v 21)), (.int .i64 (.v 22)), (.int .i64 (.v 23))])] [((.b (.v 0)), (.prop 1)), ((.a 10), (.prop 13)), ((.a 16), (.prop 19))] 24 = t_answer := by kernel_rfl
end Go.Proofs.Ytmibmjehjagmbaa.RX

/- Contracts of the server: messages, replies, what is done to each kind of request. No condition. -/
namespace Go.Proofs.Ytmibmjehjagmbaa
set_option linter.unusedSimpArgs false
set_option linter.unusedVariables false
open Go.Proofs.Ytmibmjehjagmbaa RX

/-- A message as Go keeps it. -/
structure MR where
  fr : Int
  to : Int
  num : Int
  rep : Bool
  kind : Int
  ep : Int
  at' : Int
  what : Int
  ca : Option Addr
  cn : Nat
  cc : Nat
  br : Int
  bw : Int
  va : Option Addr
  vn : Nat
  vc : Nat
  err : Int
  tail : Int
  low : Int
  back : Int
abbrev MR.vals (m : MR) : Array Value := #[.int .i64 m.fr, .int .i64 m.to, .int .i64 m.num, .bool m.rep, .int .i64 m.kind, .int .i64 m.ep, .int .i64 m.at', .int .i64 m.what, .slice m.ca m.cn m.cc, .int .i64 m.br, .int .i64 m.bw, .slice m.va m.vn m.vc, .int .i64 m.err, .int .i64 m.tail, .int .i64 m.low, .int .i64 m.back]
abbrev MOne (b : Nat) (m : MR) : HP := HP.one b (.cells m.vals 80)
def repR (m : MR) (e : Int) : MR := ⟨m.to, m.fr, m.num, true, m.kind, m.ep, m.at', 0, none, 0, 0, 0, 0, none, 0, 0, e, 0, 0, 0⟩
theorem reply_ok (m : MR) (e : Int) (Dm Vm : HP) : Tri Try.prog 88 #[.agg m.vals, .int .i64 e] (HP.sep Dm Vm) (fun v => HP.and (v = .agg (repR m e).vals) (HP.sep Dm Vm)) := by
  refine tri_of_tree (ρ := [.i m.fr, .i m.to, .i m.num, .c m.rep, .i m.kind, .i m.ep, .i m.at', .i m.what, .a m.ca, .n m.cn, .n m.cc, .p Dm, .i m.br, .i m.bw, .a m.va, .n m.vn, .n m.vc, .p Vm, .i m.err, .i m.tail, .i m.low, .i m.back, .i e]) mixed Try.func88 tree_reply ?_
  unfold t_reply
  simp only [T.den, E.prop, E.den, RX.look, F1.app, F2.app, Uni.int_i, Uni.nat_n, Uni.bool_c, Uni.str_s, Uni.adr_a, Uni.val_v, Uni.hp_p, hden, cden, V.den, W.den, A.den, BR.den, SA.den, FV.den, capV, exs, exP, allP, Cur.app, List.map_cons, List.map_nil, List.cons_append, List.nil_append, List.drop_succ_cons, List.drop_zero, List.length_cons, List.length_nil, Nat.zero_add, Nat.reduceAdd, Int.neg_neg, Bool.not_not, List.append_nil, Nat.add_zero, List.getElem?_cons_zero, List.getElem?_cons_succ, Decidable.not_not]
  exact fun x y => .of fun R h H => ⟨rfl, H⟩
theorem semOf_insertC {ρ : Env} {i j : Nat} {t ty : TypeId} {u v : V} {k : Value} (h : i ≠ j) : semOf ρ (.insert t (.tmp i) (.const k) (.tmp j)) ty [(i, u), (j, v)] = updS t (u.den ρ) k (v.den ρ) := by
  have h' : (i == j) = false := by simpa using h
  simp [semOf, execOp, arEval, h', updS]
theorem undMf : Try.prog.underlying 152 = some (.map 3 150) := by kernel_rfl
def fv3 (f : FuncId) (bu bm br : Nat) : Value := .func (.func f) #[] #[.pointer (some ⟨bu, 0, none⟩), .pointer (some ⟨bm, 0, none⟩), .pointer (some ⟨br, 0, none⟩)]
def fv2 (f : FuncId) (bu bm : Nat) : Value := .func (.func f) #[] #[.pointer (some ⟨bu, 0, none⟩), .pointer (some ⟨bm, 0, none⟩)]
def deedsAL (bu bm br : Nat) : AL Int := [(1, fv3 119 bu bm br, 0), (2, fv3 120 bu bm br, 1), (3, fv2 121 bu bm, 2), (4, fv3 122 bu bm br, 3), (5, fv3 123 bu bm br, 4), (6, fv3 124 bu bm br, 5), (7, fv2 125 bu bm, 6)]
abbrev BoxU (bu ub : Nat) : HP := HP.one bu (.cells #[.pointer (some ⟨ub, 0, none⟩)] 26)
abbrev BoxR (br rb : Nat) : HP := HP.one br (.cells #[.pointer (some ⟨rb, 0, none⟩)] 154)
theorem ins_ok {mp : Nat} {l : AL Int} {c : Nat} (k : Int) (v : Value) (K : HP) : OTri Try.prog (updS 152 (.map (some mp)) (.int .i64 k) v) (HP.sep (HP.one mp (mapObj iE l c)) K) (fun x => HP.and (x = .tuple #[]) (HP.sep (HP.one mp (mapObj iE (alPut k v c l) (alClock k l c))) K)) :=
  ((upd_ok (r := mp) (l := l) (c := c) iK undMf k v).frame K).weak (fun _ _ h => h) (fun x R h ⟨h1, h2, d, l1, l2, ⟨e, H⟩, HK⟩ => ⟨e, h1, h2, d, l1, l2, H, HK⟩)
theorem deeds_ok (ub : Nat) (U : HP) (m : MR) (Dm Vm : HP) (rb : Nat) (Rc : HP) :
    Tri Try.prog 89 #[.pointer (some ⟨ub, 0, none⟩), .agg m.vals, .pointer (some ⟨rb, 0, none⟩)] (HP.sep U (HP.sep Dm (HP.sep Vm Rc)))
    (fun v => HP.ex fun mp => HP.ex fun bu => HP.ex fun bm => HP.ex fun br => HP.and (v = .map (some mp)) (HP.sep (HP.one mp (mapObj iE (deedsAL bu bm br) 7)) (HP.sep (BoxU bu ub) (HP.sep U (HP.sep (MOne bm m) (HP.sep Dm (HP.sep Vm (HP.sep (BoxR br rb) Rc)))))))) := by
  refine tri_of_tree (ρ := [.n ub, .p U, .i m.fr, .i m.to, .i m.num, .c m.rep, .i m.kind, .i m.ep, .i m.at', .i m.what, .a m.ca, .n m.cn, .n m.cc, .p Dm, .i m.br, .i m.bw, .a m.va, .n m.vn, .n m.vc, .p Vm, .i m.err, .i m.tail, .i m.low, .i m.back, .n rb, .p Rc]) mixed Try.func89 tree_deeds ?_
  unfold t_deeds
  simp only [T.den, E.prop, E.den, RX.look, F1.app, F2.app, Uni.int_i, Uni.nat_n, Uni.bool_c, Uni.str_s, Uni.adr_a, Uni.val_v, Uni.hp_p, hden, cden, V.den, W.den, A.den, BR.den, SA.den, FV.den, capV, exs, exP, allP, Cur.app, List.map_cons, List.map_nil, List.cons_append, List.nil_append, List.drop_succ_cons, List.drop_zero, List.length_cons, List.length_nil, Nat.zero_add, Nat.reduceAdd, Int.neg_neg, Bool.not_not, List.append_nil, Nat.add_zero, List.getElem?_cons_zero, List.getElem?_cons_succ, Decidable.not_not]
  intro bu bm br mp
  let K : HP := HP.sep (BoxU bu ub) (HP.sep U (HP.sep (MOne bm m) (HP.sep Dm (HP.sep Vm (HP.sep (BoxR br rb) Rc)))))
  rw [semOf_insertC (by decide)]
  simp only [T.den, E.prop, E.den, RX.look, F1.app, F2.app, Uni.int_i, Uni.nat_n, Uni.bool_c, Uni.str_s, Uni.adr_a, Uni.val_v, Uni.hp_p, hden, cden, V.den, W.den, A.den, BR.den, SA.den, FV.den, capV, exs, exP, allP, Cur.app, List.map_cons, List.map_nil, List.cons_append, List.nil_append, List.drop_succ_cons, List.drop_zero, List.length_cons, List.length_nil, Nat.zero_add, Nat.reduceAdd, Int.neg_neg, Bool.not_not, List.append_nil, Nat.add_zero, List.getElem?_cons_zero, List.getElem?_cons_succ, Decidable.not_not]
  refine (ins_ok (mp := mp) (l := []) (c := 0) 1 _ K).weak (fun _ _ h => h) ?_
  rintro v R h ⟨rfl, H⟩
  refine ⟨_, rfl, ?_, H⟩
  clear H
  rw [semOf_insertC (by decide)]
  simp only [T.den, E.prop, E.den, RX.look, F1.app, F2.app, Uni.int_i, Uni.nat_n, Uni.bool_c, Uni.str_s, Uni.adr_a, Uni.val_v, Uni.hp_p, hden, cden, V.den, W.den, A.den, BR.den, SA.den, FV.den, capV, exs, exP, allP, Cur.app, List.map_cons, List.map_nil, List.cons_append, List.nil_append, List.drop_succ_cons, List.drop_zero, List.length_cons, List.length_nil, Nat.zero_add, Nat.reduceAdd, Int.neg_neg, Bool.not_not, List.append_nil, Nat.add_zero, List.getElem?_cons_zero, List.getElem?_cons_succ, Decidable.not_not]
  refine (ins_ok 2 _ K).weak (fun _ _ h => h) ?_
  rintro v R h ⟨rfl, H⟩
  refine ⟨_, rfl, ?_, H⟩
  clear H
  rw [semOf_insertC (by decide)]
  simp only [T.den, E.prop, E.den, RX.look, F1.app, F2.app, Uni.int_i, Uni.nat_n, Uni.bool_c, Uni.str_s, Uni.adr_a, Uni.val_v, Uni.hp_p, hden, cden, V.den, W.den, A.den, BR.den, SA.den, FV.den, capV, exs, exP, allP, Cur.app, List.map_cons, List.map_nil, List.cons_append, List.nil_append, List.drop_succ_cons, List.drop_zero, List.length_cons, List.length_nil, Nat.zero_add, Nat.reduceAdd, Int.neg_neg, Bool.not_not, List.append_nil, Nat.add_zero, List.getElem?_cons_zero, List.getElem?_cons_succ, Decidable.not_not]
  refine (ins_ok 3 _ K).weak (fun _ _ h => h) ?_
  rintro v R h ⟨rfl, H⟩
  refine ⟨_, rfl, ?_, H⟩
  clear H
  rw [semOf_insertC (by decide)]
  simp only [T.den, E.prop, E.den, RX.look, F1.app, F2.app, Uni.int_i, Uni.nat_n, Uni.bool_c, Uni.str_s, Uni.adr_a, Uni.val_v, Uni.hp_p, hden, cden, V.den, W.den, A.den, BR.den, SA.den, FV.den, capV, exs, exP, allP, Cur.app, List.map_cons, List.map_nil, List.cons_append, List.nil_append, List.drop_succ_cons, List.drop_zero, List.length_cons, List.length_nil, Nat.zero_add, Nat.reduceAdd, Int.neg_neg, Bool.not_not, List.append_nil, Nat.add_zero, List.getElem?_cons_zero, List.getElem?_cons_succ, Decidable.not_not]
  refine (ins_ok 4 _ K).weak (fun _ _ h => h) ?_
  rintro v R h ⟨rfl, H⟩
  refine ⟨_, rfl, ?_, H⟩
  clear H
  rw [semOf_insertC (by decide)]
  simp only [T.den, E.prop, E.den, RX.look, F1.app, F2.app, Uni.int_i, Uni.nat_n, Uni.bool_c, Uni.str_s, Uni.adr_a, Uni.val_v, Uni.hp_p, hden, cden, V.den, W.den, A.den, BR.den, SA.den, FV.den, capV, exs, exP, allP, Cur.app, List.map_cons, List.map_nil, List.cons_append, List.nil_append, List.drop_succ_cons, List.drop_zero, List.length_cons, List.length_nil, Nat.zero_add, Nat.reduceAdd, Int.neg_neg, Bool.not_not, List.append_nil, Nat.add_zero, List.getElem?_cons_zero, List.getElem?_cons_succ, Decidable.not_not]
  refine (ins_ok 5 _ K).weak (fun _ _ h => h) ?_
  rintro v R h ⟨rfl, H⟩
  refine ⟨_, rfl, ?_, H⟩
  clear H
  rw [semOf_insertC (by decide)]
  simp only [T.den, E.prop, E.den, RX.look, F1.app, F2.app, Uni.int_i, Uni.nat_n, Uni.bool_c, Uni.str_s, Uni.adr_a, Uni.val_v, Uni.hp_p, hden, cden, V.den, W.den, A.den, BR.den, SA.den, FV.den, capV, exs, exP, allP, Cur.app, List.map_cons, List.map_nil, List.cons_append, List.nil_append, List.drop_succ_cons, List.drop_zero, List.length_cons, List.length_nil, Nat.zero_add, Nat.reduceAdd, Int.neg_neg, Bool.not_not, List.append_nil, Nat.add_zero, List.getElem?_cons_zero, List.getElem?_cons_succ, Decidable.not_not]
  refine (ins_ok 6 _ K).weak (fun _ _ h => h) ?_
  rintro v R h ⟨rfl, H⟩
  refine ⟨_, rfl, ?_, H⟩
  clear H
  rw [semOf_insertC (by decide)]
  simp only [T.den, E.prop, E.den, RX.look, F1.app, F2.app, Uni.int_i, Uni.nat_n, Uni.bool_c, Uni.str_s, Uni.adr_a, Uni.val_v, Uni.hp_p, hden, cden, V.den, W.den, A.den, BR.den, SA.den, FV.den, capV, exs, exP, allP, Cur.app, List.map_cons, List.map_nil, List.cons_append, List.nil_append, List.drop_succ_cons, List.drop_zero, List.length_cons, List.length_nil, Nat.zero_add, Nat.reduceAdd, Int.neg_neg, Bool.not_not, List.append_nil, Nat.add_zero, List.getElem?_cons_zero, List.getElem?_cons_succ, Decidable.not_not]
  refine (ins_ok 7 _ K).weak (fun _ _ h => h) ?_
  rintro v R h ⟨rfl, H⟩
  refine ⟨_, rfl, .of fun R h H => ⟨mp, bu, bm, br, rfl, ?_⟩, H⟩
  exact H
end Go.Proofs.Ytmibmjehjagmbaa

/- Contracts of the server: what a unit does to each kind of request. No condition. -/
namespace Go.Proofs.Ytmibmjehjagmbaa
set_option linter.unusedSimpArgs false
set_option linter.unusedVariables false
open Go.Proofs.Ytmibmjehjagmbaa RX

/-- A message. -/
structure MS where
  fr : Int
  to : Int
  num : Int
  rep : Bool
  kind : Int
  ep : Int
  at' : Int
  cell : CellS
  br : Int
  bw : Int
  val : List UInt8
  err : Int
  tail : Int
  low : Int
  back : Int
abbrev MS.raw (m : MS) (ca : Option Addr) (cc : Nat) (va : Option Addr) (vc : Nat) : MR := ⟨m.fr, m.to, m.num, m.rep, m.kind, m.ep, m.at', m.cell.what, ca, m.cell.data.length, cc, m.br, m.bw, va, m.val.length, vc, m.err, m.tail, m.low, m.back⟩
abbrev MS.Dro (m : MS) (ca : Option Addr) : HP := RoB ca m.cell.data.length m.cell.data
abbrev MS.Vro (m : MS) (va : Option Addr) : HP := RoB va m.val.length m.val
/-- What is done to a request: the error, what is told besides, the unit. -/
def deedS (room : Int) (s : USt) (ps : List Pg) (m r : MS) : Int × MS × USt × List Pg :=
  if m.kind = 1 then ((writeS room s ps m.ep m.at' m.cell).2.1, { r with cell := (writeS room s ps m.ep m.at' m.cell).1 }, (writeS room s ps m.ep m.at' m.cell).2.2)
  else if m.kind = 2 then ((readS s m.ep m.at').2, { r with cell := (readS s m.ep m.at').1 }, s, ps)
  else if m.kind = 3 then ((trimS room s ps m.ep m.at').1, r, (trimS room s ps m.ep m.at').2)
  else if m.kind = 4 then
    if s.epoch = m.ep then (0, { r with tail := max s.top s.low }, s, ps)
    else if (sealS room s ps m.ep).1 = 0 then (0, { r with tail := max (sealS room s ps m.ep).2.1.top (sealS room s ps m.ep).2.1.low }, (sealS room s ps m.ep).2)
    else ((sealS room s ps m.ep).1, r, (sealS room s ps m.ep).2)
  else if m.kind = 5 then if s.epoch = m.ep then (0, { r with tail := max s.top s.low }, s, ps) else (8, r, s, ps)
  else if m.kind = 6 then ((promiseS room s ps m.at' m.br m.bw).2.2.2.1, { r with br := (promiseS room s ps m.at' m.br m.bw).1, bw := (promiseS room s ps m.at' m.br m.bw).2.1, val := (promiseS room s ps m.at' m.br m.bw).2.2.1 }, (promiseS room s ps m.at' m.br m.bw).2.2.2.2)
  else ((acceptS room s ps m.at' m.br m.bw m.val).1, r, (acceptS room s ps m.at' m.br m.bw m.val).2)

section
variable (ub bd bu bm br rb : Nat) (room : Int) (s : USt) (ps : List Pg) (m r : MS) (ca : Option Addr) (cc : Nat) (va : Option Addr) (vc : Nat) (rca : Option Addr) (rcc : Nat) (rva : Option Addr) (rvc : Nat)
abbrev PreD : HP := HP.sep (BoxU bu ub) (HP.sep (UD ub bd room s ps) (HP.sep (MOne bm (m.raw ca cc va vc)) (HP.sep (m.Dro ca) (HP.sep (m.Vro va) (HP.sep (BoxR br rb) (HP.sep (MOne rb (r.raw rca rcc rva rvc)) (HP.sep (r.Dro rca) (r.Vro rva))))))))
abbrev PostD (x : Int × MS × USt × List Pg) (v : Value) : HP := HP.ex fun rca => HP.ex fun rcc => HP.ex fun rva => HP.ex fun rvc => HP.and (v = .int .i64 x.1) (PreD ub bd bu bm br rb room x.2.2.1 x.2.2.2 m x.2.1 ca cc va vc rca rcc rva rvc)
abbrev PreD' : HP := HP.sep (BoxU bu ub) (HP.sep (UD ub bd room s ps) (HP.sep (MOne bm (m.raw ca cc va vc)) (HP.sep (m.Dro ca) (m.Vro va))))

theorem deed1_ok (hk : m.kind = 1) : Tri Try.prog 119 #[.pointer (some ⟨bu, 0, none⟩), .pointer (some ⟨bm, 0, none⟩), .pointer (some ⟨br, 0, none⟩)] (PreD ub bd bu bm br rb room s ps m r ca cc va vc rca rcc rva rvc)
    (PostD ub bd bu bm br rb room m ca cc va vc (deedS room s ps m r)) := by
  have e : deedS room s ps m r = ((writeS room s ps m.ep m.at' m.cell).2.1, { r with cell := (writeS room s ps m.ep m.at' m.cell).1 }, (writeS room s ps m.ep m.at' m.cell).2.2) := if_pos hk
  rw [e]
  refine Tri.fact (φ := m.cell.data.length ≠ 0 → ca.isSome = true) (fun R h H hn => RoC.some (HP.sep_left (HP.sep_right (HP.sep_right (HP.sep_right H)))) (by omega)) fun hca => ?_
  refine tri_of_tree (ρ := [.n bu, .n ub, .p (UD ub bd room s ps), .n bm, .i m.fr, .i m.to, .i m.num, .c m.rep, .i m.kind, .i m.ep, .i m.at', .i m.cell.what, .a ca, .n m.cell.data.length, .n cc, .p (m.Dro ca), .i m.br, .i m.bw, .a va, .n m.val.length, .n vc, .p (m.Vro va), .i m.err, .i m.tail, .i m.low, .i m.back, .n br, .n rb,
    .i r.fr, .i r.to, .i r.num, .c r.rep, .i r.kind, .i r.ep, .i r.at', .i r.cell.what, .a rca, .n r.cell.data.length, .n rcc, .p (r.Dro rca), .i r.br, .i r.bw, .a rva, .n r.val.length, .n rvc, .p (r.Vro rva), .i r.err, .i r.tail, .i r.low, .i r.back]) mixed Try.func119 tree_deed1 ?_
  unfold t_deed1
  simp only [T.den, E.prop, E.den, RX.look, F1.app, F2.app, Uni.int_i, Uni.nat_n, Uni.bool_c, Uni.str_s, Uni.adr_a, Uni.val_v, Uni.hp_p, hden, cden, V.den, W.den, A.den, BR.den, SA.den, FV.den, capV, exs, exP, allP, Cur.app, List.map_cons, List.map_nil, List.cons_append, List.nil_append, List.drop_succ_cons, List.drop_zero, List.length_cons, List.length_nil, Nat.zero_add, Nat.reduceAdd, Int.neg_neg, Bool.not_not, List.append_nil, Nat.add_zero, List.getElem?_cons_zero, List.getElem?_cons_succ, Decidable.not_not]
  refine (uWrite_ok ub bd room s ps m.ep m.at' m.cell.what ca m.cell.data.length cc m.cell.data (m.Dro ca) (RdL.ro _ _ _ _) rfl hca).weak (fun _ _ h => h) ?_
  rintro v R h ⟨a', c', rfl, H⟩
  refine ⟨_, a', _, c', RoB a' (writeS room s ps m.ep m.at' m.cell).1.data.length (writeS room s ps m.ep m.at' m.cell).1.data, _, _, m.Dro ca, rfl, .of fun R h H => ⟨a', c', rva, rvc, rfl, ?_⟩, H⟩
  exact HP.sep_mono H (fun _ h => h) fun y1 H => HP.sep_mono H (fun _ h => h) fun y2 H => HP.sep_mono H (fun _ h => h) fun y3 H => HP.sep_mono H (fun _ h => h) fun y4 H => HP.sep_mono H (fun _ h => h) fun y5 H => HP.sep_mono H (fun _ h => h) fun y6 H => HP.sep_mono H (fun _ h => h) fun y7 H => HP.sep_mono H (fun _ h => h) fun y8 H => HP.sep_left H
theorem deed2_ok (hk : m.kind = 2) : Tri Try.prog 120 #[.pointer (some ⟨bu, 0, none⟩), .pointer (some ⟨bm, 0, none⟩), .pointer (some ⟨br, 0, none⟩)] (PreD ub bd bu bm br rb room s ps m r ca cc va vc rca rcc rva rvc)
    (PostD ub bd bu bm br rb room m ca cc va vc (deedS room s ps m r)) := by
  have e : deedS room s ps m r = ((readS s m.ep m.at').2, { r with cell := (readS s m.ep m.at').1 }, s, ps) := by unfold deedS; rw [if_neg (by omega), if_pos hk]
  rw [e]
  refine tri_of_tree (ρ := [.n bu, .n ub, .p (UD ub bd room s ps), .n bm, .i m.fr, .i m.to, .i m.num, .c m.rep, .i m.kind, .i m.ep, .i m.at', .i m.cell.what, .a ca, .n m.cell.data.length, .n cc, .p (m.Dro ca), .i m.br, .i m.bw, .a va, .n m.val.length, .n vc, .p (m.Vro va), .i m.err, .i m.tail, .i m.low, .i m.back, .n br, .n rb,
    .i r.fr, .i r.to, .i r.num, .c r.rep, .i r.kind, .i r.ep, .i r.at', .i r.cell.what, .a rca, .n r.cell.data.length, .n rcc, .p (r.Dro rca), .i r.br, .i r.bw, .a rva, .n r.val.length, .n rvc, .p (r.Vro rva), .i r.err, .i r.tail, .i r.low, .i r.back]) mixed Try.func120 tree_deed2 ?_
  unfold t_deed2
  simp only [T.den, E.prop, E.den, RX.look, F1.app, F2.app, Uni.int_i, Uni.nat_n, Uni.bool_c, Uni.str_s, Uni.adr_a, Uni.val_v, Uni.hp_p, hden, cden, V.den, W.den, A.den, BR.den, SA.den, FV.den, capV, exs, exP, allP, Cur.app, List.map_cons, List.map_nil, List.cons_append, List.nil_append, List.drop_succ_cons, List.drop_zero, List.length_cons, List.length_nil, Nat.zero_add, Nat.reduceAdd, Int.neg_neg, Bool.not_not, List.append_nil, Nat.add_zero, List.getElem?_cons_zero, List.getElem?_cons_succ, Decidable.not_not]
  refine (uRead_ok ub bd _ s m.ep m.at').weak (fun _ _ h => h) ?_
  rintro v R h ⟨a', c', rfl, H⟩
  refine ⟨_, a', _, c', RoB a' (readS s m.ep m.at').1.data.length (readS s m.ep m.at').1.data, _, UD ub bd room s ps, rfl, .of fun R h H => ⟨a', c', rva, rvc, rfl, ?_⟩, HP.sep_comm H⟩
  exact HP.sep_mono H (fun _ h => h) fun y1 H => HP.sep_mono H (fun _ h => h) fun y2 H => HP.sep_mono H (fun _ h => h) fun y3 H => HP.sep_mono H (fun _ h => h) fun y4 H => HP.sep_mono H (fun _ h => h) fun y5 H => HP.sep_mono H (fun _ h => h) fun y6 H => HP.sep_mono H (fun _ h => h) fun y7 H => HP.sep_mono H (fun _ h => h) fun y8 H => HP.sep_left H
theorem deed3_ok (hk : m.kind = 3) : Tri Try.prog 121 #[.pointer (some ⟨bu, 0, none⟩), .pointer (some ⟨bm, 0, none⟩)] (PreD' ub bd bu bm room s ps m ca cc va vc)
    (fun v => HP.and (v = .int .i64 (deedS room s ps m r).1 ∧ (deedS room s ps m r).2.1 = r) (PreD' ub bd bu bm room (deedS room s ps m r).2.2.1 (deedS room s ps m r).2.2.2 m ca cc va vc)) := by
  have e : deedS room s ps m r = ((trimS room s ps m.ep m.at').1, r, (trimS room s ps m.ep m.at').2) := by unfold deedS; rw [if_neg (by omega), if_neg (by omega), if_pos hk]
  rw [e]
  refine tri_of_tree (ρ := [.n bu, .n ub, .p (UD ub bd room s ps), .n bm, .i m.fr, .i m.to, .i m.num, .c m.rep, .i m.kind, .i m.ep, .i m.at', .i m.cell.what, .a ca, .n m.cell.data.length, .n cc, .p (m.Dro ca), .i m.br, .i m.bw, .a va, .n m.val.length, .n vc, .p (m.Vro va), .i m.err, .i m.tail, .i m.low, .i m.back]) mixed Try.func121 tree_deed3 ?_
  unfold t_deed3
  simp only [T.den, E.prop, E.den, RX.look, F1.app, F2.app, Uni.int_i, Uni.nat_n, Uni.bool_c, Uni.str_s, Uni.adr_a, Uni.val_v, Uni.hp_p, hden, cden, V.den, W.den, A.den, BR.den, SA.den, FV.den, capV, exs, exP, allP, Cur.app, List.map_cons, List.map_nil, List.cons_append, List.nil_append, List.drop_succ_cons, List.drop_zero, List.length_cons, List.length_nil, Nat.zero_add, Nat.reduceAdd, Int.neg_neg, Bool.not_not, List.append_nil, Nat.add_zero, List.getElem?_cons_zero, List.getElem?_cons_succ, Decidable.not_not]
  refine (uTrim_ok ub bd room s ps m.ep m.at').weak (fun _ _ h => h) ?_
  rintro v R h ⟨rfl, H⟩
  exact ⟨_, _, rfl, .of fun R h H => ⟨⟨rfl, trivial⟩, H⟩, H⟩
theorem deed4_ok (hk : m.kind = 4) : Tri Try.prog 122 #[.pointer (some ⟨bu, 0, none⟩), .pointer (some ⟨bm, 0, none⟩), .pointer (some ⟨br, 0, none⟩)] (PreD ub bd bu bm br rb room s ps m r ca cc va vc rca rcc rva rvc)
    (PostD ub bd bu bm br rb room m ca cc va vc (deedS room s ps m r)) := by
  have e : deedS room s ps m r = if s.epoch = m.ep then (0, { r with tail := max s.top s.low }, s, ps)
    else if (sealS room s ps m.ep).1 = 0 then (0, { r with tail := max (sealS room s ps m.ep).2.1.top (sealS room s ps m.ep).2.1.low }, (sealS room s ps m.ep).2)
    else ((sealS room s ps m.ep).1, r, (sealS room s ps m.ep).2) := by unfold deedS; rw [if_neg (by omega), if_neg (by omega), if_neg (by omega), if_pos hk]
  rw [e]
  refine tri_of_tree (ρ := [.n bu, .n ub, .p (UD ub bd room s ps), .n bm, .i m.fr, .i m.to, .i m.num, .c m.rep, .i m.kind, .i m.ep, .i m.at', .i m.cell.what, .a ca, .n m.cell.data.length, .n cc, .p (m.Dro ca), .i m.br, .i m.bw, .a va, .n m.val.length, .n vc, .p (m.Vro va), .i m.err, .i m.tail, .i m.low, .i m.back, .n br, .n rb,
    .i r.fr, .i r.to, .i r.num, .c r.rep, .i r.kind, .i r.ep, .i r.at', .i r.cell.what, .a rca, .n r.cell.data.length, .n rcc, .p (r.Dro rca), .i r.br, .i r.bw, .a rva, .n r.val.length, .n rvc, .p (r.Vro rva), .i r.err, .i r.tail, .i r.low, .i r.back]) mixed Try.func122 tree_deed4 ?_
  unfold t_deed4
  simp only [T.den, E.prop, E.den, RX.look, F1.app, F2.app, Uni.int_i, Uni.nat_n, Uni.bool_c, Uni.str_s, Uni.adr_a, Uni.val_v, Uni.hp_p, hden, cden, V.den, W.den, A.den, BR.den, SA.den, FV.den, capV, exs, exP, allP, Cur.app, List.map_cons, List.map_nil, List.cons_append, List.nil_append, List.drop_succ_cons, List.drop_zero, List.length_cons, List.length_nil, Nat.zero_add, Nat.reduceAdd, Int.neg_neg, Bool.not_not, List.append_nil, Nat.add_zero, List.getElem?_cons_zero, List.getElem?_cons_succ, Decidable.not_not]
  refine (uEpoch_ok ub bd _ s).weak (fun _ _ h => h) ?_
  rintro v R h ⟨rfl, H⟩
  refine ⟨_, rfl, ⟨fun h1 => ?_, fun h1 => ?_⟩, H⟩
  · rw [if_neg h1]
    refine (uSeal_ok ub bd room s ps m.ep).weak (fun _ _ h => h) ?_
    rintro v R h ⟨rfl, H⟩
    refine ⟨_, _, rfl, ⟨fun h2 => ?_, fun h2 => ?_⟩, H⟩
    · rw [if_neg h2]
      exact .of fun R h H => ⟨rca, rcc, rva, rvc, rfl, H⟩
    · rw [if_pos h2]
      refine (uTail_ok ub bd _ (sealS room s ps m.ep).2.1).weak (fun _ _ h => h) ?_
      rintro v R h ⟨rfl, H⟩
      exact ⟨_, rfl, .of fun R h H => ⟨rca, rcc, rva, rvc, rfl, H⟩, H⟩
  · rw [if_pos h1]
    refine (uTail_ok ub bd _ s).weak (fun _ _ h => h) ?_
    rintro v R h ⟨rfl, H⟩
    exact ⟨_, rfl, .of fun R h H => ⟨rca, rcc, rva, rvc, rfl, H⟩, H⟩
theorem deed5_ok (hk : m.kind = 5) : Tri Try.prog 123 #[.pointer (some ⟨bu, 0, none⟩), .pointer (some ⟨bm, 0, none⟩), .pointer (some ⟨br, 0, none⟩)] (PreD ub bd bu bm br rb room s ps m r ca cc va vc rca rcc rva rvc)
    (PostD ub bd bu bm br rb room m ca cc va vc (deedS room s ps m r)) := by
  have e : deedS room s ps m r = if s.epoch = m.ep then (0, { r with tail := max s.top s.low }, s, ps) else (8, r, s, ps) := by unfold deedS; rw [if_neg (by omega), if_neg (by omega), if_neg (by omega), if_neg (by omega), if_pos hk]
  rw [e]
  refine tri_of_tree (ρ := [.n bu, .n ub, .p (UD ub bd room s ps), .n bm, .i m.fr, .i m.to, .i m.num, .c m.rep, .i m.kind, .i m.ep, .i m.at', .i m.cell.what, .a ca, .n m.cell.data.length, .n cc, .p (m.Dro ca), .i m.br, .i m.bw, .a va, .n m.val.length, .n vc, .p (m.Vro va), .i m.err, .i m.tail, .i m.low, .i m.back, .n br, .n rb,
    .i r.fr, .i r.to, .i r.num, .c r.rep, .i r.kind, .i r.ep, .i r.at', .i r.cell.what, .a rca, .n r.cell.data.length, .n rcc, .p (r.Dro rca), .i r.br, .i r.bw, .a rva, .n r.val.length, .n rvc, .p (r.Vro rva), .i r.err, .i r.tail, .i r.low, .i r.back]) mixed Try.func123 tree_deed5 ?_
  unfold t_deed5
  simp only [T.den, E.prop, E.den, RX.look, F1.app, F2.app, Uni.int_i, Uni.nat_n, Uni.bool_c, Uni.str_s, Uni.adr_a, Uni.val_v, Uni.hp_p, hden, cden, V.den, W.den, A.den, BR.den, SA.den, FV.den, capV, exs, exP, allP, Cur.app, List.map_cons, List.map_nil, List.cons_append, List.nil_append, List.drop_succ_cons, List.drop_zero, List.length_cons, List.length_nil, Nat.zero_add, Nat.reduceAdd, Int.neg_neg, Bool.not_not, List.append_nil, Nat.add_zero, List.getElem?_cons_zero, List.getElem?_cons_succ, Decidable.not_not]
  refine (uEpoch_ok ub bd _ s).weak (fun _ _ h => h) ?_
  rintro v R h ⟨rfl, H⟩
  refine ⟨_, rfl, ⟨fun h1 => ?_, fun h1 => ?_⟩, H⟩
  · rw [if_neg h1]
    exact .of fun R h H => ⟨rca, rcc, rva, rvc, rfl, H⟩
  · rw [if_pos h1]
    refine (uTail_ok ub bd _ s).weak (fun _ _ h => h) ?_
    rintro v R h ⟨rfl, H⟩
    exact ⟨_, rfl, .of fun R h H => ⟨rca, rcc, rva, rvc, rfl, H⟩, H⟩
theorem deed6_ok (hk : m.kind = 6) : Tri Try.prog 124 #[.pointer (some ⟨bu, 0, none⟩), .pointer (some ⟨bm, 0, none⟩), .pointer (some ⟨br, 0, none⟩)] (PreD ub bd bu bm br rb room s ps m r ca cc va vc rca rcc rva rvc)
    (PostD ub bd bu bm br rb room m ca cc va vc (deedS room s ps m r)) := by
  have e : deedS room s ps m r = ((promiseS room s ps m.at' m.br m.bw).2.2.2.1, { r with br := (promiseS room s ps m.at' m.br m.bw).1, bw := (promiseS room s ps m.at' m.br m.bw).2.1, val := (promiseS room s ps m.at' m.br m.bw).2.2.1 }, (promiseS room s ps m.at' m.br m.bw).2.2.2.2) := by
    unfold deedS; rw [if_neg (by omega), if_neg (by omega), if_neg (by omega), if_neg (by omega), if_neg (by omega), if_pos hk]
  rw [e]
  refine tri_of_tree (ρ := [.n bu, .n ub, .p (UD ub bd room s ps), .n bm, .i m.fr, .i m.to, .i m.num, .c m.rep, .i m.kind, .i m.ep, .i m.at', .i m.cell.what, .a ca, .n m.cell.data.length, .n cc, .p (m.Dro ca), .i m.br, .i m.bw, .a va, .n m.val.length, .n vc, .p (m.Vro va), .i m.err, .i m.tail, .i m.low, .i m.back, .n br, .n rb,
    .i r.fr, .i r.to, .i r.num, .c r.rep, .i r.kind, .i r.ep, .i r.at', .i r.cell.what, .a rca, .n r.cell.data.length, .n rcc, .p (r.Dro rca), .i r.br, .i r.bw, .a rva, .n r.val.length, .n rvc, .p (r.Vro rva), .i r.err, .i r.tail, .i r.low, .i r.back]) mixed Try.func124 tree_deed6 ?_
  unfold t_deed6
  simp only [T.den, E.prop, E.den, RX.look, F1.app, F2.app, Uni.int_i, Uni.nat_n, Uni.bool_c, Uni.str_s, Uni.adr_a, Uni.val_v, Uni.hp_p, hden, cden, V.den, W.den, A.den, BR.den, SA.den, FV.den, capV, exs, exP, allP, Cur.app, List.map_cons, List.map_nil, List.cons_append, List.nil_append, List.drop_succ_cons, List.drop_zero, List.length_cons, List.length_nil, Nat.zero_add, Nat.reduceAdd, Int.neg_neg, Bool.not_not, List.append_nil, Nat.add_zero, List.getElem?_cons_zero, List.getElem?_cons_succ, Decidable.not_not]
  refine (uPromise_ok ub bd room s ps m.at' m.br m.bw).weak (fun _ _ h => h) ?_
  rintro v R h ⟨a', c', rfl, H⟩
  refine ⟨_, _, a', _, c', RoB a' (promiseS room s ps m.at' m.br m.bw).2.2.1.length (promiseS room s ps m.at' m.br m.bw).2.2.1, _, _, rfl, .of fun R h H => ⟨rca, rcc, a', c', rfl, ?_⟩, HP.sep_comm H⟩
  exact HP.sep_mono H (fun _ h => h) fun y1 H => HP.sep_mono H (fun _ h => h) fun y2 H => HP.sep_mono H (fun _ h => h) fun y3 H => HP.sep_mono H (fun _ h => h) fun y4 H => HP.sep_mono H (fun _ h => h) fun y5 H => HP.sep_mono H (fun _ h => h) fun y6 H => HP.sep_mono H (fun _ h => h) fun y7 H => HP.sep_mono H (fun _ h => h) fun y8 H => HP.sep_left H
theorem deed7_ok (hk : m.kind = 7) : Tri Try.prog 125 #[.pointer (some ⟨bu, 0, none⟩), .pointer (some ⟨bm, 0, none⟩)] (PreD' ub bd bu bm room s ps m ca cc va vc)
    (fun v => HP.and (v = .int .i64 (deedS room s ps m r).1 ∧ (deedS room s ps m r).2.1 = r) (PreD' ub bd bu bm room (deedS room s ps m r).2.2.1 (deedS room s ps m r).2.2.2 m ca cc va vc)) := by
  have e : deedS room s ps m r = ((acceptS room s ps m.at' m.br m.bw m.val).1, r, (acceptS room s ps m.at' m.br m.bw m.val).2) := by
    unfold deedS; rw [if_neg (by omega), if_neg (by omega), if_neg (by omega), if_neg (by omega), if_neg (by omega), if_neg (by omega)]
  rw [e]
  refine Tri.fact (φ := m.val.length ≠ 0 → va.isSome = true) (fun R h H hn => RoC.some (HP.sep_right (HP.sep_right (HP.sep_right (HP.sep_right H)))) (by omega)) fun hva => ?_
  refine tri_of_tree (ρ := [.n bu, .n ub, .p (UD ub bd room s ps), .n bm, .i m.fr, .i m.to, .i m.num, .c m.rep, .i m.kind, .i m.ep, .i m.at', .i m.cell.what, .a ca, .n m.cell.data.length, .n cc, .p (m.Dro ca), .i m.br, .i m.bw, .a va, .n m.val.length, .n vc, .p (m.Vro va), .i m.err, .i m.tail, .i m.low, .i m.back]) mixed Try.func125 tree_deed7 ?_
  unfold t_deed7
  simp only [T.den, E.prop, E.den, RX.look, F1.app, F2.app, Uni.int_i, Uni.nat_n, Uni.bool_c, Uni.str_s, Uni.adr_a, Uni.val_v, Uni.hp_p, hden, cden, V.den, W.den, A.den, BR.den, SA.den, FV.den, capV, exs, exP, allP, Cur.app, List.map_cons, List.map_nil, List.cons_append, List.nil_append, List.drop_succ_cons, List.drop_zero, List.length_cons, List.length_nil, Nat.zero_add, Nat.reduceAdd, Int.neg_neg, Bool.not_not, List.append_nil, Nat.add_zero, List.getElem?_cons_zero, List.getElem?_cons_succ, Decidable.not_not]
  refine (uAccept_ok ub bd room s ps m.at' m.br m.bw va m.val.length vc m.val (m.Vro va) (RdL.ro _ _ _ _) rfl hva).weak (fun _ _ h => h) ?_
  rintro v R h ⟨rfl, H⟩
  exact ⟨_, _, m.Vro va, rfl, .of fun R h H => ⟨⟨rfl, trivial⟩, H⟩, H⟩
end
end Go.Proofs.Ytmibmjehjagmbaa

/- Parts of what is owned, told in another order. No condition. -/
namespace Go.Proofs.Ytmibmjehjagmbaa

/-- Parts, side by side. -/
def sepN : List HP → HP
  | [] => HP.tt
  | [x] => x
  | x :: y :: r => HP.sep x (sepN (y :: r))
theorem sepN_cons {x : HP} {r : List HP} {R h : PH} : (sepN (x :: r)).p R h ↔ (HP.sep x (sepN r)).p R h := by
  cases r with
  | nil => exact ⟨fun H => HP.sep_tt H, fun H => HP.sep_left H⟩
  | cons y q => exact Iff.rfl
theorem sepN_perm {l m : List HP} (p : l.Perm m) : ∀ {R h : PH}, (sepN l).p R h → (sepN m).p R h := by
  induction p with
  | nil => exact fun H => H
  | cons x _ ih => exact fun H => sepN_cons.2 (HP.sep_mono (sepN_cons.1 H) (fun _ h => h) fun _ h => ih h)
  | swap x y r =>
    exact fun H => sepN_cons.2 (HP.sep_mono (HP.swap (HP.sep_mono (sepN_cons.1 H) (fun _ h => h) fun _ h => sepN_cons.1 h)) (fun _ h => h) fun _ h => sepN_cons.2 h)
  | trans _ _ ih1 ih2 => exact fun H => ih2 (ih1 H)
theorem sepN_sub (f : Nat → HP) : ∀ (S' S : List Nat) {R h : PH}, S'.Nodup → (∀ i ∈ S', i ∈ S) → (sepN (S.map f)).p R h → (sepN (S'.map f)).p R h
  | [], _, _, _, _, _, _ => trivial
  | i :: r, S, R, h, hn, hs, H => by
    have hp : (S.map f).Perm (f i :: (S.erase i).map f) := ((List.perm_cons_erase (hs i (List.mem_cons_self ..))).map f)
    have H1 := sepN_cons.1 (sepN_perm hp H)
    rw [List.nodup_cons] at hn
    exact sepN_cons.2 (HP.sep_mono H1 (fun _ h => h) fun _ h => sepN_sub f r (S.erase i) hn.2 (fun j hj => (List.mem_erase_of_ne (fun e => hn.1 (by rw [← e]; exact hj))).2 (hs j (List.mem_cons_of_mem _ hj))) h)
/-- Some of the parts, in an order of one's own. -/
theorem HP.pick (l : List HP) (idx : List Nat) (hn : idx.Nodup) (hb : idx.all (fun i => decide (i < l.length)) = true) {R h : PH} (H : (sepN l).p R h) : (sepN (idx.map fun i => l.getD i HP.tt)).p R h := by
  refine sepN_sub (fun i => l.getD i HP.tt) idx (List.range l.length) hn (fun i hi => List.mem_range.2 (by simpa using List.all_eq_true.1 hb i hi)) ?_
  have e : (List.range l.length).map (fun i => l.getD i HP.tt) = l := by
    apply List.ext_getElem
    · simp
    · intro i h1 h2
      simp at h1
      simp [h1]
  rw [e]; exact H
theorem sepN_app {l m : List HP} {R h : PH} : (sepN (l ++ m)).p R h ↔ (HP.sep (sepN l) (sepN m)).p R h := by
  induction l generalizing h with
  | nil => exact ⟨fun H => HP.tt_sep H, fun H => HP.sep_right H⟩
  | cons x r ih =>
    rw [List.cons_append, sepN_cons]
    constructor
    · intro H
      exact HP.sep_mono (HP.sep_assoc' (HP.sep_mono H (fun _ h => h) fun _ h => ih.1 h)) (fun _ h => sepN_cons.2 h) fun _ h => h
    · intro H
      exact HP.sep_mono (HP.sep_assoc (HP.sep_mono H (fun _ h => sepN_cons.1 h) fun _ h => h)) (fun _ h => h) fun _ h => ih.2 h
end Go.Proofs.Ytmibmjehjagmbaa
