/- Texts of this claim, joined. No condition. -/
import Derived.Test.YtbmajijnjkicmaaDoorAAJ1
import Derived.Test.YtbmajijnjkicmaaDoorAAJ2
import Derived.KernelRfl
set_option linter.unusedSimpArgs false
set_option linter.unusedVariables false

namespace Go.Proofs.YtbmajijnjkicmaaDoor
open Go.Proofs.YtbmajijnjkicmaaDoor RX
set_option maxRecDepth 100000

theorem beN_snoc (v n : Nat) : beN v (n + 1) = beN (v / 256) n ++ [UInt8.ofNat v] := by
  unfold beN
  rw [List.range_succ, List.map_append]
  congr 1
  · refine List.map_congr_left fun j hj => ?_
    have hj := List.mem_range.1 hj
    unfold byteAt
    have e : 2 ^ (8 * (n + 1 - 1 - j)) = 256 * 2 ^ (8 * (n - 1 - j)) := by
      rw [show 8 * (n + 1 - 1 - j) = 8 * (n - 1 - j) + 8 by omega, Nat.pow_add]; omega
    rw [e, Nat.div_div_eq_div_mul]
  · simp [byteAt]
theorem beV_beN : ∀ (n v : Nat), v < 256 ^ n → beV (beN v n) = v
  | 0, v, h => by simp at h; subst h; rfl
  | n + 1, v, h => by
    rw [beN_snoc, beV_snoc, beV_beN n (v / 256) (by rw [Nat.pow_succ] at h; omega), UInt8.toNat_ofNat']
    omega
theorem unwrap_wrap (l : List UInt8) : unwrapS (wrapS l) = some l := by
  have h4 : (256 : Nat) ^ 4 = 4294967296 := by decide
  unfold unwrapS
  rw [wrapS_len, if_neg (by omega), Nat.add_sub_cancel]
  unfold wrapS
  rw [List.drop_left, List.take_left, beV_beN 4 _ (by have := sumS_lt l; omega), if_pos rfl]
end Go.Proofs.YtbmajijnjkicmaaDoor



namespace Go.Proofs.YtbmajijnjkicmaaDoor
set_option linter.unusedSimpArgs false
set_option linter.unusedVariables false
open Go.Proofs.YtbmajijnjkicmaaDoor RX
set_option maxRecDepth 100000

theorem eqlFn {t ty : TypeId} {i : Nat} {f : FuncId} {caps : Array Value} {A : HP} {ps rs : Array TypeId} {vd : Bool} (ht : Tryd.prog.underlying t = some (.func ps rs vd)) (hg : Tryd.prog.eqGuardType Tryd.prog.depth t = false) : ORead Tryd.prog (semW (.binOp .eql t (.tmp i) (.const .nilFunc) t) ty [(i, .func (.func f) #[] caps)]) A (.bool false) := fun w R h F s _ => by
  have e0 : ∀ n, (Op.equalIn (n + 1) t (.func (.func f) #[] caps) .nilFunc).run Tryd.prog w = .ok false w := fun n => by
    simp only [Op.equalIn, Sem.run_bind, RX.run_underlying ht, Result.andThen_ok, Sem.run_pure]
  have e : (Op.equal t (.func (.func f) #[] caps) .nilFunc).run Tryd.prog w = .ok false w := e0 9999
  have := (binOp_equal (P := Tryd.prog) (w := w) (.inr (.inr (.inr (.inr ⟨_, _, _, rfl⟩)))) e).1
  simp only [semW, execOp, arW, List.find?_cons, beq_self_eq_true, Option.map_some, Option.getD_some]
  simp [eqGuard, hg, program, Sem.run_bind, this]
def byI (k : Int) : UInt8 := UInt8.ofNat (IntKind.u8.wrap k).toNat
theorem byI_val (k : Int) : ((byI k).toNat : Int) = IntKind.u8.wrap k := by
  have h1 : 0 ≤ IntKind.u8.wrap k ∧ IntKind.u8.wrap k < 256 := by
    simp only [IntKind.wrap, IntKind.bits, IntKind.signed, Bool.false_and, Bool.false_eq_true, if_false]; omega
  unfold byI
  rw [UInt8.toNat_ofNat']
  omega
def chB (c : List Int) : List UInt8 := beN c.length 4 ++ c.map byI
def plB (p : PlP) : List UInt8 := beN p.ep.toNat 4 ++ (beN p.ch.length 4 ++ p.ch.flatMap chB)
def plS (p : PlP) : List UInt8 := wrapS (plB p)
theorem fgoE2 : Fgo Tryd.prog 63 := ⟨_, Tryd.func63, by kernel_rfl, by kernel_rfl⟩
theorem fgoE1 : Fgo Tryd.prog 61 := ⟨_, Tryd.func61, by kernel_rfl, by kernel_rfl⟩
theorem enc2_ok (b : Nat) (l : List UInt8) (x : Int) (hb : l.length < 140737488355328) : Tri Tryd.prog 63 #[.pointer (some ⟨b, 0, none⟩), .int .i64 x] (WRep b l) (fun v => HP.and (v = .tuple #[]) (WRep b (l ++ [byI x]))) := by
  refine tri_of_tree (ρ := [.n b, .p (WRep b l), .i x]) mixed Tryd.func63 tree_plEnc2 ?_
  unfold t_plEnc2
  simp only [T.den, E.prop, E.den, RX.look, F1.app, F2.app, Uni.int_i, Uni.nat_n, Uni.bool_c, Uni.str_s, Uni.adr_a, Uni.val_v, Uni.hp_p, hden, cden, V.den, W.den, A.den, BR.den, SA.den, FV.den, capV, exs, exP, allP, Cur.app, List.map_cons, List.map_nil, List.cons_append, List.nil_append, List.drop_succ_cons, List.drop_zero, List.length_cons, List.length_nil, Nat.zero_add, Nat.reduceAdd, Int.neg_neg, Bool.not_not, List.append_nil, Nat.add_zero, List.getElem?_cons_zero, List.getElem?_cons_succ, Decidable.not_not, semW_eq, ne_eq, Nat.reduceEqDiff, not_false_eq_true]
  rw [← byI_val]
  refine (wByte_ok b l (byI x) hb).weak (fun _ _ h => h) ?_
  rintro v R h ⟨rfl, H⟩
  exact ⟨_, rfl, .of fun R h H => ⟨trivial, H⟩, H⟩
theorem wrapN {n : Nat} (h : n ≤ 1000000000000) : IntKind.u64.wrap (n : Int) = n := wrap_in ⟨by simp [IntKind.min, IntKind.signed], by simp [IntKind.max, IntKind.signed, IntKind.bits]; omega⟩
set_option maxHeartbeats 1000000 in
theorem putI_ok (b : Nat) (l : List UInt8) (S : HP) (a : Option Addr) (n c : Nat) (q : List Int) (hr : RdL S a n (q.map i64v)) (hl : q.length = n) (hn : n ≤ 1000000) (hb : l.length ≤ 100000000000) :
    Tri Tryd.prog 62 #[.pointer (some ⟨b, 0, none⟩), .slice a n c, .func (.func 63) #[] #[]] (HP.sep (WRep b l) S)
      (fun v => HP.and (v = .tuple #[]) (HP.sep (WRep b (l ++ chB q)) S)) := by
  refine Tri.fact (φ := a = none → n = 0) (fun R h H => hr.none R _ (HP.sep_right H)) fun ha => ?_
  refine (tri_of_tree (ρ := [.n b, .p (WRep b l), .a a, .n n, .n c, .p S, .v (.func (.func 63) #[] #[]), .p HP.tt]) mixed Tryd.func62 tree_putI ?_).weak
    (fun R h H => HP.sep_assoc (HP.sep_tt H)) fun _ _ _ h => h
  unfold t_putI
  simp only [T.den, E.prop, E.den, RX.look, F1.app, F2.app, Uni.int_i, Uni.nat_n, Uni.bool_c, Uni.str_s, Uni.adr_a, Uni.val_v, Uni.hp_p, hden, cden, V.den, W.den, A.den, BR.den, SA.den, FV.den, capV, exs, exP, allP, Cur.app, List.map_cons, List.map_nil, List.cons_append, List.nil_append, List.drop_succ_cons, List.drop_zero, List.length_cons, List.length_nil, Nat.zero_add, Nat.reduceAdd, Int.neg_neg, Bool.not_not, List.append_nil, Nat.add_zero, List.getElem?_cons_zero, List.getElem?_cons_succ, Decidable.not_not, semW_eq, semW_load, ne_eq, Nat.reduceEqDiff, not_false_eq_true]
  rw [wrapN (by omega)]
  refine (wNumber_ok b l n 4 (by omega) (by omega)).weak (fun _ _ h => h) ?_
  rintro v R h ⟨rfl, H⟩
  refine ⟨_, rfl, ⟨false, eqlFn Tryd.underlying105 (by kernel_rfl), fun h => (by cases h), fun _ => ?_⟩, H⟩
  refine ⟨fun k p q' => ∃ j : Nat, k = j ∧ j ≤ n ∧ HP.ent p (WRep b (l ++ beN n 4 ++ (q.take j).map byI)) ∧ q' = HP.tt, fun k _ _ => n - k.toNat, ⟨0, rfl, Nat.zero_le _, by simpa using HP.ent.refl _, rfl⟩, ?_⟩
  rintro k p _ ⟨j, rfl, hj, hp, rfl⟩
  refine ⟨fun hlt => ⟨by omega, fun _ => ⟨Option.isSome_iff_ne_none.2 fun e => (by have := ha e; omega), fun _ => ?_⟩⟩, fun hge => ?_⟩
  · have hjl : j < q.length := by omega
    have hx : q[j]? = some q[j] := List.getElem?_eq_getElem hjl
    refine ⟨q[j], ldI hr.rd hx, ?_⟩
    refine .inl ⟨_, #[], rfl, fgoE2, ?_⟩
    refine (enc2_ok b _ q[j] (by simp [beN_len]; omega)).conseq ((HP.ent.of fun R h H => HP.sep_comm H).trans ((HP.ent.sep hp HP.tt))) fun v => .of fun R h H => ?_
    obtain ⟨rfl, H1⟩ := HP.sep_left H
    refine ⟨HP.tt, _, rfl, ⟨inI64 _ (by omega) (by omega), fun _ => ⟨⟨j + 1, by omega, by omega, ?_, rfl⟩, by dsimp only; omega⟩⟩, HP.tt_sep H1⟩
    rw [List.take_succ_eq_append_getElem hjl, List.map_append, ← List.append_assoc]
    exact .refl _
  · have e : j = q.length := by omega
    rw [e, List.take_length] at hp
    refine (HP.ent.sep2 hp (HP.ent.refl _)).trans (.of fun R h H => ⟨trivial, ?_⟩)
    have e2 : l ++ chB q = l ++ beN n 4 ++ q.map byI := by unfold chB; rw [hl, List.append_assoc]
    rw [e2]
    exact HP.sep_mono H (fun _ h => h) fun _ h => HP.sep_left h
theorem enc1_ok (b : Nat) (l : List UInt8) (S : HP) (a : Option Addr) (n c : Nat) (q : List Int) (hr : RdL S a n (q.map i64v)) (hl : q.length = n) (hn : n ≤ 1000000) (hb : l.length ≤ 100000000000) :
    Tri Tryd.prog 61 #[.pointer (some ⟨b, 0, none⟩), .slice a n c] (HP.sep (WRep b l) S) (fun v => HP.and (v = .tuple #[]) (HP.sep (WRep b (l ++ chB q)) S)) := by
  refine tri_of_tree (ρ := [.n b, .p (WRep b l), .a a, .n n, .n c, .p S]) mixed Tryd.func61 tree_plEnc1 ?_
  unfold t_plEnc1
  simp only [T.den, E.prop, E.den, RX.look, F1.app, F2.app, Uni.int_i, Uni.nat_n, Uni.bool_c, Uni.str_s, Uni.adr_a, Uni.val_v, Uni.hp_p, hden, cden, V.den, W.den, A.den, BR.den, SA.den, FV.den, capV, exs, exP, allP, Cur.app, List.map_cons, List.map_nil, List.cons_append, List.nil_append, List.drop_succ_cons, List.drop_zero, List.length_cons, List.length_nil, Nat.zero_add, Nat.reduceAdd, Int.neg_neg, Bool.not_not, List.append_nil, Nat.add_zero, List.getElem?_cons_zero, List.getElem?_cons_succ, Decidable.not_not, semW_eq, ne_eq, Nat.reduceEqDiff, not_false_eq_true]
  refine (putI_ok b l S a n c q hr hl hn hb).weak (fun _ _ h => h) ?_
  rintro v R h ⟨rfl, H⟩
  exact ⟨_, _, rfl, .of fun R h H => ⟨trivial, H⟩, H⟩
theorem chB_len (c : List Int) : (chB c).length = 4 + c.length := by simp [chB, beN_len]
theorem flat_chB (q : List (List Int)) (m : Nat) (h : ∀ c ∈ q, c.length ≤ m) : (q.flatMap chB).length ≤ q.length * (4 + m) := by
  induction q with
  | nil => simp
  | cons c r ih =>
    have h1 := h c (by simp)
    have h2 := ih fun d hd => h d (by simp [hd])
    rw [List.flatMap_cons, List.length_append, chB_len, List.length_cons, Nat.succ_mul]
    omega
set_option maxHeartbeats 1000000 in
theorem putC_ok (b : Nat) (l : List UInt8) (S : HP) (a : Option Addr) (n c : Nat) (es : List ChE) (hS : ∀ R h, S.p R h → (Ls kCh a n es).p R h) (hn : n ≤ 1000) (hes : ∀ x ∈ es, x.l.length ≤ 1000000) (hb : l.length ≤ 1000) :
    Tri Tryd.prog 60 #[.pointer (some ⟨b, 0, none⟩), .slice a n c, .func (.func 61) #[] #[]] (HP.sep (WRep b l) S)
      (fun v => HP.and (v = .tuple #[]) (HP.sep (WRep b (l ++ (beN es.length 4 ++ (es.map (·.l)).flatMap chB))) S)) := by
  refine Tri.fact (φ := es.length = n ∧ (n ≠ 0 → a.isSome = true)) (fun R h H => ⟨(hS R _ (HP.sep_right H)).1, fun hn => RoC.some (hS R _ (HP.sep_right H)).2.1 (by omega)⟩) fun ⟨hl, hs⟩ => ?_
  refine (tri_of_tree (ρ := [.n b, .p (WRep b l), .a a, .n n, .n c, .p S, .v (.func (.func 61) #[] #[]), .p HP.tt]) mixed Tryd.func60 tree_putC ?_).weak
    (fun R h H => HP.sep_assoc (HP.sep_tt H)) fun _ _ _ h => h
  unfold t_putC
  simp only [T.den, E.prop, E.den, RX.look, F1.app, F2.app, Uni.int_i, Uni.nat_n, Uni.bool_c, Uni.str_s, Uni.adr_a, Uni.val_v, Uni.hp_p, hden, cden, V.den, W.den, A.den, BR.den, SA.den, FV.den, capV, exs, exP, allP, Cur.app, List.map_cons, List.map_nil, List.cons_append, List.nil_append, List.drop_succ_cons, List.drop_zero, List.length_cons, List.length_nil, Nat.zero_add, Nat.reduceAdd, Int.neg_neg, Bool.not_not, List.append_nil, Nat.add_zero, List.getElem?_cons_zero, List.getElem?_cons_succ, Decidable.not_not, semW_eq, semW_load, ne_eq, Nat.reduceEqDiff, not_false_eq_true]
  rw [wrapN (by omega)]
  refine (wNumber_ok b l n 4 (by omega) (by omega)).weak (fun _ _ h => h) ?_
  rintro v R h ⟨rfl, H⟩
  refine ⟨_, rfl, ⟨false, eqlFn Tryd.underlying106 (by kernel_rfl), fun h => (by cases h), fun _ => ?_⟩, H⟩
  refine ⟨fun k p q' => ∃ j : Nat, k = j ∧ j ≤ n ∧ HP.ent p (WRep b (l ++ beN n 4 ++ ((es.take j).map (·.l)).flatMap chB)) ∧ q' = HP.tt, fun k _ _ => n - k.toNat, ⟨0, rfl, Nat.zero_le _, by simpa using HP.ent.refl _, rfl⟩, ?_⟩
  rintro k p _ ⟨j, rfl, hj, hp, rfl⟩
  refine ⟨fun hlt => ⟨by omega, fun _ => ⟨hs (by omega), fun _ => ?_⟩⟩, fun hge => ?_⟩
  · have hjl : j < es.length := by omega
    have hx : es[j]? = some es[j] := List.getElem?_eq_getElem hjl
    have htk : ((es.take (j + 1)).map (·.l)).flatMap chB = ((es.take j).map (·.l)).flatMap chB ++ chB es[j].l := by
      rw [List.take_succ_eq_append_getElem hjl, List.map_append, List.flatMap_append]; simp
    have hxm := List.mem_of_getElem? hx
    generalize es[j] = x at *
    have hbnd := flat_chB ((es.take j).map (·.l)) 1000000 fun c hc => by
      obtain ⟨y, hy, rfl⟩ := List.mem_map.1 hc
      exact hes y (List.mem_of_mem_take hy)
    have hbnd2 : ((es.take j).map (·.l)).length * (4 + 1000000) ≤ 1000 * (4 + 1000000) := Nat.mul_le_mul_right _ (by simp; omega)
    refine ⟨x.a, x.l.length, x.c, ldC hS hx, ?_⟩
    refine .inl ⟨_, #[], rfl, fgoE1, ?_⟩
    refine (enc1_ok b _ S x.a x.l.length x.c x.l (.of fun R h H => (hS R h H).2.2 x hxm) rfl (hes x hxm) (by simp only [List.length_append, beN_len]; omega)).conseq (K := HP.tt) ((HP.ent.of fun R h H => HP.pick [HP.tt, p, S] [1, 2] (by decide) rfl H).trans ((HP.ent.sep hp S).trans (.of fun R h H => HP.sep_tt H))) fun v => .of fun R h H => ?_
    obtain ⟨rfl, H1⟩ := HP.sep_left H
    refine ⟨HP.tt, _, rfl, ⟨inI64 _ (by omega) (by omega), fun _ => ⟨⟨j + 1, by omega, by omega, ?_, rfl⟩, by dsimp only; omega⟩⟩, HP.tt_sep H1⟩
    rw [htk, ← List.append_assoc]
    exact .refl _
  · have e : j = es.length := by omega
    rw [e, List.take_length] at hp
    refine (HP.ent.sep2 hp (HP.ent.refl _)).trans (.of fun R h H => ⟨trivial, ?_⟩)
    have e2 : l ++ (beN es.length 4 ++ (es.map (·.l)).flatMap chB) = l ++ beN n 4 ++ (es.map (·.l)).flatMap chB := by rw [hl, List.append_assoc]
    rw [e2]
    exact HP.sep_mono H (fun _ h => h) fun _ h => HP.sep_left h
set_option maxHeartbeats 1000000 in
theorem plEnc_ok (ep : Int) (S : HP) (a : Option Addr) (n c : Nat) (es : List ChE) (hS : ∀ R h, S.p R h → (Ls kCh a n es).p R h) (h0 : 0 ≤ ep) (h1 : ep ≤ 2147483648) (hn : n ≤ 1000) (hes : ∀ x ∈ es, x.l.length ≤ 1000000) :
    Tri Tryd.prog 42 #[.agg #[.int .i64 ep, .slice a n c]] S (fun v => HP.ex fun a' => HP.ex fun c' => HP.and (v = .slice a' (plS ⟨ep, es.map (·.l)⟩).length c') (HP.sep S (OwB a' (plS ⟨ep, es.map (·.l)⟩).length c' (plS ⟨ep, es.map (·.l)⟩)))) := by
  refine tri_of_tree (ρ := [.i ep, .a a, .n n, .n c, .p S]) mixed Tryd.func42 tree_plEnc ?_
  unfold t_plEnc
  simp only [T.den, E.prop, E.den, RX.look, F1.app, F2.app, Uni.int_i, Uni.nat_n, Uni.bool_c, Uni.str_s, Uni.adr_a, Uni.val_v, Uni.hp_p, hden, cden, V.den, W.den, A.den, BR.den, SA.den, FV.den, capV, exs, exP, allP, Cur.app, List.map_cons, List.map_nil, List.cons_append, List.nil_append, List.drop_succ_cons, List.drop_zero, List.length_cons, List.length_nil, Nat.zero_add, Nat.reduceAdd, Int.neg_neg, Bool.not_not, List.append_nil, Nat.add_zero, List.getElem?_cons_zero, List.getElem?_cons_succ, Decidable.not_not, semW_eq, ne_eq, Nat.reduceEqDiff, not_false_eq_true]
  intro _ x
  refine Tri.fact (φ := True) (fun _ _ _ => trivial) fun _ => ?_
  have hw : IntKind.u64.wrap ep = (ep.toNat : Int) := by
    have : ep = (ep.toNat : Int) := by omega
    conv => lhs; rw [this]
    exact wrapN (by omega)
  rw [hw]
  refine (wNumber_ok x [] ep.toNat 4 (by omega) (by simp)).weak (fun R h H => ⟨none, 0, HP.sep_comm (HP.sep_mono (HP.tt_sep H) (fun y _ => OwC.nil _ _ R y) fun _ h => h)⟩) ?_
  rintro v R h ⟨rfl, xa, xc, H⟩
  refine ⟨xa, _, xc, OwB xa _ xc _, rfl, ?_, H⟩
  clear H
  have hsm : es.length ≤ 1000 ∨ True := .inr trivial
  have hplB : [] ++ beN ep.toNat 4 ++ (beN es.length 4 ++ (es.map (·.l)).flatMap chB) = plB ⟨ep, es.map (·.l)⟩ := by unfold plB; simp
  refine Tri.fact (φ := es.length = n) (fun R h H => (hS R _ (HP.sep_right (HP.sep_right H))).1) fun hl => ?_
  have hbnd := flat_chB (es.map (·.l)) 1000000 fun c hc => by
    obtain ⟨y, hy, rfl⟩ := List.mem_map.1 hc
    exact hes y hy
  have hbnd2 : (es.map (·.l)).length * (4 + 1000000) ≤ 1000 * (4 + 1000000) := Nat.mul_le_mul_right _ (by simp; omega)
  have elen : (plB ⟨ep, es.map (·.l)⟩).length ≤ 100000000000 := by
    unfold plB
    simp only [List.length_append, beN_len]
    omega
  refine (putC_ok x ([] ++ beN ep.toNat 4) S a n c es hS hn hes (by simp [beN_len])).weak (fun R h H => HP.sep_mono (HP.sep_assoc' H) (fun _ h => ⟨xa, xc, h⟩) fun _ h => h) ?_
  rw [hplB]
  rintro v R h ⟨rfl, h1, h2, d, q1, q2, ⟨ya, yc, HW⟩, HN⟩
  refine ⟨ya, _, yc, OwB ya _ yc _, S, rfl, ?_, HP.sep_assoc ⟨h1, h2, d, q1, q2, HW, HN⟩⟩
  refine (wOut_ok x (plB ⟨ep, es.map (·.l)⟩) (by omega)).weak (fun R h H => ⟨ya, yc, H⟩) ?_
  rintro v R h ⟨a', c', rfl, h1, h2, d, q1, q2, ⟨za, zc, HW⟩, HO⟩
  have ha' : (plB ⟨ep, es.map (·.l)⟩).length ≠ 0 → a'.isSome = true := fun h => OwC.some HO (by omega)
  refine ⟨a', _, c', OwB a' _ c' _, za, _, zc, OwB za _ zc _, rfl, ?_, h2, h1, d.symm, q2, q1, HO, HW⟩
  refine (wrap_ok a' _ c' _ _ (RdL.ow _ _ _ _ _ _) rfl ha' (by omega)).weak (fun _ _ h => h) ?_
  rintro v R h ⟨b', d', rfl, H⟩
  exact ⟨b', _, d', OwB b' _ d' _, _, rfl, .of fun R h H => ⟨b', d', rfl, H⟩, HP.sep_comm H⟩
end Go.Proofs.YtbmajijnjkicmaaDoor



namespace Go.Proofs.YtbmajijnjkicmaaDoor
set_option linter.unusedSimpArgs false
set_option linter.unusedVariables false
open Go.Proofs.YtbmajijnjkicmaaDoor RX
set_option maxRecDepth 100000

def byR (s : RS) : Int × RS := ((((numR s 1).1 % 256 : Nat) : Int), (numR s 1).2)
def chR (s : RS) : List Int × RS := listR byR 7 s
theorem byR_shrinks : Shrinks byR := fun s h => by have := (numR_false (s := s) (n := 1) h).2; show (numR s 1).2.1.length + 1 ≤ _; omega
theorem byR_le (s : RS) : (byR s).2.1.length ≤ s.1.length := numR_le s 1
theorem chR_shrinks : Shrinks chR := fun s h => by
  unfold chR at h ⊢
  rw [listR_snd] at h ⊢
  have h1 := toldR_false (loopR_false h)
  have h2 := loopR_le (f := byR) byR_le (toldR s 7).1 (toldR s 7).2
  omega
theorem chR_le (s : RS) : (chR s).2.1.length ≤ s.1.length := listR_le (f := byR) byR_le 7 s
theorem dec2_ok (b : Nat) (s : RS) : Tri Tryd.prog 51 #[.pointer (some ⟨b, 0, none⟩)] (RRep b s) (fun v => HP.and (v = .int .i64 (byR s).1) (RRep b (byR s).2)) := by
  refine tri_of_tree (ρ := [.n b, .p (RRep b s)]) mixed Tryd.func51 tree_plDec2 ?_
  unfold t_plDec2
  simp only [T.den, E.prop, E.den, RX.look, F1.app, F2.app, Uni.int_i, Uni.nat_n, Uni.bool_c, Uni.str_s, Uni.adr_a, Uni.val_v, Uni.hp_p, hden, cden, V.den, W.den, A.den, BR.den, SA.den, FV.den, capV, exs, exP, allP, Cur.app, List.map_cons, List.map_nil, List.cons_append, List.nil_append, List.drop_succ_cons, List.drop_zero, List.length_cons, List.length_nil, Nat.zero_add, Nat.reduceAdd, Int.neg_neg, Bool.not_not, List.append_nil, Nat.add_zero, List.getElem?_cons_zero, List.getElem?_cons_succ, Decidable.not_not, semW_eq, ne_eq, Nat.reduceEqDiff, not_false_eq_true]
  refine (rByte_ok b s).weak (fun _ _ h => h) ?_
  rintro v R h ⟨rfl, H⟩
  exact ⟨_, _, rfl, ⟨inI64 _ (by omega) (by omega), fun _ => .of fun R h H => ⟨rfl, H⟩⟩, H⟩
set_option maxHeartbeats 1000000 in
theorem listI_ok (b : Nat) (s : RS) (most : Int) (hL : s.1.length ≤ 100000000) : Tri Tryd.prog 50 #[.pointer (some ⟨b, 0, none⟩), .int .i64 most, .func (.func 51) #[] #[]] (RRep b s)
    (fun v => HP.ex fun a => HP.ex fun c => HP.and (v = .slice a (listR byR most s).1.length c) (HP.sep (OwI a (listR byR most s).1.length c (listR byR most s).1) (RRep b (listR byR most s).2))) := by
  refine tri_of_tree (ρ := [.n b, .p (RRep b s), .i most, .v (.func (.func 51) #[] #[]), .p HP.tt]) mixed Tryd.func50 tree_listI ?_
  unfold t_listI
  simp only [T.den, E.prop, E.den, RX.look, F1.app, F2.app, Uni.int_i, Uni.nat_n, Uni.bool_c, Uni.str_s, Uni.adr_a, Uni.val_v, Uni.hp_p, hden, cden, V.den, W.den, A.den, BR.den, SA.den, FV.den, capV, exs, exP, allP, Cur.app, List.map_cons, List.map_nil, List.cons_append, List.nil_append, List.drop_succ_cons, List.drop_zero, List.length_cons, List.length_nil, Nat.zero_add, Nat.reduceAdd, Int.neg_neg, Bool.not_not, List.append_nil, Nat.add_zero, List.getElem?_cons_zero, List.getElem?_cons_succ, Decidable.not_not, semW_eq, semW_load, semW_append, ne_eq, Nat.reduceEqDiff, not_false_eq_true]
  intro x y
  refine (rTold_ok b s most).weak (fun _ _ h => h) ?_
  rintro v R h ⟨rfl, H⟩
  refine ⟨_, _, rfl, fun z => ?_, H⟩
  refine (turns_ok b _ (RRep b (toldR s most).2)).weak (fun _ _ h => h) ?_
  rintro v R h ⟨nb, rb, rfl, H⟩
  refine ⟨.func (.func 82) #[] #[.pointer (some ⟨nb, 0, none⟩), .pointer (some ⟨rb, 0, none⟩)], TBox nb rb b _, rfl, fun u => ?_, H⟩
  have hn := toldR_lt s most
  have hL1 : (toldR s most).2.1.length ≤ 100000000 := Nat.le_trans (toldR_len s most) hL
  have hlist : listR byR most s = if (loopR byR (toldR s most).1 (toldR s most).2).2.2 then ([], (loopR byR (toldR s most).1 (toldR s most).2).2) else loopR byR (toldR s most).1 (toldR s most).2 := rfl
  generalize hN : (toldR s most).1 = N at *
  generalize hS1 : (toldR s most).2 = s1 at *
  refine ⟨Nat × RS, fun g => RRep b g.2, fun _ _ => HP.tt, mayT N, finT N, (0, s1), fun g p a n c q => p = RRep b g.2 ∧ ∃ ll, n = ll.length ∧ HP.ent q (OwI a n c ll) ∧ Sofar byR N s1 g ll, turns_seq nb rb b N (by omega) s1, ?_, ?_, ?_, ?_⟩
  · exact ⟨rfl, [], rfl, .of fun R h _ => OwC.nil _ _ R h, Sofar.init _ _ _⟩
  · rintro g p a n c q ⟨rfl, _⟩; rfl
  · rintro g args ⟨g', rfl, hi, hw, _⟩ p a n c q ⟨rfl, ll, rfl, hq, hs⟩
    refine ⟨(g.1 : Int), rfl, .of fun _ _ _ => trivial, ?_⟩
    refine (dec2_ok b g.2).weak (fun _ _ h => h) ?_
    rintro v R h ⟨rfl, H⟩
    refine ⟨_, _, rfl, fun e => ?_, H⟩
    have hll : ll.length ≤ 100000000 := by have := hs.2.1 hw; omega
    refine (appendI a ll.length c ll (HP.one e (.cells #[.int .i64 (byR g.2).1] 3 (0, 0))) ⟨e, 0, none⟩ 1 1 [(byR g.2).1] (one_rd e #[.int .i64 (byR g.2).1] 3) rfl (by omega)).conseq (K := HP.tt) ((hq.sep _).trans (.of fun _ _ => HP.sep_tt)) fun v => .of fun R h H => ?_
    obtain ⟨a', c', rfl, H'⟩ := HP.sep_left H
    exact ⟨a', _, c', _, rfl, ⟨(g.1 + 1, (byR g.2).2), ⟨rfl, hi, hw, rfl⟩, rfl, ll ++ [(byR g.2).1], by simp, HP.ent.refl _, hs.next byR_shrinks hi hw⟩, H'⟩
  · rintro g hf p a n c q ⟨rfl, ll, rfl, hq, hs⟩
    have hfin := hs.fin hf
    rw [hfin] at hlist
    refine ⟨g.2.2, rrep_rd b g.2, fun hw => .of fun R h H => ?_, fun hw => ((HP.ent.refl _).sep2 hq).trans (.of fun R h H => ?_)⟩
    · rw [hlist, if_pos hw]
      exact ⟨none, 0, rfl, HP.sep_comm (HP.sep_mono (HP.sep_tt H) (fun _ h => h) fun y _ => OwC.nil _ _ R y)⟩
    · rw [hlist, if_neg hw]
      exact ⟨a, c, rfl, HP.sep_comm H⟩
theorem dec1_ok (b : Nat) (s : RS) (hL : s.1.length ≤ 100000000) : Tri Tryd.prog 49 #[.pointer (some ⟨b, 0, none⟩)] (RRep b s)
    (fun v => HP.ex fun a => HP.ex fun c => HP.and (v = .slice a (chR s).1.length c) (HP.sep (RoI a (chR s).1.length (chR s).1) (RRep b (chR s).2))) := by
  refine tri_of_tree (ρ := [.n b, .p (RRep b s)]) mixed Tryd.func49 tree_plDec1 ?_
  unfold t_plDec1
  simp only [T.den, E.prop, E.den, RX.look, F1.app, F2.app, Uni.int_i, Uni.nat_n, Uni.bool_c, Uni.str_s, Uni.adr_a, Uni.val_v, Uni.hp_p, hden, cden, V.den, W.den, A.den, BR.den, SA.den, FV.den, capV, exs, exP, allP, Cur.app, List.map_cons, List.map_nil, List.cons_append, List.nil_append, List.drop_succ_cons, List.drop_zero, List.length_cons, List.length_nil, Nat.zero_add, Nat.reduceAdd, Int.neg_neg, Bool.not_not, List.append_nil, Nat.add_zero, List.getElem?_cons_zero, List.getElem?_cons_succ, Decidable.not_not, semW_eq, ne_eq, Nat.reduceEqDiff, not_false_eq_true]
  refine (listI_ok b s 7 hL).weak (fun _ _ h => h) ?_
  rintro v R h ⟨a, c, rfl, H⟩
  refine ⟨a, _, c, _, _, rfl, ?_, H⟩
  exact ((HP.ent.of fun R h H => HP.sep_comm H).trans (HP.ent.sep (OwC.share _ _ _ _ _ _) _)).trans (.of fun R h H => ⟨a, c, rfl, H⟩)
set_option maxHeartbeats 1000000 in
theorem listC_ok (b : Nat) (s : RS) (most : Int) (hL : s.1.length ≤ 100000000) : Tri Tryd.prog 48 #[.pointer (some ⟨b, 0, none⟩), .int .i64 most, .func (.func 49) #[] #[]] (RRep b s)
    (fun v => HP.ex fun a => HP.ex fun c => HP.ex fun es : List ChE => HP.and (v = .slice a es.length c ∧ es.map (·.l) = (listR chR most s).1) (HP.sep (PL pkC a es.length c es) (RRep b (listR chR most s).2))) := by
  refine tri_of_tree (ρ := [.n b, .p (RRep b s), .i most, .v (.func (.func 49) #[] #[]), .p HP.tt]) mixed Tryd.func48 tree_listC ?_
  unfold t_listC
  simp only [T.den, E.prop, E.den, RX.look, F1.app, F2.app, Uni.int_i, Uni.nat_n, Uni.bool_c, Uni.str_s, Uni.adr_a, Uni.val_v, Uni.hp_p, hden, cden, V.den, W.den, A.den, BR.den, SA.den, FV.den, capV, exs, exP, allP, Cur.app, List.map_cons, List.map_nil, List.cons_append, List.nil_append, List.drop_succ_cons, List.drop_zero, List.length_cons, List.length_nil, Nat.zero_add, Nat.reduceAdd, Int.neg_neg, Bool.not_not, List.append_nil, Nat.add_zero, List.getElem?_cons_zero, List.getElem?_cons_succ, Decidable.not_not, semW_eq, semW_load, semW_append, ne_eq, Nat.reduceEqDiff, not_false_eq_true]
  intro x y
  refine (rTold_ok b s most).weak (fun _ _ h => h) ?_
  rintro v R h ⟨rfl, H⟩
  refine ⟨_, _, rfl, fun z => ?_, H⟩
  refine (turns_ok b _ (RRep b (toldR s most).2)).weak (fun _ _ h => h) ?_
  rintro v R h ⟨nb, rb, rfl, H⟩
  refine ⟨.func (.func 82) #[] #[.pointer (some ⟨nb, 0, none⟩), .pointer (some ⟨rb, 0, none⟩)], TBox nb rb b _, rfl, fun u => ?_, H⟩
  have hn := toldR_lt s most
  have hL1 : (toldR s most).2.1.length ≤ 100000000 := Nat.le_trans (toldR_len s most) hL
  have hlist : listR chR most s = if (loopR chR (toldR s most).1 (toldR s most).2).2.2 then ([], (loopR chR (toldR s most).1 (toldR s most).2).2) else loopR chR (toldR s most).1 (toldR s most).2 := rfl
  generalize hN : (toldR s most).1 = N at *
  generalize hS1 : (toldR s most).2 = s1 at *
  obtain ⟨i, hi', z1, z2, z3⟩ := info_parts infoIs
  refine ⟨Nat × RS, fun g => RRep b g.2, fun _ _ => HP.tt, mayT N, finT N, (0, s1), fun g p a n c q => p = RRep b g.2 ∧ g.2.1.length ≤ 100000000 ∧ ∃ es : List ChE, n = es.length ∧ HP.ent q (PL pkC a n c es) ∧ Sofar chR N s1 g (es.map (·.l)), turns_seq nb rb b N (by omega) s1, ?_, ?_, ?_, ?_⟩
  · exact ⟨rfl, hL1, [], rfl, .of fun R h _ => PL.nil' _ R h, Sofar.init _ _ _⟩
  · rintro g p a n c q ⟨rfl, _⟩; rfl
  · rintro g args ⟨g', rfl, hi, hw, _⟩ p a n c q ⟨rfl, hg, es, rfl, hq, hs⟩
    refine ⟨(g.1 : Int), rfl, .of fun _ _ _ => trivial, ?_⟩
    refine (dec1_ok b g.2 hg).weak (fun _ _ h => h) ?_
    rintro v R h ⟨a1, c1, rfl, H⟩
    refine ⟨a1, _, c1, _, _, rfl, fun e => ?_, H⟩
    have hll : es.length ≤ 100000000 := by
      have := hs.2.1 hw
      simp only [List.length_map] at this; omega
    refine (PL.appK (K := pkC) 22 22 undIs hi' z1 (by rw [z2]; rfl) z2 (by rw [z3]; decide) a es.length c es e ⟨a1, c1, (chR g.2).1⟩ (RoI a1 (chR g.2).1.length (chR g.2).1) (by omega)).conseq (K := HP.tt) ((hq.sep _).trans (.of fun R h H => HP.sep_tt (HP.sep_mono H (fun _ h => h) fun z hz => HP.sep_mono hz (fun _ h => h) fun _ h => RoC.join h h))) fun v => .of fun R h H => ?_
    obtain ⟨a', c', rfl, H'⟩ := HP.sep_left H
    have hnx := hs.next chR_shrinks hi hw
    refine ⟨a', _, c', _, rfl, ⟨(g.1 + 1, (chR g.2).2), ⟨rfl, hi, hw, rfl⟩, rfl, Nat.le_trans (chR_le _) hg, es ++ [⟨a1, c1, (chR g.2).1⟩], by simp, HP.ent.refl _, by rw [List.map_append]; exact hnx⟩, H'⟩
  · rintro g hf p a n c q ⟨rfl, hg, es, rfl, hq, hs⟩
    have hfin := hs.fin hf
    rw [hfin] at hlist
    refine ⟨g.2.2, rrep_rd b g.2, fun hw => .of fun R h H => ?_, fun hw => ((HP.ent.refl _).sep2 hq).trans (.of fun R h H => ?_)⟩
    · rw [hlist, if_pos hw]
      exact ⟨none, 0, [], ⟨rfl, rfl⟩, HP.sep_comm (HP.sep_mono (HP.sep_tt H) (fun _ h => h) fun y _ => PL.nil' _ R y)⟩
    · rw [hlist, if_neg hw]
      exact ⟨a, c, es, ⟨rfl, rfl⟩, HP.sep_comm H⟩
theorem listCR_ok (b : Nat) (s : RS) (most : Int) (hL : s.1.length ≤ 100000000) : Tri Tryd.prog 48 #[.pointer (some ⟨b, 0, none⟩), .int .i64 most, .func (.func 49) #[] #[]] (RRep b s)
    (fun v => HP.ex fun a => HP.ex fun c => HP.ex fun es : List ChE => HP.and (v = .slice a es.length c ∧ es.map (·.l) = (listR chR most s).1) (HP.sep (Ls kCh a es.length es) (RRep b (listR chR most s).2))) :=
  (listC_ok b s most hL).post fun v => fun R h d ⟨a, c, es, e, H⟩ => by
    obtain ⟨R1, h1, q1, q2, q3, q4, H1⟩ := (HP.ent.sep (PL.share _ _ _ _) _) R h d H
    exact ⟨R1, h1, q1, q2, q3, q4, a, c, es, e, H1⟩
theorem loopR_mem {α : Type} (f : RS → α × RS) : ∀ (n : Nat) (s : RS) (x : α), x ∈ (loopR f n s).1 → ∃ s', x = (f s').1
  | 0, s, x, h => by cases h
  | n + 1, s, x, h => by
    unfold loopR at h
    split at h
    · cases h
    · rcases List.mem_cons.1 h with e | e
      · exact ⟨s, e⟩
      · exact loopR_mem f n _ x e
theorem loopR_len {α : Type} (f : RS → α × RS) : ∀ (n : Nat) (s : RS), (loopR f n s).1.length ≤ n
  | 0, s => by simp [loopR]
  | n + 1, s => by
    unfold loopR
    split
    · simp
    · have := loopR_len f n (f s).2
      simp only [List.length_cons]; omega
theorem toldR_most (s : RS) (m : Nat) : (toldR s m).1 ≤ m := by
  unfold toldR
  split
  · simp
  · split
    · simp
    · show (numR s 4).1 ≤ m; omega
theorem listR_few {α : Type} (f : RS → α × RS) (m : Nat) (s : RS) : (listR f m s).1.length ≤ m := by
  unfold listR
  split
  · simp
  · exact Nat.le_trans (loopR_len f _ _) (toldR_most s m)
theorem listR_mem {α : Type} (f : RS → α × RS) (m : Int) (s : RS) (x : α) (h : x ∈ (listR f m s).1) : ∃ s', x = (f s').1 := by
  unfold listR at h
  split at h
  · cases h
  · exact loopR_mem f _ _ x h
def rawP (l : List UInt8) : PlP × RS := (⟨(numR (l, false) 4).1, (listR chR 7 (numR (l, false) 4).2).1⟩, (listR chR 7 (numR (l, false) 4).2).2)
def decP (l : List UInt8) : PlP × Int := match unwrapS l with
  | none => (⟨0, []⟩, 3)
  | some i => if (rawP i).2.2 = true ∨ (rawP i).2.1 ≠ [] ∨ rightB (rawP i).1 = false then (⟨0, []⟩, 3) else ((rawP i).1, 0)
theorem unwrapS_le {l i : List UInt8} (h : unwrapS l = some i) : i.length ≤ l.length := by
  unfold unwrapS at h
  split at h
  · cases h
  · split at h
    · cases h; simp
    · cases h
set_option maxHeartbeats 1000000 in
theorem plDec_ok (a : Option Addr) (n c : Nat) (l : List UInt8) (S : HP) (hr : RdL S a n (l.map u8v)) (hl : l.length = n) (hc : n ≤ c) (hL : n ≤ 100000000) :
    Tri Tryd.prog 36 #[.slice a n c] S (fun v => HP.ex fun a' => HP.ex fun c' => HP.ex fun es : List ChE => HP.and (v = .tuple #[.agg #[.int .i64 (decP l).1.ep, .slice a' es.length c'], .int .i64 (decP l).2] ∧ es.map (·.l) = (decP l).1.ch) (HP.sep (Ls kCh a' es.length es) S)) := by
  refine Tri.fact (φ := a = none → n = 0) (fun R h H => hr.none R _ H) fun ha => ?_
  refine tri_of_tree (ρ := [.a a, .n n, .n c, .p S]) mixed Tryd.func36 tree_plDec ?_
  unfold t_plDec
  simp only [T.den, E.prop, E.den, RX.look, F1.app, F2.app, Uni.int_i, Uni.nat_n, Uni.bool_c, Uni.str_s, Uni.adr_a, Uni.val_v, Uni.hp_p, hden, cden, V.den, W.den, A.den, BR.den, SA.den, FV.den, capV, exs, exP, allP, Cur.app, List.map_cons, List.map_nil, List.cons_append, List.nil_append, List.drop_succ_cons, List.drop_zero, List.length_cons, List.length_nil, Nat.zero_add, Nat.reduceAdd, Int.neg_neg, Bool.not_not, List.append_nil, Nat.add_zero, List.getElem?_cons_zero, List.getElem?_cons_succ, Decidable.not_not, semW_eq, ne_eq, Nat.reduceEqDiff, not_false_eq_true]
  have bad : ∀ {K : HP}, decP l = (⟨0, []⟩, 3) → HP.ent K S → HP.ent K (HP.ex fun a' => HP.ex fun c' => HP.ex fun es : List ChE => HP.and (Value.tuple #[.agg #[.int .i64 0, .slice none 0 0], .int .i64 3] = .tuple #[.agg #[.int .i64 (decP l).1.ep, .slice a' es.length c'], .int .i64 (decP l).2] ∧ es.map (·.l) = (decP l).1.ch) (HP.sep (Ls kCh a' es.length es) S)) := fun he hk => hk.trans (.of fun R h H => ⟨none, 0, [], ⟨by rw [he]; rfl, by rw [he]; rfl⟩, HP.sep_comm (HP.sep_mono (HP.sep_tt H) (fun _ h => h) fun y _ => ⟨rfl, RoC.nil _ _ _ _, fun x hx => by cases hx⟩)⟩)
  intro _
  refine (unwrap_ok a n c l S hr hl hc (fun h => Option.isSome_iff_ne_none.2 fun e => h (ha e)) (by omega)).weak (fun _ _ h => h) ?_
  rintro v R h ⟨a1, c1, rfl, H⟩
  refine ⟨a1, _, c1, OwB a1 ((unwrapS l).getD []).length c1 ((unwrapS l).getD []), _, S, rfl, ⟨fun h1 => bad ?_ (.refl _), fun h1 => ?_⟩, HP.sep_comm H⟩
  · cases hu : unwrapS l with
    | none => unfold decP; rw [hu]
    | some i => rw [hu] at h1; simp at h1
  clear H
  obtain ⟨i, hu⟩ : ∃ i, unwrapS l = some i := by
    cases hu : unwrapS l with
    | none => rw [hu] at h1; simp at h1
    | some i => exact ⟨i, rfl⟩
  have hil := unwrapS_le hu
  have hdec : decP l = if (rawP i).2.2 = true ∨ (rawP i).2.1 ≠ [] ∨ rightB (rawP i).1 = false then (⟨0, []⟩, 3) else ((rawP i).1, 0) := by unfold decP; rw [hu]
  rw [hu]
  simp only [Option.getD_some]
  refine (rRead_ok a1 i.length c1 i (OwB a1 i.length c1 i) (RdL.ow _ _ _ _ _ _) rfl (by omega)).weak (fun _ _ h => h) ?_
  rintro v R h ⟨b, rfl, H⟩
  refine ⟨b, RRep b (i, false), _, rfl, ?_, HP.sep_comm H⟩
  clear H
  refine (rNumber_ok b (i, false) 4 (by omega)).weak (fun _ _ h => h) ?_
  rintro v R h ⟨rfl, H⟩
  have hlt := numR_lt (i, false) 4
  have hwr : IntKind.i64.wrap (((numR (i, false) 4).1 : Nat) : Int) = ((numR (i, false) 4).1 : Nat) := wrap_in (inI64 _ (by omega) (by omega))
  refine ⟨_, RRep b (numR (i, false) 4).2, rfl, fun _ => ?_, H⟩
  clear H
  rw [hwr]
  have hlen : (numR (i, false) 4).2.1.length ≤ 100000000 := Nat.le_trans (numR_le _ _) (by show i.length ≤ _; omega)
  refine (listCR_ok b (numR (i, false) 4).2 7 hlen).weak (fun _ _ h => h) ?_
  rintro v R h ⟨a2, c2, es, ⟨rfl, hes⟩, H⟩
  refine ⟨a2, es.length, c2, Ls kCh a2 es.length es, RRep b (listR chR 7 (numR (i, false) 4).2).2, rfl, ?_, H⟩
  clear H
  have hraw : rawP i = (⟨(numR (i, false) 4).1, es.map (·.l)⟩, (listR chR 7 (numR (i, false) 4).2).2) := by unfold rawP; rw [hes]
  rw [hraw] at hdec
  refine (rEnd_ok b _).weak (fun _ _ h => h) ?_
  rintro v R h ⟨rfl, H⟩
  refine ⟨_, _, rfl, ⟨fun h2 => bad ?_ (.of fun R h H => ?_), fun h2 => ?_⟩, H⟩
  · rw [hdec, if_pos]
    split at h2
    · rename_i h3; exact h3.elim .inl fun h => .inr (.inl h)
    · exact absurd rfl h2
  · first | exact H | exact HP.sep_left H | exact HP.sep_right H
  · have hno : ¬ ((listR chR 7 (numR (i, false) 4).2).2.2 = true ∨ (listR chR 7 (numR (i, false) 4).2).2.1 ≠ []) := fun h => by rw [if_pos h] at h2; exact absurd h2 (by decide)
    have h7 : ∀ x ∈ es, x.l.length ≤ 7 := fun x hx => by
      have : x.l ∈ (listR chR 7 (numR (i, false) 4).2).1 := by rw [← hes]; exact List.mem_map.2 ⟨x, hx, rfl⟩
      obtain ⟨s', e⟩ := listR_mem _ _ _ _ this
      rw [e]; exact listR_few byR 7 s'
    refine (right_ok (Ls kCh a2 es.length es) _ a2 es.length c2 es (fun _ _ h => h) (fun x hx => by have := h7 x hx; omega)).weak (fun _ _ h => h) ?_
    rintro v R h ⟨rfl, H⟩
    refine ⟨_, Ls kCh a2 es.length es, rfl, ⟨fun h3 => bad ?_ (.of fun R h H => ?_), fun h3 => .of fun R h H => ⟨a2, c2, es, ?_, ?_⟩⟩, H⟩
    · rw [hdec, if_pos]; exact .inr (.inr (by simpa using h3))
    · first | exact H | exact HP.sep_left H | exact HP.sep_right H
    · have e : decP l = (⟨(numR (i, false) 4).1, es.map (·.l)⟩, 0) := by
        rw [hdec, if_neg]
        rintro (h | h | h)
        · exact hno (.inl h)
        · exact hno (.inr h)
        · rw [h] at h3; cases h3
      rw [e]; exact ⟨rfl, rfl⟩
    · exact HP.sep_comm H

theorem takeA (l r : List UInt8) : takeR (l ++ r, false) l.length = (l, (r, false)) := by
  unfold takeR
  rw [if_neg (by simp), if_neg (by simp)]
  simp
theorem numA {l r : List UInt8} {n : Nat} (h : l.length = n) : numR (l ++ r, false) n = (beV l, (r, false)) := by
  unfold numR; rw [← h, takeA]
theorem toldA {n m : Nat} {r : List UInt8} (h : n ≤ m) (hm : m < 4294967296) : toldR (beN n 4 ++ r, false) m = (n, (r, false)) := by
  unfold toldR
  rw [numA (beN_len _ _), beV_beN 4 n (by omega), if_neg (by simp), if_neg (by omega)]
theorem loopB {α : Type} (f : RS → α × RS) (g : α → List UInt8) : ∀ (l : List α) (_ : ∀ x ∈ l, ∀ r, f (g x ++ r, false) = (x, (r, false))) (r : List UInt8), loopR f l.length (l.flatMap g ++ r, false) = (l, (r, false))
  | [], _, r => rfl
  | x :: l, hf, r => by
    rw [List.length_cons, List.flatMap_cons, List.append_assoc]
    simp only [loopR]
    rw [if_neg (by simp), hf x (by simp)]
    simp only
    rw [loopB f g l (fun y hy => hf y (by simp [hy])) r]
theorem listA {α : Type} (f : RS → α × RS) (g : α → List UInt8) (l : List α) (hf : ∀ x ∈ l, ∀ r, f (g x ++ r, false) = (x, (r, false))) (m : Nat) (hm : l.length ≤ m) (hm2 : m < 4294967296) (r : List UInt8) : listR f m (beN l.length 4 ++ (l.flatMap g ++ r), false) = (l, (r, false)) := by
  unfold listR
  rw [toldA hm hm2]
  simp only
  rw [loopB f g l hf r]
  rfl
theorem byR_app {x : Int} (h0 : 0 ≤ x) (h1 : x < 256) (r : List UInt8) : byR (byI x :: r, false) = (x, (r, false)) := by
  unfold byR
  have := numA (l := [byI x]) (r := r) (n := 1) rfl
  rw [List.singleton_append] at this
  rw [this]
  have h2 := byI_val x
  have h3 : IntKind.u8.wrap x = x := wrap_in ⟨by simpa [IntKind.min, IntKind.signed] using h0, by simp [IntKind.max, IntKind.signed, IntKind.bits]; omega⟩
  rw [h3] at h2
  have h4 : beV [byI x] = (byI x).toNat := by simp [beV]
  rw [h4]
  congr 1
  omega
theorem chR_app {c : List Int} (hc : ∀ x ∈ c, 0 ≤ x ∧ x < 256) (h7 : c.length ≤ 7) (r : List UInt8) : chR (chB c ++ r, false) = (c, (r, false)) := by
  unfold chR chB
  have e : c.map byI = c.flatMap fun x => [byI x] := by
    clear hc h7
    induction c with
    | nil => rfl
    | cons x c ih => rw [List.map_cons, List.flatMap_cons, ih]; rfl
  rw [List.append_assoc, e]
  exact listA byR (fun x => [byI x]) c (fun x hx r => byR_app (hc x hx).1 (hc x hx).2 r) 7 h7 (by omega) r
theorem nodup7 {l : List Int} (hd : l.Nodup) (h : ∀ x ∈ l, 0 ≤ x ∧ x < 7) : l.length ≤ 7 := by
  have h3 : (l.map Int.toNat).Nodup := by
    induction l with
    | nil => exact List.nodup_nil
    | cons x M ih =>
      rw [List.nodup_cons] at hd
      rw [List.map_cons, List.nodup_cons]
      refine ⟨fun hm => ?_, ih hd.2 (fun y hy => h y (List.mem_cons_of_mem _ hy))⟩
      obtain ⟨y, hy, e⟩ := List.mem_map.1 hm
      have := h x (List.mem_cons_self ..)
      have := h y (List.mem_cons_of_mem _ hy)
      have : y = x := by omega
      exact hd.1 (this ▸ hy)
  have key : ∀ (n : Nat) (l : List Nat), l.Nodup → (∀ a ∈ l, a < n) → l.length ≤ n := by
    intro n
    induction n with
    | zero =>
        intro l _ h
        match l, h with
        | [], _ => simp
        | a :: l, h => exact absurd (h a (by simp)) (by omega)
    | succ n ih =>
        intro l hd h
        have h1 : (l.erase n).Nodup := hd.erase n
        have h2 := ih (l.erase n) h1 fun a ha => by
          have h3 := h a (List.mem_of_mem_erase ha)
          have h4 : a ≠ n := fun e => by subst e; exact (List.Nodup.mem_erase_iff hd).1 ha |>.1 rfl
          omega
        have := List.length_erase (a := n) (l := l)
        split at this <;> omega
  have := key 7 _ h3 fun a ha => by
    obtain ⟨y, hy, rfl⟩ := List.mem_map.1 ha
    have := h y hy
    omega
  rwa [List.length_map] at this
structure RightP (p : PlP) : Prop where
  ep0 : 0 ≤ p.ep
  ep1 : p.ep ≤ 2147483647
  len1 : 1 ≤ p.ch.length
  len7 : p.ch.length ≤ 7
  ne : ∀ c ∈ p.ch, c ≠ []
  rg : ∀ u ∈ p.ch.flatten, 0 ≤ u ∧ u < 7
  nd : p.ch.flatten.Nodup
theorem rightP {p : PlP} (h : rightB p = true) : RightP p := by
  obtain ⟨a, b, c, d, e, f, g⟩ := of_decide_eq_true h
  exact ⟨a, b, c, d, e, f, g⟩
theorem RightP.chain {p : PlP} (h : RightP p) {c : List Int} (hc : c ∈ p.ch) : c.Nodup ∧ (∀ u ∈ c, 0 ≤ u ∧ u < 7) ∧ c.length ≤ 7 := by
  have h1 : ∀ u ∈ c, 0 ≤ u ∧ u < 7 := fun u hu => h.rg u (List.mem_flatten.2 ⟨c, hc, hu⟩)
  have h2 : c.Nodup := by
    exact h.nd.sublist (List.sublist_flatten_of_mem hc)
  exact ⟨h2, h1, nodup7 h2 h1⟩
theorem plS_len {p : PlP} (h : RightP p) : (plS p).length ≤ 200 := by
  have := flat_chB p.ch 7 fun c hc => (h.chain hc).2.2
  have h2 : p.ch.length * (4 + 7) ≤ 7 * 11 := Nat.mul_le_mul h.len7 (by omega)
  unfold plS
  rw [wrapS_len]
  unfold plB
  simp only [List.length_append, beN_len]
  omega
theorem decP_plS {p : PlP} (hr : rightB p = true) : decP (plS p) = (p, 0) := by
  have h := rightP hr
  have h0 := h.ep0
  have h1 := h.ep1
  unfold decP plS
  rw [unwrap_wrap]
  have e1 : numR (plB p, false) 4 = (p.ep.toNat, (beN p.ch.length 4 ++ p.ch.flatMap chB, false)) := by
    unfold plB
    rw [numA (beN_len _ _), beV_beN 4 _ (by omega)]
  have e2 : listR chR 7 (beN p.ch.length 4 ++ p.ch.flatMap chB, false) = (p.ch, ([], false)) := by
    have := listA chR chB p.ch (fun c hc r => chR_app (fun x hx => by have := (h.chain hc).2.1 x hx; omega) (h.chain hc).2.2 r) 7 h.len7 (by omega) []
    rwa [List.append_nil] at this
  have e3 : rawP (plB p) = (p, ([], false)) := by
    unfold rawP
    rw [e1]
    simp only
    rw [e2]
    simp only
    have : ((p.ep.toNat : Nat) : Int) = p.ep := by omega
    rw [this]
  simp only [e3]
  rw [if_neg]
  simp [hr]
end Go.Proofs.YtbmajijnjkicmaaDoor



namespace Go.Proofs.YtbmajijnjkicmaaDoor
open Go.Proofs.YtbmajijnjkicmaaDoor RX

theorem least {p : Nat → Prop} (h : ∃ n, p n) : ∃ m, p m ∧ ∀ n, p n → m ≤ n := by
  obtain ⟨n, hn⟩ := h
  induction n using Nat.strongRecOn with
  | _ n ih =>
    by_cases hx : ∃ m, m < n ∧ p m
    · obtain ⟨m, hm, hp⟩ := hx; exact ih m hm hp
    · exact ⟨n, hn, fun m hp => Nat.le_of_not_lt fun hlt => hx ⟨m, hlt, hp⟩⟩
open Classical in
noncomputable def leastN (p : Nat → Prop) : Nat := if h : ∃ n, p n then Classical.choose (least h) else 0
theorem leastN_spec {p : Nat → Prop} (h : ∃ n, p n) : p (leastN p) := by
  unfold leastN; rw [dif_pos h]; exact (Classical.choose_spec (least h)).1
theorem leastN_le {p : Nat → Prop} {n : Nat} (h : p n) : leastN p ≤ n := by
  unfold leastN; rw [dif_pos ⟨n, h⟩]; exact (Classical.choose_spec (least ⟨n, h⟩)).2 n h
theorem map_inj {α β : Type} (g : α → β) : ∀ {l : List α}, (l.map g).Nodup → ∀ {x y : α}, x ∈ l → y ∈ l → g x = g y → x = y
  | [], _, _, _, hx, _, _ => by cases hx
  | z :: l, h, x, y, hx, hy, e => by
    simp only [List.map_cons, List.nodup_cons] at h
    rcases List.mem_cons.1 hx with rfl | hx2 <;> rcases List.mem_cons.1 hy with rfl | hy2
    · rfl
    · exact (h.1 (List.mem_map.2 ⟨y, hy2, e.symm⟩)).elim
    · exact (h.1 (List.mem_map.2 ⟨x, hx2, e⟩)).elim
    · exact map_inj g h.2 hx2 hy2 e
theorem stamp_push {κ : Type} {l : AL κ} {c : Nat} (hs : Stamps l c) {x y : κ × Value × Nat} {S : Array Nat} (hx : x ∈ l) (hy : y ∈ l) (h : y.2.2 ∈ S.push x.2.2) : y = x ∨ y.2.2 ∈ S := by
  rcases Array.mem_push.1 h with h | h
  · exact .inr h
  · exact .inl (map_inj (fun z : κ × Value × Nat => z.2.2) hs.nodup hy hx h)
end Go.Proofs.YtbmajijnjkicmaaDoor



namespace Go.Proofs.YtbmajijnjkicmaaDoor.RX
set_option maxRecDepth 100000
-- cmp.isNaN[int]: ρ := [.i x]
def t_bIsNaN : T :=
(.ret (.w (.a (.bool (.o1 .not (.o2 .eq (.v 0) (.v 0)))))) [])
theorem tree_bIsNaN : tree Tryd.prog { keep := [32, 35, 37, 67, 38, 40, 68, 78, 79, 84] } Tryd.f84 [.a (.int .i64 (.v 0))] [] 1 = t_bIsNaN := by kernel_rfl
def t_bCompare : T :=
(.call 84 [.a (.int .i64 (.v 0))] [] [.c] (.w (.a (.bool (.v 2)))) []
(.call 84 [.a (.int .i64 (.v 1))] [] [.c] (.w (.a (.bool (.v 3)))) []
(.br (.v 2)
(.br (.v 3)
(.ret (.w (.a (.int .i64 (.i 0)))) [])
(.ret (.w (.a (.int .i64 (.i (-1))))) []))
(.br (.v 3)
(.ret (.w (.a (.int .i64 (.i 1)))) [])
(.br (.o2 .lt (.v 0) (.v 1))
(.ret (.w (.a (.int .i64 (.i (-1))))) [])
(.br (.o2 .lt (.v 1) (.v 0))
(.ret (.w (.a (.int .i64 (.i 1)))) [])
(.ret (.w (.a (.int .i64 (.i 0)))) [])))))))
theorem tree_bCompare : tree Tryd.prog { keep := [32, 35, 37, 67, 38, 40, 68, 78, 79, 84] } Tryd.f78 [.a (.int .i64 (.v 0)), .a (.int .i64 (.v 1))] [] 2 = t_bCompare := by kernel_rfl
def t_bOr : T :=
(.loop [.i, .i] [.e (.o1 .neg (.o1 .neg (.i 0))), .e (.o1 .neg (.o1 .neg (.i 0)))]
(.br (.o2 .lt (.v 5) (.o1 .ofNat (.v 1)))
(.need (.o2 .le (.i 0) (.v 5))
(.need (.o1 .isSome (.v 0))
(.read (.load 3 (.tmp 10)) 3 [(10, .w (.a (.eptr 0 (.v 5) 1 0)))] [(.a 0, .prop 3)] [.i] (.w (.a (.int .i64 (.v 6))))
(.br (.o1 .not (.o2 .eq (.v 6) (.i 0)))
(.ret (.w (.a (.int .i64 (.v 6)))) [(.a 0, .prop 3)])
(.need (.o1 (.inr .i64) (.o2 .add (.v 5) (.i 1)))
(.again 0 [.e (.o1 .neg (.o1 .neg (.v 4))), .e (.o1 .neg (.o1 .neg (.o2 .add (.v 5) (.i 1))))]))))))
(.ret (.w (.a (.int .i64 (.i 0)))) [(.a 0, .prop 3)])))
theorem tree_bOr : tree Tryd.prog { keep := [32, 35, 37, 67, 38, 40, 68, 78, 79, 84] } Tryd.f79 [.a (.sl (.v 0) (.v 1) (.v 2))] [(.a 0, .prop 3)] 4 = t_bOr := by kernel_rfl
def t_bAhead : T :=
(.new
(.new
(.read (.binOp .eql 34 (.tmp 7) (.tmp 9) 34) 4 [(7, .w (.agg [.int .i64 (.v 2), .int .i64 (.v 3)])), (9, .w (.agg [.int .i64 (.v 10), .int .i64 (.v 11)]))] [] [.c] (.w (.a (.bool (.v 18))))
(.br (.v 18)
(.ret (.w (.a (.bool (.o2 .lt (.v 0) (.v 8))))) [(.a 4, .prop 7), (.a 12, .prop 15)])
(.call 78 [.a (.int .i64 (.v 2)), .a (.int .i64 (.v 10))] [] [.i] (.w (.a (.int .i64 (.v 19)))) []
(.call 78 [.a (.int .i64 (.v 3)), .a (.int .i64 (.v 11))] [] [.i] (.w (.a (.int .i64 (.v 20)))) []
(.new
(.call 79 [.a (.sl (.b (.v 21) 0) (.n 2) (.n 2))] [(.b (.v 21), .cells [.int .i64 (.v 19), .int .i64 (.v 20)] 3)] [.i] (.w (.a (.int .i64 (.v 22)))) [(.b (.v 21), .cells [.int .i64 (.v 19), .int .i64 (.v 20)] 3)]
(.ret (.w (.a (.bool (.o2 .lt (.i 0) (.v 22))))) [(.a 4, .prop 7), (.a 12, .prop 15)])))))))))
theorem tree_bAhead : tree Tryd.prog { keep := [32, 35, 37, 67, 38, 40, 68, 78, 79, 84] } Tryd.f68 [.agg [.int .i64 (.v 0), .bool (.v 1), .int .i64 (.v 2), .int .i64 (.v 3), .sl (.v 4) (.v 5) (.v 6)], .agg [.int .i64 (.v 8), .bool (.v 9), .int .i64 (.v 10), .int .i64 (.v 11), .sl (.v 12) (.v 13) (.v 14)]] [(.a 4, .prop 7), (.a 12, .prop 15)] 16 = t_bAhead := by kernel_rfl
def t_bStart : T :=
(.new
(.all
(.call 40 [.a (.sl (.v 3) (.v 4) (.v 5))] [(.a 3, .prop 6)] [.a, .n, .n, .p] (.w (.a (.sl (.v 8) (.v 9) (.v 10)))) [(.a 8, .prop 11), (.a 3, .prop 6)]
(.new
(.new
(.ret (.w (.a (.ptr (.v 13) 0))) [(.a 3, .prop 6), (.b (.v 13), .cells [.int .i64 (.o2 .mx (.v 0) (.i 1)), .int .i64 (.v 1), .int .i64 (.v 2), .sl (.v 8) (.v 9) (.v 10), .int .i64 (.i 1), .map (.v 12), .int .i64 (.i 0)] 77), (.a 8, .prop 11), (.b (.v 12), .emap)]))))
(.new
(.call 40 [.a (.sl (.v 3) (.v 4) (.v 5))] [(.a 3, .prop 6)] [.a, .n, .n, .p] (.w (.a (.sl (.v 9) (.v 10) (.v 11)))) [(.a 9, .prop 12), (.a 3, .prop 6)]
(.new
(.ret (.w (.a (.ptr (.v 13) 0))) [(.a 3, .prop 6), (.b (.v 13), .cells [.int .i64 (.o2 .mx (.v 0) (.i 1)), .int .i64 (.v 1), .int .i64 (.v 2), .sl (.v 9) (.v 10) (.v 11), .int .i64 (.i 1), .map (.v 8), .int .i64 (.i 0)] 77), (.a 9, .prop 12), (.b (.v 8), .emap)]))))))
theorem tree_bStart : tree Tryd.prog { keep := [32, 35, 37, 67, 38, 40, 68, 78, 79, 84] } Tryd.f33 [.a (.int .i64 (.v 0)), .agg [.int .i64 (.v 1), .int .i64 (.v 2)], .a (.sl (.v 3) (.v 4) (.v 5))] [(.a 3, .prop 6)] 7 = t_bStart := by kernel_rfl
def t_bPhase : T :=
(.ret (.w (.a (.int .i64 (.v 8)))) [(.b (.v 0), .cells [.int .i64 (.v 1), .int .i64 (.v 2), .int .i64 (.v 3), .sl (.v 4) (.v 5) (.v 6), .int .i64 (.v 8), .map (.v 9), .int .i64 (.v 11)] 77), (.a 4, .prop 7), (.b (.v 9), .prop 10)])
theorem tree_bPhase : tree Tryd.prog { keep := [32, 35, 37, 67, 38, 40, 68, 78, 79, 84] } Tryd.f32 [.a (.ptr (.v 0) 0)] [(.b (.v 0), .cells [.int .i64 (.v 1), .int .i64 (.v 2), .int .i64 (.v 3), .sl (.v 4) (.v 5) (.v 6), .int .i64 (.v 8), .map (.v 9), .int .i64 (.v 11)] 77), (.a 4, .prop 7), (.b (.v 9), .prop 10)] 12 = t_bPhase := by kernel_rfl
def t_bBallot : T :=
(.new
(.ret (.w (.agg [.int .i64 (.v 2), .int .i64 (.v 3)])) [(.b (.v 0), .cells [.int .i64 (.v 1), .int .i64 (.v 2), .int .i64 (.v 3), .sl (.v 4) (.v 5) (.v 6), .int .i64 (.v 8), .map (.v 9), .int .i64 (.v 11)] 77), (.a 4, .prop 7), (.b (.v 9), .prop 10)]))
theorem tree_bBallot : tree Tryd.prog { keep := [32, 35, 37, 67, 38, 40, 68, 78, 79, 84] } Tryd.f35 [.a (.ptr (.v 0) 0)] [(.b (.v 0), .cells [.int .i64 (.v 1), .int .i64 (.v 2), .int .i64 (.v 3), .sl (.v 4) (.v 5) (.v 6), .int .i64 (.v 8), .map (.v 9), .int .i64 (.v 11)] 77), (.a 4, .prop 7), (.b (.v 9), .prop 10)] 12 = t_bBallot := by kernel_rfl
def t_bValue : T :=
(.call 40 [.a (.sl (.v 4) (.v 5) (.v 6))] [(.a 4, .prop 7)] [.a, .n, .n, .p] (.w (.a (.sl (.v 12) (.v 13) (.v 14)))) [(.a 12, .prop 15), (.a 4, .prop 7)]
(.ret (.w (.a (.sl (.v 12) (.v 13) (.v 14)))) [(.b (.v 0), .cells [.int .i64 (.v 1), .int .i64 (.v 2), .int .i64 (.v 3), .sl (.v 4) (.v 5) (.v 6), .int .i64 (.v 8), .map (.v 9), .int .i64 (.v 11)] 77), (.a 4, .prop 7), (.b (.v 9), .prop 10), (.a 12, .prop 15)]))
theorem tree_bValue : tree Tryd.prog { keep := [32, 35, 37, 67, 38, 40, 68, 78, 79, 84] } Tryd.f37 [.a (.ptr (.v 0) 0)] [(.b (.v 0), .cells [.int .i64 (.v 1), .int .i64 (.v 2), .int .i64 (.v 3), .sl (.v 4) (.v 5) (.v 6), .int .i64 (.v 8), .map (.v 9), .int .i64 (.v 11)] 77), (.a 4, .prop 7), (.b (.v 9), .prop 10)] 12 = t_bValue := by kernel_rfl
def t_bMost : T :=
(.need (.o1 (.inr .i64) (.o2 .quo (.v 1) (.i 2)))
(.ret (.w (.a (.bool (.o2 .lt (.o2 .quo (.v 1) (.i 2)) (.v 12))))) [(.b (.v 0), .cells [.int .i64 (.v 1), .int .i64 (.v 2), .int .i64 (.v 3), .sl (.v 4) (.v 5) (.v 6), .int .i64 (.v 8), .map (.v 9), .int .i64 (.v 11)] 77), (.a 4, .prop 7), (.b (.v 9), .prop 10)]))
theorem tree_bMost : tree Tryd.prog { keep := [32, 35, 37, 67, 38, 40, 68, 78, 79, 84] } Tryd.f67 [.a (.ptr (.v 0) 0), .a (.int .i64 (.v 12))] [(.b (.v 0), .cells [.int .i64 (.v 1), .int .i64 (.v 2), .int .i64 (.v 3), .sl (.v 4) (.v 5) (.v 6), .int .i64 (.v 8), .map (.v 9), .int .i64 (.v 11)] 77), (.a 4, .prop 7), (.b (.v 9), .prop 10)] 13 = t_bMost := by kernel_rfl
def t_bAsked : T :=
(.br (.o1 .not (.o2 .eq (.v 8) (.i 1)))
(.br (.o1 .not (.o2 .eq (.v 8) (.i 2)))
(.ret (.w (.a (.bool (.c false)))) [(.b (.v 0), .cells [.int .i64 (.v 1), .int .i64 (.v 2), .int .i64 (.v 3), .sl (.v 4) (.v 5) (.v 6), .int .i64 (.v 8), .map (.v 9), .int .i64 (.v 11)] 77), (.a 4, .prop 7), (.b (.v 9), .prop 10)])
(.br (.o2 .lt (.v 12) (.i 0))
(.ret (.w (.a (.bool (.c false)))) [(.b (.v 0), .cells [.int .i64 (.v 1), .int .i64 (.v 2), .int .i64 (.v 3), .sl (.v 4) (.v 5) (.v 6), .int .i64 (.v 8), .map (.v 9), .int .i64 (.v 11)] 77), (.a 4, .prop 7), (.b (.v 9), .prop 10)])
(.br (.o2 .le (.v 1) (.v 12))
(.ret (.w (.a (.bool (.c false)))) [(.b (.v 0), .cells [.int .i64 (.v 1), .int .i64 (.v 2), .int .i64 (.v 3), .sl (.v 4) (.v 5) (.v 6), .int .i64 (.v 8), .map (.v 9), .int .i64 (.v 11)] 77), (.a 4, .prop 7), (.b (.v 9), .prop 10)])
(.read (.lookup 75 (.tmp 33) (.tmp 34) true) 93 [(33, .w (.a (.map (.v 9)))), (34, .w (.a (.int .i64 (.v 12))))] [(.b (.v 9), .prop 10)] [.i, .c, .i, .i, .a, .n, .n, .c] (.tup [.agg [.int .i64 (.v 13), .bool (.v 14), .int .i64 (.v 15), .int .i64 (.v 16), .sl (.v 17) (.v 18) (.v 19)], .a (.bool (.v 20))])
(.new
(.ret (.w (.a (.bool (.o1 .not (.v 20))))) [(.b (.v 0), .cells [.int .i64 (.v 1), .int .i64 (.v 2), .int .i64 (.v 3), .sl (.v 4) (.v 5) (.v 6), .int .i64 (.v 8), .map (.v 9), .int .i64 (.v 11)] 77), (.a 4, .prop 7), (.b (.v 9), .prop 10)]))))))
(.br (.o2 .lt (.v 12) (.i 0))
(.ret (.w (.a (.bool (.c false)))) [(.b (.v 0), .cells [.int .i64 (.v 1), .int .i64 (.v 2), .int .i64 (.v 3), .sl (.v 4) (.v 5) (.v 6), .int .i64 (.v 8), .map (.v 9), .int .i64 (.v 11)] 77), (.a 4, .prop 7), (.b (.v 9), .prop 10)])
(.br (.o2 .le (.v 1) (.v 12))
(.ret (.w (.a (.bool (.c false)))) [(.b (.v 0), .cells [.int .i64 (.v 1), .int .i64 (.v 2), .int .i64 (.v 3), .sl (.v 4) (.v 5) (.v 6), .int .i64 (.v 8), .map (.v 9), .int .i64 (.v 11)] 77), (.a 4, .prop 7), (.b (.v 9), .prop 10)])
(.read (.lookup 75 (.tmp 33) (.tmp 34) true) 93 [(33, .w (.a (.map (.v 9)))), (34, .w (.a (.int .i64 (.v 12))))] [(.b (.v 9), .prop 10)] [.i, .c, .i, .i, .a, .n, .n, .c] (.tup [.agg [.int .i64 (.v 13), .bool (.v 14), .int .i64 (.v 15), .int .i64 (.v 16), .sl (.v 17) (.v 18) (.v 19)], .a (.bool (.v 20))])
(.new
(.ret (.w (.a (.bool (.o1 .not (.v 20))))) [(.b (.v 0), .cells [.int .i64 (.v 1), .int .i64 (.v 2), .int .i64 (.v 3), .sl (.v 4) (.v 5) (.v 6), .int .i64 (.v 8), .map (.v 9), .int .i64 (.v 11)] 77), (.a 4, .prop 7), (.b (.v 9), .prop 10)]))))))
theorem tree_bAsked : tree Tryd.prog { keep := [32, 35, 37, 67, 38, 40, 68, 78, 79, 84] } Tryd.f38 [.a (.ptr (.v 0) 0), .a (.int .i64 (.v 12))] [(.b (.v 0), .cells [.int .i64 (.v 1), .int .i64 (.v 2), .int .i64 (.v 3), .sl (.v 4) (.v 5) (.v 6), .int .i64 (.v 8), .map (.v 9), .int .i64 (.v 11)] 77), (.a 4, .prop 7), (.b (.v 9), .prop 10)] 13 = t_bAsked := by kernel_rfl
def t_bTake : T :=
(.new
(.read (.call ⟨.builtin .len, #[.tmp 11], #[75]⟩) 3 [(11, .w (.a (.map (.v 9))))] [(.b (.v 9), .prop 10)] [.i] (.w (.a (.int .i64 (.v 22))))
(.op (.mapUpdate 75 (.tmp 17) (.tmp 18) (.tmp 19)) 0 [(17, .w (.a (.map (.v 9)))), (18, .w (.a (.int .i64 (.v 12)))), (19, .w (.agg [.int .i64 (.v 22), .bool (.v 14), .int .i64 (.v 15), .int .i64 (.v 16), .sl (.v 17) (.v 18) (.v 19)]))] [(.b (.v 9), .prop 10), (.a 17, .prop 20)] [.p] (.tup []) [(.b (.v 9), .prop 23), (.a 17, .prop 20)]
(.br (.v 14)
(.need (.o1 (.inr .i64) (.o2 .add (.v 11) (.i 1)))
(.call 67 [.a (.ptr (.v 0) 0), .a (.int .i64 (.o2 .add (.v 11) (.i 1)))] [(.b (.v 0), .cells [.int .i64 (.v 1), .int .i64 (.v 2), .int .i64 (.v 3), .sl (.v 4) (.v 5) (.v 6), .int .i64 (.v 8), .map (.v 9), .int .i64 (.o2 .add (.v 11) (.i 1))] 77), (.a 4, .prop 7), (.b (.v 9), .prop 23)] [.c] (.w (.a (.bool (.v 24)))) [(.b (.v 0), .cells [.int .i64 (.v 1), .int .i64 (.v 2), .int .i64 (.v 3), .sl (.v 4) (.v 5) (.v 6), .int .i64 (.v 8), .map (.v 9), .int .i64 (.o2 .add (.v 11) (.i 1))] 77), (.a 4, .prop 7), (.b (.v 9), .prop 23)]
(.ret (.w (.a (.bool (.v 24)))) [(.b (.v 0), .cells [.int .i64 (.v 1), .int .i64 (.v 2), .int .i64 (.v 3), .sl (.v 4) (.v 5) (.v 6), .int .i64 (.v 8), .map (.v 9), .int .i64 (.o2 .add (.v 11) (.i 1))] 77), (.a 4, .prop 7), (.b (.v 9), .prop 23), (.a 17, .prop 20)])))
(.read (.call ⟨.builtin .len, #[.tmp 38], #[75]⟩) 3 [(38, .w (.a (.map (.v 9))))] [(.b (.v 9), .prop 23)] [.i] (.w (.a (.int .i64 (.v 24))))
(.need (.o1 (.inr .i64) (.o2 .sub (.v 24) (.v 11)))
(.need (.o1 (.inr .i64) (.o2 .sub (.v 1) (.o2 .sub (.v 24) (.v 11))))
(.call 67 [.a (.ptr (.v 0) 0), .a (.int .i64 (.o2 .sub (.v 1) (.o2 .sub (.v 24) (.v 11))))] [(.b (.v 0), .cells [.int .i64 (.v 1), .int .i64 (.v 2), .int .i64 (.v 3), .sl (.v 4) (.v 5) (.v 6), .int .i64 (.v 8), .map (.v 9), .int .i64 (.v 11)] 77), (.a 4, .prop 7), (.b (.v 9), .prop 23)] [.c] (.w (.a (.bool (.v 25)))) [(.b (.v 0), .cells [.int .i64 (.v 1), .int .i64 (.v 2), .int .i64 (.v 3), .sl (.v 4) (.v 5) (.v 6), .int .i64 (.v 8), .map (.v 9), .int .i64 (.v 11)] 77), (.a 4, .prop 7), (.b (.v 9), .prop 23)]
(.br (.o1 .not (.v 25))
(.ret (.w (.a (.bool (.c false)))) [(.b (.v 0), .cells [.int .i64 (.v 1), .int .i64 (.v 2), .int .i64 (.v 3), .sl (.v 4) (.v 5) (.v 6), .int .i64 (.i 4), .map (.v 9), .int .i64 (.v 11)] 77), (.a 4, .prop 7), (.b (.v 9), .prop 23), (.a 17, .prop 20)])
(.ret (.w (.a (.bool (.c false)))) [(.b (.v 0), .cells [.int .i64 (.v 1), .int .i64 (.v 2), .int .i64 (.v 3), .sl (.v 4) (.v 5) (.v 6), .int .i64 (.v 8), .map (.v 9), .int .i64 (.v 11)] 77), (.a 4, .prop 7), (.b (.v 9), .prop 23), (.a 17, .prop 20)]))))))))))
theorem tree_bTake : tree Tryd.prog { keep := [32, 35, 37, 67, 38, 40, 68, 78, 79, 84] } Tryd.f43 [.a (.ptr (.v 0) 0), .a (.int .i64 (.v 12)), .agg [.int .i64 (.v 13), .bool (.v 14), .int .i64 (.v 15), .int .i64 (.v 16), .sl (.v 17) (.v 18) (.v 19)]] [(.b (.v 0), .cells [.int .i64 (.v 1), .int .i64 (.v 2), .int .i64 (.v 3), .sl (.v 4) (.v 5) (.v 6), .int .i64 (.v 8), .map (.v 9), .int .i64 (.v 11)] 77), (.a 4, .prop 7), (.b (.v 9), .prop 10), (.a 17, .prop 20)] 21 = t_bTake := by kernel_rfl
def t_bAccepted : T :=
(.br (.o1 .not (.o2 .eq (.v 8) (.i 2)))
(.ret (.tup []) [(.b (.v 0), .cells [.int .i64 (.v 1), .int .i64 (.v 2), .int .i64 (.v 3), .sl (.v 4) (.v 5) (.v 6), .int .i64 (.v 8), .map (.v 9), .int .i64 (.v 11)] 77), (.a 4, .prop 7), (.b (.v 9), .prop 10)])
(.call 38 [.a (.ptr (.v 0) 0), .a (.int .i64 (.v 12))] [(.b (.v 0), .cells [.int .i64 (.v 1), .int .i64 (.v 2), .int .i64 (.v 3), .sl (.v 4) (.v 5) (.v 6), .int .i64 (.v 8), .map (.v 9), .int .i64 (.v 11)] 77), (.a 4, .prop 7), (.b (.v 9), .prop 10)] [.c] (.w (.a (.bool (.v 14)))) [(.b (.v 0), .cells [.int .i64 (.v 1), .int .i64 (.v 2), .int .i64 (.v 3), .sl (.v 4) (.v 5) (.v 6), .int .i64 (.v 8), .map (.v 9), .int .i64 (.v 11)] 77), (.a 4, .prop 7), (.b (.v 9), .prop 10)]
(.br (.o1 .not (.v 14))
(.ret (.tup []) [(.b (.v 0), .cells [.int .i64 (.v 1), .int .i64 (.v 2), .int .i64 (.v 3), .sl (.v 4) (.v 5) (.v 6), .int .i64 (.v 8), .map (.v 9), .int .i64 (.v 11)] 77), (.a 4, .prop 7), (.b (.v 9), .prop 10)])
(.call 43 [.a (.ptr (.v 0) 0), .a (.int .i64 (.v 12)), .agg [.int .i64 (.i 0), .bool (.o2 .eq (.v 13) (.i 0)), .int .i64 (.i 0), .int .i64 (.i 0), .sl .nil (.n 0) (.n 0)]] [(.b (.v 0), .cells [.int .i64 (.v 1), .int .i64 (.v 2), .int .i64 (.v 3), .sl (.v 4) (.v 5) (.v 6), .int .i64 (.v 8), .map (.v 9), .int .i64 (.v 11)] 77), (.a 4, .prop 7), (.b (.v 9), .prop 10)] [.c, .i, .i, .i, .a, .n, .n, .p, .i, .n, .p, .i] (.w (.a (.bool (.v 15)))) [(.b (.v 0), .cells [.int .i64 (.v 16), .int .i64 (.v 17), .int .i64 (.v 18), .sl (.v 19) (.v 20) (.v 21), .int .i64 (.v 23), .map (.v 24), .int .i64 (.v 26)] 77), (.a 19, .prop 22), (.b (.v 24), .prop 25)]
(.br (.v 15)
(.ret (.tup []) [(.b (.v 0), .cells [.int .i64 (.v 16), .int .i64 (.v 17), .int .i64 (.v 18), .sl (.v 19) (.v 20) (.v 21), .int .i64 (.i 3), .map (.v 24), .int .i64 (.v 26)] 77), (.a 19, .prop 22), (.b (.v 24), .prop 25)])
(.ret (.tup []) [(.b (.v 0), .cells [.int .i64 (.v 16), .int .i64 (.v 17), .int .i64 (.v 18), .sl (.v 19) (.v 20) (.v 21), .int .i64 (.v 23), .map (.v 24), .int .i64 (.v 26)] 77), (.a 19, .prop 22), (.b (.v 24), .prop 25)]))))))
theorem tree_bAccepted : tree Tryd.prog { keep := [32, 35, 37, 67, 38, 40, 68, 78, 79, 84] } Tryd.f31 [.a (.ptr (.v 0) 0), .a (.int .i64 (.v 12)), .a (.int .i64 (.v 13))] [(.b (.v 0), .cells [.int .i64 (.v 1), .int .i64 (.v 2), .int .i64 (.v 3), .sl (.v 4) (.v 5) (.v 6), .int .i64 (.v 8), .map (.v 9), .int .i64 (.v 11)] 77), (.a 4, .prop 7), (.b (.v 9), .prop 10)] 14 = t_bAccepted := by kernel_rfl
def t_bPromised : T :=
(.new
(.br (.o1 .not (.o2 .eq (.v 8) (.i 1)))
(.ret (.tup []) [(.b (.v 0), .cells [.int .i64 (.v 1), .int .i64 (.v 2), .int .i64 (.v 3), .sl (.v 4) (.v 5) (.v 6), .int .i64 (.v 8), .map (.v 9), .int .i64 (.v 11)] 77), (.a 4, .prop 7), (.b (.v 9), .prop 10), (.a 15, .prop 18)])
(.call 38 [.a (.ptr (.v 0) 0), .a (.int .i64 (.v 12))] [(.b (.v 0), .cells [.int .i64 (.v 1), .int .i64 (.v 2), .int .i64 (.v 3), .sl (.v 4) (.v 5) (.v 6), .int .i64 (.v 8), .map (.v 9), .int .i64 (.v 11)] 77), (.a 4, .prop 7), (.b (.v 9), .prop 10)] [.c] (.w (.a (.bool (.v 21)))) [(.b (.v 0), .cells [.int .i64 (.v 1), .int .i64 (.v 2), .int .i64 (.v 3), .sl (.v 4) (.v 5) (.v 6), .int .i64 (.v 8), .map (.v 9), .int .i64 (.v 11)] 77), (.a 4, .prop 7), (.b (.v 9), .prop 10)]
(.br (.o1 .not (.v 21))
(.ret (.tup []) [(.b (.v 0), .cells [.int .i64 (.v 1), .int .i64 (.v 2), .int .i64 (.v 3), .sl (.v 4) (.v 5) (.v 6), .int .i64 (.v 8), .map (.v 9), .int .i64 (.v 11)] 77), (.a 4, .prop 7), (.b (.v 9), .prop 10), (.a 15, .prop 18)])
(.new
(.br (.o2 .eq (.v 19) (.i 0))
(.call 40 [.a (.sl (.v 15) (.v 16) (.v 17))] [(.a 15, .prop 18)] [.a, .n, .n, .p] (.w (.a (.sl (.v 23) (.v 24) (.v 25)))) [(.a 23, .prop 26), (.a 15, .prop 18)]
(.call 43 [.a (.ptr (.v 0) 0), .a (.int .i64 (.v 12)), .agg [.int .i64 (.i 0), .bool (.o2 .eq (.v 19) (.i 0)), .int .i64 (.v 13), .int .i64 (.v 14), .sl (.v 23) (.v 24) (.v 25)]] [(.b (.v 0), .cells [.int .i64 (.v 1), .int .i64 (.v 2), .int .i64 (.v 3), .sl (.v 4) (.v 5) (.v 6), .int .i64 (.v 8), .map (.v 9), .int .i64 (.v 11)] 77), (.a 4, .prop 7), (.b (.v 9), .prop 10), (.a 23, .prop 26)] [.c, .i, .i, .i, .a, .n, .n, .p, .i, .n, .p, .i, .p] (.w (.a (.bool (.v 27)))) [(.b (.v 0), .cells [.int .i64 (.v 28), .int .i64 (.v 29), .int .i64 (.v 30), .sl (.v 31) (.v 32) (.v 33), .int .i64 (.v 35), .map (.v 36), .int .i64 (.v 38)] 77), (.a 31, .prop 34), (.b (.v 36), .prop 37), (.a 23, .prop 39)]
(.br (.v 27)
(.call 44 [.a (.ptr (.v 0) 0)] [(.b (.v 0), .cells [.int .i64 (.v 28), .int .i64 (.v 29), .int .i64 (.v 30), .sl (.v 31) (.v 32) (.v 33), .int .i64 (.v 35), .map (.v 36), .int .i64 (.v 38)] 77), (.a 31, .prop 34), (.b (.v 36), .prop 37)] [.i, .i, .i, .a, .n, .n, .p, .i, .n, .p, .i] (.tup []) [(.b (.v 0), .cells [.int .i64 (.v 40), .int .i64 (.v 41), .int .i64 (.v 42), .sl (.v 43) (.v 44) (.v 45), .int .i64 (.v 47), .map (.v 48), .int .i64 (.v 50)] 77), (.a 43, .prop 46), (.b (.v 48), .prop 49)]
(.new
(.ret (.tup []) [(.b (.v 0), .cells [.int .i64 (.v 40), .int .i64 (.v 41), .int .i64 (.v 42), .sl (.v 43) (.v 44) (.v 45), .int .i64 (.i 2), .map (.v 51), .int .i64 (.i 0)] 77), (.a 43, .prop 46), (.b (.v 51), .emap), (.a 15, .prop 18)])))
(.ret (.tup []) [(.b (.v 0), .cells [.int .i64 (.v 28), .int .i64 (.v 29), .int .i64 (.v 30), .sl (.v 31) (.v 32) (.v 33), .int .i64 (.v 35), .map (.v 36), .int .i64 (.v 38)] 77), (.a 31, .prop 34), (.b (.v 36), .prop 37), (.a 15, .prop 18)]))))
(.call 43 [.a (.ptr (.v 0) 0), .a (.int .i64 (.v 12)), .agg [.int .i64 (.i 0), .bool (.o2 .eq (.v 19) (.i 0)), .int .i64 (.i 0), .int .i64 (.i 0), .sl .nil (.n 0) (.n 0)]] [(.b (.v 0), .cells [.int .i64 (.v 1), .int .i64 (.v 2), .int .i64 (.v 3), .sl (.v 4) (.v 5) (.v 6), .int .i64 (.v 8), .map (.v 9), .int .i64 (.v 11)] 77), (.a 4, .prop 7), (.b (.v 9), .prop 10)] [.c, .i, .i, .i, .a, .n, .n, .p, .i, .n, .p, .i] (.w (.a (.bool (.v 23)))) [(.b (.v 0), .cells [.int .i64 (.v 24), .int .i64 (.v 25), .int .i64 (.v 26), .sl (.v 27) (.v 28) (.v 29), .int .i64 (.v 31), .map (.v 32), .int .i64 (.v 34)] 77), (.a 27, .prop 30), (.b (.v 32), .prop 33)]
(.br (.v 23)
(.call 44 [.a (.ptr (.v 0) 0)] [(.b (.v 0), .cells [.int .i64 (.v 24), .int .i64 (.v 25), .int .i64 (.v 26), .sl (.v 27) (.v 28) (.v 29), .int .i64 (.v 31), .map (.v 32), .int .i64 (.v 34)] 77), (.a 27, .prop 30), (.b (.v 32), .prop 33)] [.i, .i, .i, .a, .n, .n, .p, .i, .n, .p, .i] (.tup []) [(.b (.v 0), .cells [.int .i64 (.v 35), .int .i64 (.v 36), .int .i64 (.v 37), .sl (.v 38) (.v 39) (.v 40), .int .i64 (.v 42), .map (.v 43), .int .i64 (.v 45)] 77), (.a 38, .prop 41), (.b (.v 43), .prop 44)]
(.new
(.ret (.tup []) [(.b (.v 0), .cells [.int .i64 (.v 35), .int .i64 (.v 36), .int .i64 (.v 37), .sl (.v 38) (.v 39) (.v 40), .int .i64 (.i 2), .map (.v 46), .int .i64 (.i 0)] 77), (.a 38, .prop 41), (.b (.v 46), .emap), (.a 15, .prop 18)])))
(.ret (.tup []) [(.b (.v 0), .cells [.int .i64 (.v 24), .int .i64 (.v 25), .int .i64 (.v 26), .sl (.v 27) (.v 28) (.v 29), .int .i64 (.v 31), .map (.v 32), .int .i64 (.v 34)] 77), (.a 27, .prop 30), (.b (.v 32), .prop 33), (.a 15, .prop 18)])))))))))
theorem tree_bPromised : tree Tryd.prog { keep := [32, 35, 37, 67, 38, 40, 68, 78, 79, 84] } Tryd.f30 [.a (.ptr (.v 0) 0), .a (.int .i64 (.v 12)), .agg [.int .i64 (.v 13), .int .i64 (.v 14)], .a (.sl (.v 15) (.v 16) (.v 17)), .a (.int .i64 (.v 19))] [(.b (.v 0), .cells [.int .i64 (.v 1), .int .i64 (.v 2), .int .i64 (.v 3), .sl (.v 4) (.v 5) (.v 6), .int .i64 (.v 8), .map (.v 9), .int .i64 (.v 11)] 77), (.a 4, .prop 7), (.b (.v 9), .prop 10), (.a 15, .prop 18)] 20 = t_bPromised := by kernel_rfl
def t_bChoose : T :=
(.new
(.op (.range 75 (.tmp 8)) 0 [(8, .w (.a (.map (.v 9))))] [(.b (.v 9), .prop 10)] [.n, .p, .p] (.w (.a (.ptr (.v 13) 0))) [(.b (.v 13), .prop 14), (.b (.v 9), .prop 15)]
(.loop [.p, .p, .i, .c, .i, .i, .a, .n, .n, .p] [.p [(.b (.v 13), .prop 14)], .p [(.b (.v 9), .prop 15)], .e (.o1 .neg (.o1 .neg (.i 0))), .e (.o1 .not (.o1 .not (.c false))), .e (.o1 .neg (.o1 .neg (.i 0))), .e (.o1 .neg (.o1 .neg (.i 0))), .a .nil, .e (.o2 .nadd (.n 0) (.n 0)), .e (.o2 .nadd (.n 0) (.n 0)), .p []]
(.op (.next (.tmp 9) false) 0 [(9, .w (.a (.ptr (.v 13) 0)))] [(.b (.v 13), .prop 16), (.b (.v 9), .prop 17)] [.c, .v, .v, .p] (.nx 26 27 28) [(.b (.v 13), .prop 29), (.b (.v 9), .prop 17)]
(.br (.v 26)
(.op (.entry (.tmp 9)) 0 [(9, .w (.a (.ptr (.v 13) 0)))] [(.b (.v 13), .prop 29), (.b (.v 9), .prop 17)] [.i, .i, .c, .i, .i, .a, .n, .n, .p, .p, .p] (.tup [.a (.int .i64 (.v 30)), .agg [.int .i64 (.v 31), .bool (.v 32), .int .i64 (.v 33), .int .i64 (.v 34), .sl (.v 35) (.v 36) (.v 37)]]) [(.a 35, .prop 38), (.b (.v 13), .prop 39), (.b (.v 9), .prop 40)]
(.new
(.br (.o1 .not (.v 32))
(.again 0 [.p [(.b (.v 13), .prop 39)], .p [(.b (.v 9), .prop 40)], .e (.o1 .neg (.o1 .neg (.v 18))), .e (.o1 .not (.o1 .not (.v 19))), .e (.o1 .neg (.o1 .neg (.v 20))), .e (.o1 .neg (.o1 .neg (.v 21))), .a (.v 22), .e (.o2 .nadd (.v 23) (.n 0)), .e (.o2 .nadd (.v 24) (.n 0)), .p [(.a 22, .prop 25)]])
(.read (.binOp .eql 34 (.tmp 19) (.tmp 20) 34) 4 [(19, .w (.agg [.int .i64 (.v 33), .int .i64 (.v 34)])), (20, .w (.agg [.int .i64 (.i 0), .int .i64 (.i 0)]))] [] [.c] (.w (.a (.bool (.v 42))))
(.br (.v 42)
(.again 0 [.p [(.b (.v 13), .prop 39)], .p [(.b (.v 9), .prop 40)], .e (.o1 .neg (.o1 .neg (.v 18))), .e (.o1 .not (.o1 .not (.v 19))), .e (.o1 .neg (.o1 .neg (.v 20))), .e (.o1 .neg (.o1 .neg (.v 21))), .a (.v 22), .e (.o2 .nadd (.v 23) (.n 0)), .e (.o2 .nadd (.v 24) (.n 0)), .p [(.a 22, .prop 25)]])
(.read (.binOp .eql 34 (.tmp 24) (.tmp 25) 34) 4 [(24, .w (.agg [.int .i64 (.v 20), .int .i64 (.v 21)])), (25, .w (.agg [.int .i64 (.i 0), .int .i64 (.i 0)]))] [] [.c] (.w (.a (.bool (.v 43))))
(.br (.v 43)
(.again 0 [.p [(.b (.v 13), .prop 39)], .p [(.b (.v 9), .prop 40)], .e (.o1 .neg (.o1 .neg (.v 31))), .e (.o1 .not (.o1 .not (.v 32))), .e (.o1 .neg (.o1 .neg (.v 33))), .e (.o1 .neg (.o1 .neg (.v 34))), .a (.v 35), .e (.o2 .nadd (.v 36) (.n 0)), .e (.o2 .nadd (.v 37) (.n 0)), .p [(.a 35, .prop 38)]])
(.call 68 [.agg [.int .i64 (.v 31), .bool (.v 32), .int .i64 (.v 33), .int .i64 (.v 34), .sl (.v 35) (.v 36) (.v 37)], .agg [.int .i64 (.v 18), .bool (.v 19), .int .i64 (.v 20), .int .i64 (.v 21), .sl (.v 22) (.v 23) (.v 24)]] [(.a 35, .prop 38), (.b (.v 9), .prop 40), (.a 22, .prop 25)] [.c] (.w (.a (.bool (.v 44)))) [(.a 35, .prop 38), (.b (.v 9), .prop 40), (.a 22, .prop 25)]
(.br (.v 44)
(.again 0 [.p [(.b (.v 13), .prop 39)], .p [(.b (.v 9), .prop 40)], .e (.o1 .neg (.o1 .neg (.v 31))), .e (.o1 .not (.o1 .not (.v 32))), .e (.o1 .neg (.o1 .neg (.v 33))), .e (.o1 .neg (.o1 .neg (.v 34))), .a (.v 35), .e (.o2 .nadd (.v 36) (.n 0)), .e (.o2 .nadd (.v 37) (.n 0)), .p [(.a 35, .prop 38)]])
(.again 0 [.p [(.b (.v 13), .prop 39)], .p [(.b (.v 9), .prop 40)], .e (.o1 .neg (.o1 .neg (.v 18))), .e (.o1 .not (.o1 .not (.v 19))), .e (.o1 .neg (.o1 .neg (.v 20))), .e (.o1 .neg (.o1 .neg (.v 21))), .a (.v 22), .e (.o2 .nadd (.v 23) (.n 0)), .e (.o2 .nadd (.v 24) (.n 0)), .p [(.a 22, .prop 25)]]))))))))))
(.read (.binOp .neq 34 (.tmp 34) (.tmp 35) 34) 4 [(34, .w (.agg [.int .i64 (.v 20), .int .i64 (.v 21)])), (35, .w (.agg [.int .i64 (.i 0), .int .i64 (.i 0)]))] [] [.c] (.w (.a (.bool (.v 30))))
(.br (.v 30)
(.ret (.tup []) [(.b (.v 0), .cells [.int .i64 (.v 1), .int .i64 (.v 2), .int .i64 (.v 3), .sl (.v 22) (.v 23) (.v 24), .int .i64 (.v 8), .map (.v 9), .int .i64 (.v 11)] 77), (.a 22, .prop 25), (.b (.v 9), .prop 17), (.a 4, .prop 7)])
(.ret (.tup []) [(.b (.v 0), .cells [.int .i64 (.v 1), .int .i64 (.v 2), .int .i64 (.v 3), .sl (.v 4) (.v 5) (.v 6), .int .i64 (.v 8), .map (.v 9), .int .i64 (.v 11)] 77), (.a 4, .prop 7), (.b (.v 9), .prop 17)]))))))))
theorem tree_bChoose : tree Tryd.prog { hv := [(0, [.b (.v 13), .b (.v 9), .b (.v 12)])], keep := [32, 35, 37, 67, 38, 40, 68, 78, 79, 84], ent := [(12, [3, 79])], mkd := [12] } Tryd.f44 [.a (.ptr (.v 0) 0)] [(.b (.v 0), .cells [.int .i64 (.v 1), .int .i64 (.v 2), .int .i64 (.v 3), .sl (.v 4) (.v 5) (.v 6), .int .i64 (.v 8), .map (.v 9), .int .i64 (.v 11)] 77), (.a 4, .prop 7), (.b (.v 9), .prop 10)] 12 = t_bChoose := by kernel_rfl
end Go.Proofs.YtbmajijnjkicmaaDoor.RX



namespace Go.Proofs.YtbmajijnjkicmaaDoor
set_option linter.unusedSimpArgs false
set_option linter.unusedVariables false
open Go.Proofs.YtbmajijnjkicmaaDoor RX
set_option maxRecDepth 100000

theorem bIsNaN_ok (x : Int) : Tri Tryd.prog 84 #[.int .i64 x] HP.tt (fun v => HP.pure (v = .bool false)) := by
  refine tri_of_tree (ρ := [.i x]) mixed Tryd.func84 tree_bIsNaN ?_
  unfold t_bIsNaN
  simp only [T.den, E.prop, E.den, RX.look, F1.app, F2.app, Uni.int_i, Uni.nat_n, Uni.bool_c, Uni.str_s, Uni.adr_a, Uni.val_v, Uni.hp_p, hden, cden, V.den, W.den, A.den, BR.den, SA.den, FV.den, capV, exs, exP, allP, Cur.app, List.map_cons, List.map_nil, List.cons_append, List.nil_append, List.drop_succ_cons, List.drop_zero, List.length_cons, List.length_nil, Nat.zero_add, Nat.reduceAdd, Int.neg_neg, Bool.not_not, List.append_nil, Nat.add_zero, List.getElem?_cons_zero, List.getElem?_cons_succ, Decidable.not_not, semW_eq, ne_eq, Nat.reduceEqDiff, not_false_eq_true]
  exact .of fun R h H => by simp [HP.pure]
def cmpB (x y : Int) : Int := if x < y then -1 else if y < x then 1 else 0
theorem bCompare_ok (x y : Int) : Tri Tryd.prog 78 #[.int .i64 x, .int .i64 y] HP.tt (fun v => HP.pure (v = .int .i64 (cmpB x y))) := by
  refine tri_of_tree (ρ := [.i x, .i y]) mixed Tryd.func78 tree_bCompare ?_
  unfold t_bCompare
  simp only [T.den, E.prop, E.den, RX.look, F1.app, F2.app, Uni.int_i, Uni.nat_n, Uni.bool_c, Uni.str_s, Uni.adr_a, Uni.val_v, Uni.hp_p, hden, cden, V.den, W.den, A.den, BR.den, SA.den, FV.den, capV, exs, exP, allP, Cur.app, List.map_cons, List.map_nil, List.cons_append, List.nil_append, List.drop_succ_cons, List.drop_zero, List.length_cons, List.length_nil, Nat.zero_add, Nat.reduceAdd, Int.neg_neg, Bool.not_not, List.append_nil, Nat.add_zero, List.getElem?_cons_zero, List.getElem?_cons_succ, Decidable.not_not, semW_eq, ne_eq, Nat.reduceEqDiff, not_false_eq_true]
  refine (bIsNaN_ok x).weak (fun _ _ _ => trivial) ?_
  rintro v R h rfl
  refine ⟨_, rfl, ?_, trivial⟩
  refine (bIsNaN_ok y).weak (fun _ _ _ => trivial) ?_
  rintro v R h rfl
  refine ⟨_, rfl, ⟨fun e => absurd e (by decide), fun _ => ⟨fun e => absurd e (by decide), fun _ => ⟨fun h1 => .of fun R h H => ?_, fun h1 => ⟨fun h2 => .of fun R h H => ?_, fun h2 => .of fun R h H => ?_⟩⟩⟩⟩, trivial⟩
  · show _ = _; rw [cmpB, if_pos h1]
  · show _ = _; rw [cmpB, if_neg h1, if_pos h2]
  · show _ = _; rw [cmpB, if_neg h1, if_neg h2]
theorem bOr_ok (b : Nat) (x y : Int) : Tri Tryd.prog 79 #[.slice (some ⟨b, 0, none⟩) 2 2] (HP.one b (.cells #[.int .i64 x, .int .i64 y] 3 (0, 0)))
    (fun v => HP.and (v = .int .i64 (if x = 0 then y else x)) (HP.one b (.cells #[.int .i64 x, .int .i64 y] 3 (0, 0)))) := by
  refine tri_of_tree (ρ := [.a (some ⟨b, 0, none⟩), .n 2, .n 2, .p (HP.one b (.cells #[.int .i64 x, .int .i64 y] 3 (0, 0)))]) mixed Tryd.func79 tree_bOr ?_
  unfold t_bOr
  simp only [T.den, E.prop, E.den, RX.look, F1.app, F2.app, Uni.int_i, Uni.nat_n, Uni.bool_c, Uni.str_s, Uni.adr_a, Uni.val_v, Uni.hp_p, hden, cden, V.den, W.den, A.den, BR.den, SA.den, FV.den, capV, exs, exP, allP, Cur.app, List.map_cons, List.map_nil, List.cons_append, List.nil_append, List.drop_succ_cons, List.drop_zero, List.length_cons, List.length_nil, Nat.zero_add, Nat.reduceAdd, Int.neg_neg, Bool.not_not, List.append_nil, Nat.add_zero, List.getElem?_cons_zero, List.getElem?_cons_succ, Decidable.not_not, semW_eq, semW_load, ne_eq, Nat.reduceEqDiff, not_false_eq_true]
  have ld : ∀ (k : Nat) (u : Int), [Value.int .i64 x, .int .i64 y][k]? = some (.int .i64 u) → ORead Tryd.prog (loadS 3 (.pointer ((some ⟨b, 0, none⟩ : Option Addr).map fun q => (q.add (k * 1)).add 0))) (HP.one b (.cells #[.int .i64 x, .int .i64 y] 3 (0, 0))) (.int .i64 u) := fun k u hk => by
    obtain ⟨d, hd⟩ : ∃ d, Tryd.prog.underlying 3 = some d := Option.isSome_iff_exists.1 (by kernel_rfl)
    exact load1_ok hd (by kernel_rfl) (by kernel_rfl) (one_rd b #[.int .i64 x, .int .i64 y] 3) (k := k * 1) (off := 0) (by rw [Nat.mul_one, Nat.add_zero]; exact hk)
  refine ⟨fun _ i => i = 0 ∨ (i = 1 ∧ x = 0) ∨ (i = 2 ∧ x = 0 ∧ y = 0), fun _ i => 2 - i.toNat, .inl rfl, ?_⟩
  rintro _ _ (rfl | ⟨rfl, hx⟩ | ⟨rfl, hx, hy⟩)
  · refine ⟨fun _ => ⟨by omega, fun _ => ⟨rfl, fun _ => ⟨_, ld 0 x rfl, fun h0 => .of fun R h H => ⟨by rw [if_neg h0], H⟩, fun h0 => ⟨inI64 _ (by omega) (by omega), fun _ => ⟨.inr (.inl ⟨rfl, by simpa using h0⟩), by show 2 - ((0 : Int) + 1).toNat < 2 - (0 : Int).toNat; decide⟩⟩⟩⟩⟩, fun h => absurd (by decide) h⟩
  · refine ⟨fun _ => ⟨by omega, fun _ => ⟨rfl, fun _ => ⟨_, ld 1 y rfl, fun h0 => .of fun R h H => ⟨by rw [if_pos hx], H⟩, fun h0 => ⟨inI64 _ (by omega) (by omega), fun _ => ⟨.inr (.inr ⟨rfl, hx, by simpa using h0⟩), by show 2 - ((1 : Int) + 1).toNat < 2 - (1 : Int).toNat; decide⟩⟩⟩⟩⟩, fun h => absurd (by decide) h⟩
  · exact ⟨fun h => absurd h (by decide), fun _ => .of fun R h H => ⟨by rw [if_pos hx, hy], H⟩⟩
structure AnB where
  turn : Int
  ok : Bool
  r : Int
  w : Int
  val : List UInt8
def aheadW (a b : AnB) : Bool := if a.r = b.r ∧ a.w = b.w then decide (a.turn < b.turn) else decide (b.r < a.r ∨ (a.r = b.r ∧ b.w < a.w))
abbrev AnB.vals (x : AnB) (a : Option Addr) (c : Nat) : Array Value := #[.int .i64 x.turn, .bool x.ok, .int .i64 x.r, .int .i64 x.w, .slice a x.val.length c]
theorem bAhead_ok (P Q : HP) (x y : AnB) (a b : Option Addr) (c d : Nat) : Tri Tryd.prog 68 #[.agg (x.vals a c), .agg (y.vals b d)] (HP.sep P Q) (fun v => HP.and (v = .bool (aheadW x y)) (HP.sep P Q)) := by
  refine tri_of_tree (ρ := [.i x.turn, .c x.ok, .i x.r, .i x.w, .a a, .n x.val.length, .n c, .p P, .i y.turn, .c y.ok, .i y.r, .i y.w, .a b, .n y.val.length, .n d, .p Q]) mixed Tryd.func68 tree_bAhead ?_
  unfold t_bAhead
  simp only [T.den, E.prop, E.den, RX.look, F1.app, F2.app, Uni.int_i, Uni.nat_n, Uni.bool_c, Uni.str_s, Uni.adr_a, Uni.val_v, Uni.hp_p, hden, cden, V.den, W.den, A.den, BR.den, SA.den, FV.den, capV, exs, exP, allP, Cur.app, List.map_cons, List.map_nil, List.cons_append, List.nil_append, List.drop_succ_cons, List.drop_zero, List.length_cons, List.length_nil, Nat.zero_add, Nat.reduceAdd, Int.neg_neg, Bool.not_not, List.append_nil, Nat.add_zero, List.getElem?_cons_zero, List.getElem?_cons_succ, Decidable.not_not, semW_eq, ne_eq, Nat.reduceEqDiff, not_false_eq_true]
  intro _ _
  refine ⟨_, eqBW (by decide), fun h => .of fun R h' H => ⟨?_, H⟩, fun h => ?_⟩
  · unfold aheadW
    rw [if_pos (by simpa using h)]
  · have hne : ¬ (x.r = y.r ∧ x.w = y.w) := by simpa using h
    refine (bCompare_ok x.r y.r).weak (fun _ _ _ => trivial) ?_
    rintro v R h rfl
    refine ⟨_, rfl, ?_, trivial⟩
    refine (bCompare_ok x.w y.w).weak (fun _ _ _ => trivial) ?_
    rintro v R h rfl
    refine ⟨_, rfl, fun b' => ?_, trivial⟩
    refine (bOr_ok b' _ _).weak (fun _ _ h => h) ?_
    rintro v R h ⟨rfl, H⟩
    refine ⟨_, rfl, .of fun R h H => ⟨?_, H⟩, H⟩
    unfold aheadW
    rw [if_neg hne]
    congr 1
    rw [decide_eq_decide]
    unfold cmpB
    by_cases h1 : x.r < y.r
    · rw [if_pos h1, if_neg (by decide)]; omega
    · by_cases h2 : y.r < x.r
      · rw [if_neg h1, if_pos h2, if_neg (by decide)]; omega
      · rw [if_neg h1, if_neg h2, if_pos rfl]
        by_cases h3 : x.w < y.w
        · rw [if_pos h3]; omega
        · by_cases h4 : y.w < x.w
          · rw [if_neg h3, if_pos h4]; omega
          · rw [if_neg h3, if_neg h4]; omega
end Go.Proofs.YtbmajijnjkicmaaDoor



namespace Go.Proofs.YtbmajijnjkicmaaDoor
set_option linter.unusedSimpArgs false
set_option linter.unusedVariables false
open Go.Proofs.YtbmajijnjkicmaaDoor RX
set_option maxRecDepth 100000

structure BA where
  ok : Bool
  r : Int
  w : Int
  val : List UInt8
structure BSt where
  acc : Int
  rnd : Int
  who : Int
  val : List UInt8
  phase : Int
  ans : List (Int × BA)
  agreed : Int
abbrev BA.at_ (x : BA) (i : Int) : AnB := ⟨i, x.ok, x.r, x.w, x.val⟩
def AnV (v : Value) (x : AnB) : HP := HP.ex fun a => HP.ex fun c => HP.and (v = .agg (x.vals a c) ∧ x.val.length ≤ 140737488355328) (RoB a x.val.length x.val)
theorem AnV.pers : Pers AnV := fun _ _ _ _ _ ⟨a, c, e, H⟩ => ⟨a, c, e, HP.sep_left (RoC.join (B := HP.tt) H trivial)⟩
def ansF : List (Int × BA) → Int → Int → Option AnB
  | [], _, _ => none
  | x :: L, i, k => if k = x.1 then some (x.2.at_ i) else ansF L (i + 1) k
theorem ansF_none {k : Int} : ∀ {L : List (Int × BA)} {i : Int}, ansF L i k = none ↔ k ∉ L.map (·.1)
  | [], _ => by simp [ansF]
  | x :: L, i => by
    simp only [ansF, List.map_cons, List.mem_cons, not_or]
    by_cases h : k = x.1
    · simp [h]
    · rw [if_neg h, ansF_none]; simp [h]
theorem ansF_app (x : BA) (f : Int) : ∀ (L : List (Int × BA)) (i : Int), f ∉ L.map (·.1) → ∀ k, ansF (L ++ [(f, x)]) i k = if k = f then some (x.at_ (i + L.length)) else ansF L i k
  | [], i, _, k => by simp [ansF]
  | y :: L, i, h, k => by
    simp only [List.map_cons, List.mem_cons, not_or] at h
    simp only [List.cons_append, ansF]
    rw [ansF_app x f L (i + 1) h.2 k]
    by_cases e : k = y.1
    · rw [if_pos e, if_neg (fun e2 => h.1 (e2.symm.trans e)), if_pos e]
    · rw [if_neg e, if_neg e]
      have : i + 1 + (L.length : Int) = i + ((y :: L).length : Nat) := by simp; omega
      rw [this]
def MapA (mp : Nat) (L : List (Int × BA)) : HP := HP.ex fun l => HP.ex fun c => HP.and (l.map (·.1) = L.map (·.1)) (MapH AnV iE mp (ansF L 0) l c)
theorem infoAn : (Tryd.prog.info? 79).map (fun i => (i.zero, i.size, i.bytes)) = some (some (.agg #[.int .i64 0, .bool false, .int .i64 0, .int .i64 0, .slice none 0 0]), 5, 56) := by kernel_rfl
theorem undMpA : Tryd.prog.underlying 75 = some (.map 3 79) := by kernel_rfl
theorem lenM_ok {i r c : Nat} {ty : TypeId} {l : AL Int} {A : HP} (hA : ∀ R h, A.p R h → h r = some (mapObj iE l c)) :
    ORead Tryd.prog (semW (.call ⟨.builtin .len, #[.tmp i], #[75]⟩) ty [(i, .map (some r))]) A (.int .i64 l.length) := fun w R h F s a => by
  have hg : w.heap[r]? = some (.map (l.map (toE iE)).toArray c) := s.oh _ _ (hA R h a)
  have e : (Builtin.len_ #[75] ty #[.map (some r)]).run Tryd.prog w = .ok (.int .i64 l.length) w := by
    simp only [Builtin.len_, List.getElem?_toArray, List.getElem?_cons_zero, Sem.run_bind, RX.run_underlying undMpA, Result.andThen_ok, run_getObj_map hg, Sem.run_pure, goInt, List.size_toArray, List.length_map]
  have e2 : semW (.call ⟨.builtin .len, #[.tmp i], #[75]⟩) ty [(i, .map (some r))] = (do pure (.value (← Builtin.len_ #[75] ty #[.map (some r)]))) := by simp [semW, execOp, resolve, arW, invoke, builtin]
  rw [e2, Sem.run_bind, e]
  rfl
abbrev POne (b : Nat) (g : BSt) (va : Option Addr) (vc mp : Nat) : HP := HP.one b (.cells #[.int .i64 g.acc, .int .i64 g.rnd, .int .i64 g.who, .slice va g.val.length vc, .int .i64 g.phase, .map (some mp), .int .i64 g.agreed] 77 (0, 0))
def BOk (g : BSt) : Prop := 1 ≤ g.acc ∧ g.acc ≤ 10000 ∧ 0 ≤ g.agreed ∧ g.agreed ≤ g.ans.length ∧ g.val.length ≤ 140737488355328
def BRep (b : Nat) (g : BSt) : HP := HP.ex fun va => HP.ex fun vc => HP.ex fun mp => HP.and (BOk g) (HP.sep (POne b g va vc mp) (HP.sep (RoB va g.val.length g.val) (MapA mp g.ans)))
section
variable (b : Nat) (g : BSt) (va : Option Addr) (vc mp : Nat) (P Q : HP)
theorem bPhase_ok : Tri Tryd.prog 32 #[.pointer (some ⟨b, 0, none⟩)] (HP.sep (POne b g va vc mp) (HP.sep P Q)) (fun v => HP.and (v = .int .i64 g.phase) (HP.sep (POne b g va vc mp) (HP.sep P Q))) := by
  refine tri_of_tree (ρ := [.n b, .i g.acc, .i g.rnd, .i g.who, .a va, .n g.val.length, .n vc, .p P, .i g.phase, .n mp, .p Q, .i g.agreed]) mixed Tryd.func32 tree_bPhase ?_
  unfold t_bPhase
  simp only [T.den, E.prop, E.den, RX.look, F1.app, F2.app, Uni.int_i, Uni.nat_n, Uni.bool_c, Uni.str_s, Uni.adr_a, Uni.val_v, Uni.hp_p, hden, cden, V.den, W.den, A.den, BR.den, SA.den, FV.den, capV, exs, exP, allP, Cur.app, List.map_cons, List.map_nil, List.cons_append, List.nil_append, List.drop_succ_cons, List.drop_zero, List.length_cons, List.length_nil, Nat.zero_add, Nat.reduceAdd, Int.neg_neg, Bool.not_not, List.append_nil, Nat.add_zero, List.getElem?_cons_zero, List.getElem?_cons_succ, Decidable.not_not, semW_eq, ne_eq, Nat.reduceEqDiff, not_false_eq_true]
  exact .of fun R h H => ⟨trivial, H⟩
theorem bBallot_ok : Tri Tryd.prog 35 #[.pointer (some ⟨b, 0, none⟩)] (HP.sep (POne b g va vc mp) (HP.sep P Q)) (fun v => HP.and (v = .agg #[.int .i64 g.rnd, .int .i64 g.who]) (HP.sep (POne b g va vc mp) (HP.sep P Q))) := by
  refine tri_of_tree (ρ := [.n b, .i g.acc, .i g.rnd, .i g.who, .a va, .n g.val.length, .n vc, .p P, .i g.phase, .n mp, .p Q, .i g.agreed]) mixed Tryd.func35 tree_bBallot ?_
  unfold t_bBallot
  simp only [T.den, E.prop, E.den, RX.look, F1.app, F2.app, Uni.int_i, Uni.nat_n, Uni.bool_c, Uni.str_s, Uni.adr_a, Uni.val_v, Uni.hp_p, hden, cden, V.den, W.den, A.den, BR.den, SA.den, FV.den, capV, exs, exP, allP, Cur.app, List.map_cons, List.map_nil, List.cons_append, List.nil_append, List.drop_succ_cons, List.drop_zero, List.length_cons, List.length_nil, Nat.zero_add, Nat.reduceAdd, Int.neg_neg, Bool.not_not, List.append_nil, Nat.add_zero, List.getElem?_cons_zero, List.getElem?_cons_succ, Decidable.not_not, semW_eq, ne_eq, Nat.reduceEqDiff, not_false_eq_true]
  exact fun _ => .of fun R h H => ⟨trivial, H⟩
def mostB (acc n : Int) : Bool := decide (acc.tdiv 2 < n)
theorem bMost_ok (n : Int) (hr : 0 ≤ g.acc ∧ g.acc ≤ 1000000) : Tri Tryd.prog 67 #[.pointer (some ⟨b, 0, none⟩), .int .i64 n] (HP.sep (POne b g va vc mp) (HP.sep P Q)) (fun v => HP.and (v = .bool (mostB g.acc n)) (HP.sep (POne b g va vc mp) (HP.sep P Q))) := by
  refine tri_of_tree (ρ := [.n b, .i g.acc, .i g.rnd, .i g.who, .a va, .n g.val.length, .n vc, .p P, .i g.phase, .n mp, .p Q, .i g.agreed, .i n]) mixed Tryd.func67 tree_bMost ?_
  unfold t_bMost
  simp only [T.den, E.prop, E.den, RX.look, F1.app, F2.app, Uni.int_i, Uni.nat_n, Uni.bool_c, Uni.str_s, Uni.adr_a, Uni.val_v, Uni.hp_p, hden, cden, V.den, W.den, A.den, BR.den, SA.den, FV.den, capV, exs, exP, allP, Cur.app, List.map_cons, List.map_nil, List.cons_append, List.nil_append, List.drop_succ_cons, List.drop_zero, List.length_cons, List.length_nil, Nat.zero_add, Nat.reduceAdd, Int.neg_neg, Bool.not_not, List.append_nil, Nat.add_zero, List.getElem?_cons_zero, List.getElem?_cons_succ, Decidable.not_not, semW_eq, ne_eq, Nat.reduceEqDiff, not_false_eq_true]
  have hq : g.acc.tdiv 2 = g.acc / 2 := Int.tdiv_eq_ediv_of_nonneg hr.1
  refine ⟨inI64 _ (by rw [hq]; omega) (by rw [hq]; omega), fun _ => .of fun R h H => ⟨rfl, H⟩⟩
theorem bValue_ok (hb : g.val.length ≤ 140737488355328) : Tri Tryd.prog 37 #[.pointer (some ⟨b, 0, none⟩)] (HP.sep (POne b g va vc mp) (HP.sep (RoB va g.val.length g.val) Q))
    (fun v => HP.ex fun a => HP.ex fun c => HP.and (v = .slice a g.val.length c) (HP.sep (RoB a g.val.length g.val) (HP.sep (POne b g va vc mp) (HP.sep (RoB va g.val.length g.val) Q)))) := by
  refine tri_of_tree (ρ := [.n b, .i g.acc, .i g.rnd, .i g.who, .a va, .n g.val.length, .n vc, .p (RoB va g.val.length g.val), .i g.phase, .n mp, .p Q, .i g.agreed]) mixed Tryd.func37 tree_bValue ?_
  unfold t_bValue
  simp only [T.den, E.prop, E.den, RX.look, F1.app, F2.app, Uni.int_i, Uni.nat_n, Uni.bool_c, Uni.str_s, Uni.adr_a, Uni.val_v, Uni.hp_p, hden, cden, V.den, W.den, A.den, BR.den, SA.den, FV.den, capV, exs, exP, allP, Cur.app, List.map_cons, List.map_nil, List.cons_append, List.nil_append, List.drop_succ_cons, List.drop_zero, List.length_cons, List.length_nil, Nat.zero_add, Nat.reduceAdd, Int.neg_neg, Bool.not_not, List.append_nil, Nat.add_zero, List.getElem?_cons_zero, List.getElem?_cons_succ, Decidable.not_not, semW_eq, ne_eq, Nat.reduceEqDiff, not_false_eq_true]
  refine (cloneR_ok (RoB va g.val.length g.val) va g.val.length vc g.val (RdL.ro _ _ _ _) rfl hb).weak (fun _ _ h => h) ?_
  rintro v R h ⟨a, c, rfl, H⟩
  refine ⟨a, _, c, RoB a g.val.length g.val, rfl, .of fun R h H => ⟨a, c, rfl, ?_⟩, H⟩
  exact HP.pick [_, _, _, _] [3, 0, 1, 2] (by decide) rfl H
def hasB (L : List (Int × BA)) (f : Int) : Bool := decide (f ∈ L.map (·.1))
def askedB (g : BSt) (f : Int) : Bool := decide ((g.phase = 1 ∨ g.phase = 2) ∧ 0 ≤ f ∧ f < g.acc) && !hasB g.ans f
theorem MapH.shape {mp c : Nat} {L : List (Int × BA)} {l : AL Int} {R h : PH} (H : (MapH AnV iE mp (ansF L 0) l c).p R h) : ∀ k v, alFind k l = some v → ∃ (x : AnB) (a : Option Addr) (d : Nat), v = .agg (x.vals a d) := fun k v hk => by
  have := HP.sep_right H.2 k
  rw [hk] at this
  revert this
  cases ansF L 0 k with
  | none => exact fun h => h.elim
  | some x => exact fun ⟨a, d, e, _⟩ => ⟨x, a, d, e.1⟩
theorem MapH.some_iff {mp c : Nat} {L : List (Int × BA)} {l : AL Int} {R h : PH} (H : (MapH AnV iE mp (ansF L 0) l c).p R h) (k : Int) : (alFind k l).isSome = hasB L k := by
  have := HP.sep_right H.2 k
  unfold hasB
  cases hf : ansF L 0 k with
  | none =>
    rw [hf] at this
    rw [decide_eq_false (ansF_none.1 hf)]
    revert this
    cases alFind k l with
    | none => exact fun _ => rfl
    | some v => exact fun h => h.elim
  | some x =>
    rw [hf] at this
    have hm : k ∈ L.map (·.1) := Classical.byContradiction fun hn => by rw [ansF_none.2 hn] at hf; cases hf
    rw [decide_eq_true hm]
    revert this
    cases alFind k l with
    | none => exact fun h => h.elim
    | some v => exact fun _ => rfl
theorem bAsked_ok (f : Int) (l : AL Int) (cl : Nat) : Tri Tryd.prog 38 #[.pointer (some ⟨b, 0, none⟩), .int .i64 f] (HP.sep (POne b g va vc mp) (HP.sep P (MapH AnV iE mp (ansF g.ans 0) l cl)))
    (fun v => HP.and (v = .bool (askedB g f)) (HP.sep (POne b g va vc mp) (HP.sep P (MapH AnV iE mp (ansF g.ans 0) l cl)))) := by
  refine Tri.fact (φ := (∀ k v, alFind k l = some v → ∃ (x : AnB) (a : Option Addr) (d : Nat), v = .agg (x.vals a d)) ∧ (alFind f l).isSome = hasB g.ans f) (fun R h H => ⟨MapH.shape (HP.sep_right (HP.sep_right H)), MapH.some_iff (HP.sep_right (HP.sep_right H)) f⟩) fun ⟨hsh, hs⟩ => ?_
  refine tri_of_tree (ρ := [.n b, .i g.acc, .i g.rnd, .i g.who, .a va, .n g.val.length, .n vc, .p P, .i g.phase, .n mp, .p (MapH AnV iE mp (ansF g.ans 0) l cl), .i g.agreed, .i f]) mixed Tryd.func38 tree_bAsked ?_
  unfold t_bAsked
  simp only [T.den, E.prop, E.den, RX.look, F1.app, F2.app, Uni.int_i, Uni.nat_n, Uni.bool_c, Uni.str_s, Uni.adr_a, Uni.val_v, Uni.hp_p, hden, cden, V.den, W.den, A.den, BR.den, SA.den, FV.den, capV, exs, exP, allP, Cur.app, List.map_cons, List.map_nil, List.cons_append, List.nil_append, List.drop_succ_cons, List.drop_zero, List.length_cons, List.length_nil, Nat.zero_add, Nat.reduceAdd, Int.neg_neg, Bool.not_not, List.append_nil, Nat.add_zero, List.getElem?_cons_zero, List.getElem?_cons_succ, Decidable.not_not, semW_eq, semW_lookup, semW_lookupC, ne_eq, Nat.reduceEqDiff, not_false_eq_true]
  obtain ⟨i, hi, z1, z2, z3⟩ := info_parts infoAn
  have hlk := look_ok (r := mp) (l := l) (c := cl) iK undMpA hi z1 f true (A := MapH AnV iE mp (ansF g.ans 0) l cl) fun R h H => MapH.at H
  have hlook : ∃ (x : AnB) (a : Option Addr) (d : Nat), ORead Tryd.prog (lookS 75 (.map (some mp)) (.int .i64 f) true) (MapH AnV iE mp (ansF g.ans 0) l cl) (.tuple #[.agg (x.vals a d), .bool (hasB g.ans f)]) := by
    rw [hs] at hlk
    cases hf : alFind f l with
    | none => rw [hf] at hlk; exact ⟨⟨0, false, 0, 0, []⟩, none, 0, hlk⟩
    | some v => obtain ⟨x, a, d, rfl⟩ := hsh f v hf; rw [hf] at hlk; exact ⟨x, a, d, hlk⟩
  obtain ⟨x, a, d, hl⟩ := hlook
  unfold askedB
  have no : ¬ ((g.phase = 1 ∨ g.phase = 2) ∧ 0 ≤ f ∧ f < g.acc) → HP.ent (HP.sep (POne b g va vc mp) (HP.sep P (MapH AnV iE mp (ansF g.ans 0) l cl))) (HP.and (Value.bool false = Value.bool (decide ((g.phase = 1 ∨ g.phase = 2) ∧ 0 ≤ f ∧ f < g.acc) && !hasB g.ans f)) (HP.sep (POne b g va vc mp) (HP.sep P (MapH AnV iE mp (ansF g.ans 0) l cl)))) := fun hn => .of fun R h H => ⟨by rw [decide_eq_false hn]; rfl, H⟩
  have yes : ((g.phase = 1 ∨ g.phase = 2) ∧ 0 ≤ f ∧ f < g.acc) → HP.ent (HP.sep (POne b g va vc mp) (HP.sep P (MapH AnV iE mp (ansF g.ans 0) l cl))) (HP.and (Value.bool (!hasB g.ans f) = Value.bool (decide ((g.phase = 1 ∨ g.phase = 2) ∧ 0 ≤ f ∧ f < g.acc) && !hasB g.ans f)) (HP.sep (POne b g va vc mp) (HP.sep P (MapH AnV iE mp (ansF g.ans 0) l cl)))) := fun hn => .of fun R h H => ⟨by rw [decide_eq_true hn]; simp, H⟩
  have yes' : ((g.phase = 1 ∨ g.phase = 2) ∧ 0 ≤ f ∧ f < g.acc) → HP.ent (HP.sep (POne b g va vc mp) (HP.sep P (MapH AnV iE mp (ansF g.ans 0) l cl))) (HP.and (Value.bool (decide (¬ hasB g.ans f = true)) = Value.bool (decide ((g.phase = 1 ∨ g.phase = 2) ∧ 0 ≤ f ∧ f < g.acc) && !hasB g.ans f)) (HP.sep (POne b g va vc mp) (HP.sep P (MapH AnV iE mp (ansF g.ans 0) l cl)))) := fun hn => .of fun R h H => ⟨by rw [decide_eq_true hn]; simp, H⟩
  refine ⟨fun h1 => ⟨fun h2 => no (by omega), fun h2 => ⟨fun h3 => no (by omega), fun h3 => ⟨fun h4 => no (by omega), fun h4 => ⟨_, _, _, _, _, _, _, _, hl, fun _ => ?_⟩⟩⟩⟩, fun h1 => ⟨fun h3 => no (by omega), fun h3 => ⟨fun h4 => no (by omega), fun h4 => ⟨_, _, _, _, _, _, _, _, hl, fun _ => ?_⟩⟩⟩⟩
  · first | exact yes (by omega) | exact yes' (by omega)
  · first | exact yes (by omega) | exact yes' (by omega)
theorem MapA.put {l : AL Int} {cl : Nat} {L : List (Int × BA)} (hk : l.map (·.1) = L.map (·.1)) {f : Int} (hf : f ∉ L.map (·.1)) (x : BA) (a : Option Addr) (d : Nat) (hx : x.val.length ≤ 140737488355328) :
    OTri Tryd.prog (updS 75 (.map (some mp)) (.int .i64 f) (.agg ((x.at_ L.length).vals a d))) (HP.sep (MapH AnV iE mp (ansF L 0) l cl) (RoB a x.val.length x.val)) (fun z => HP.and (z = .tuple #[]) (HP.sep (MapA mp (L ++ [(f, x)])) (RoB a x.val.length x.val))) := by
  refine OTri.fact (φ := MapI l cl ∧ alFind f l = none) (fun R h H => ⟨(HP.sep_left H).1, MapH.no (HP.sep_left H) (ansF_none.2 hf)⟩) fun ⟨hI, hn⟩ => ?_
  refine ((upd_ok (r := mp) (l := l) (c := cl) iK undMpA f (.agg ((x.at_ L.length).vals a d))).frame (HP.sep (Vals AnV l (ansF L 0)) (RoB a x.val.length x.val))).weak (fun R h ⟨h1, h2, d, l1, l2, ⟨_, H⟩, hA⟩ => HP.sep_assoc ⟨h1, h2, d, l1, l2, H, hA⟩) ?_
  rintro z R h ⟨h1, h2, dd, l1, l2, ⟨rfl, hone⟩, hrest⟩
  have hro := HP.sep_right hrest
  have hv : ∀ q, (AnV (.agg ((x.at_ L.length).vals a d)) (x.at_ L.length)).p R q := fun q => AnV.pers _ _ _ _ _ ⟨a, d, ⟨rfl, hx⟩, hro⟩
  have hF : fput (ansF L 0) f (some (x.at_ L.length)) = ansF (L ++ [(f, x)]) 0 := by
    funext k
    rw [ansF_app x f L 0 hf k, fput, Int.zero_add]
  refine ⟨rfl, HP.sep_mono (HP.sep_assoc' ⟨h1, h2, dd, l1, l2, hone, hrest⟩) (fun y hy => ⟨_, _, ?_, hI.put f _, HP.sep_mono hy (fun _ h => h) fun q hq => ?_⟩) fun _ h => h⟩
  · rw [alPut_none _ _ _ _ hn, List.map_append, List.map_append, hk]; rfl
  · rw [← hF]
    exact Vals.put hq f _ cl _ (hv q)
theorem lenA_ok {i mp : Nat} {ty : TypeId} {L : List (Int × BA)} : ORead Tryd.prog (semW (.call ⟨.builtin .len, #[.tmp i], #[75]⟩) ty [(i, .map (some mp))]) (MapA mp L) (.int .i64 L.length) := fun w R h F s ⟨l, c, hk, H⟩ => by
  have e : l.length = L.length := by simpa using congrArg List.length hk
  rw [← e]
  exact lenM_ok (A := MapH AnV iE mp (ansF L 0) l c) (fun R h H => MapH.at H) w R h F s H
def takeB (g : BSt) (f : Int) (x : BA) : BSt × Bool :=
  if x.ok = true then ({ g with ans := g.ans ++ [(f, x)], agreed := g.agreed + 1 }, mostB g.acc (g.agreed + 1))
  else if mostB g.acc (g.acc - (g.ans.length + 1 - g.agreed)) = true then ({ g with ans := g.ans ++ [(f, x)] }, false)
  else ({ g with ans := g.ans ++ [(f, x)], phase := 4 }, false)
theorem bTake_ok (f : Int) (x : BA) (t0 : Int) (a : Option Addr) (d : Nat) (hx : x.val.length ≤ 140737488355328) (hf : hasB g.ans f = false) (hlen : g.ans.length ≤ 100000) (hB : BOk g) :
    Tri Tryd.prog 43 #[.pointer (some ⟨b, 0, none⟩), .int .i64 f, .agg ((x.at_ t0).vals a d)] (HP.sep (POne b g va vc mp) (HP.sep P (HP.sep (MapA mp g.ans) (RoB a x.val.length x.val))))
      (fun v => HP.and (v = .bool (takeB g f x).2) (HP.sep (POne b (takeB g f x).1 va vc mp) (HP.sep P (HP.sep (MapA mp (takeB g f x).1.ans) (RoB a x.val.length x.val))))) := by
  obtain ⟨b1, b2, b3, b4, b5⟩ := hB
  have hfm : f ∉ g.ans.map (·.1) := by unfold hasB at hf; simpa using hf
  refine (Tri.ex (A := fun l => HP.ex fun cl => HP.and (l.map (·.1) = g.ans.map (·.1)) (HP.sep (POne b g va vc mp) (HP.sep P (HP.sep (MapH AnV iE mp (ansF g.ans 0) l cl) (RoB a x.val.length x.val))))) fun l => Tri.ex fun cl => Tri.pure fun hk => ?_).weak (fun R h H => ?_) fun _ _ _ h => h
  · refine tri_of_tree (ρ := [.n b, .i g.acc, .i g.rnd, .i g.who, .a va, .n g.val.length, .n vc, .p P, .i g.phase, .n mp, .p (MapH AnV iE mp (ansF g.ans 0) l cl), .i g.agreed, .i f, .i t0, .c x.ok, .i x.r, .i x.w, .a a, .n x.val.length, .n d, .p (RoB a x.val.length x.val)]) mixed Tryd.func43 tree_bTake ?_
    unfold t_bTake
    simp only [T.den, E.prop, E.den, RX.look, F1.app, F2.app, Uni.int_i, Uni.nat_n, Uni.bool_c, Uni.str_s, Uni.adr_a, Uni.val_v, Uni.hp_p, hden, cden, V.den, W.den, A.den, BR.den, SA.den, FV.den, capV, exs, exP, allP, Cur.app, List.map_cons, List.map_nil, List.cons_append, List.nil_append, List.drop_succ_cons, List.drop_zero, List.length_cons, List.length_nil, Nat.zero_add, Nat.reduceAdd, Int.neg_neg, Bool.not_not, List.append_nil, Nat.add_zero, List.getElem?_cons_zero, List.getElem?_cons_succ, Decidable.not_not, semW_eq, semW_update, semW_updateC, semW_updateK, ne_eq, Nat.reduceEqDiff, not_false_eq_true]
    intro _
    have hln : l.length = g.ans.length := by simpa using congrArg List.length hk
    refine ⟨g.ans.length, by rw [← hln]; exact lenM_ok fun R h H => MapH.at H, ?_⟩
    refine (MapA.put mp hk hfm x a d hx).weak (fun _ _ h => h) ?_
    rintro v R h ⟨rfl, H⟩
    refine ⟨MapA mp (g.ans ++ [(f, x)]), rfl, ⟨fun h1 => ⟨inI64 _ (by omega) (by omega), fun _ => ?_⟩, fun h1 => ⟨_, lenA_ok, ?_⟩⟩, H⟩
    · refine (bMost_ok b { g with ans := g.ans ++ [(f, x)], agreed := g.agreed + 1 } va vc mp P (MapA mp (g.ans ++ [(f, x)])) (g.agreed + 1) ⟨by show 0 ≤ g.acc; omega, by show g.acc ≤ 1000000; omega⟩).weak (fun _ _ h => h) ?_
      rintro v R h ⟨rfl, H⟩
      refine ⟨_, rfl, .of fun R h H => ?_, H⟩
      have e : takeB g f x = ({ g with ans := g.ans ++ [(f, x)], agreed := g.agreed + 1 }, mostB g.acc (g.agreed + 1)) := if_pos h1
      rw [e]
      exact ⟨rfl, H⟩
    · have el : ((g.ans ++ [(f, x)]).length : Int) = g.ans.length + 1 := by simp
      rw [el]
      refine ⟨inI64 _ (by omega) (by omega), fun _ => ⟨inI64 _ (by omega) (by omega), fun _ => ?_⟩⟩
      refine (bMost_ok b { g with ans := g.ans ++ [(f, x)] } va vc mp P (MapA mp (g.ans ++ [(f, x)])) _ ⟨by show 0 ≤ g.acc; omega, by show g.acc ≤ 1000000; omega⟩).weak (fun _ _ h => h) ?_
      rintro v R h ⟨rfl, H⟩
      refine ⟨_, rfl, ⟨fun h2 => .of fun R h H => ?_, fun h2 => .of fun R h H => ?_⟩, H⟩
      · have e : takeB g f x = ({ g with ans := g.ans ++ [(f, x)], phase := 4 }, false) := by unfold takeB; rw [if_neg h1]; exact if_neg h2
        rw [e]
        exact ⟨rfl, H⟩
      · have e : takeB g f x = ({ g with ans := g.ans ++ [(f, x)] }, false) := by unfold takeB; rw [if_neg h1]; exact if_pos h2
        rw [e]
        exact ⟨rfl, H⟩
  · obtain ⟨h1, h2, e1, l1, l2, HO, h3, h4, e2, l3, l4, HP', h5, h6, e3, l5, l6, ⟨l, cl, hk, HM⟩, HR⟩ := H
    exact ⟨l, cl, hk, h1, h2, e1, l1, l2, HO, h3, h4, e2, l3, l4, HP', h5, h6, e3, l5, l6, HM, HR⟩
end
end Go.Proofs.YtbmajijnjkicmaaDoor



namespace Go.Proofs.YtbmajijnjkicmaaDoor
set_option linter.unusedSimpArgs false
set_option linter.unusedVariables false
open Go.Proofs.YtbmajijnjkicmaaDoor RX
set_option maxRecDepth 100000

def candA (x : AnB) : Prop := x.ok = true ∧ ¬ (x.r = 0 ∧ x.w = 0)
def lessA (x y : AnB) : Prop := x.r < y.r ∨ (x.r = y.r ∧ x.w < y.w)
def BestA (F : Int → Option AnB) (l : AL Int) (S : Array Nat) (x : AnB) : Prop :=
  (x.r = 0 ∧ x.w = 0 ∧ ∀ z ∈ l, z.2.2 ∈ S → ∀ y, F z.1 = some y → ¬ candA y) ∨
  (candA x ∧ (∃ k, F k = some x) ∧ ∀ z ∈ l, z.2.2 ∈ S → ∀ y, F z.1 = some y → candA y → ¬ lessA x y)
def ChoseB (F : Int → Option AnB) (v0 v : List UInt8) : Prop :=
  ((∀ k y, F k = some y → ¬ candA y) ∧ v = v0) ∨ ∃ k x, F k = some x ∧ candA x ∧ v = x.val ∧ ∀ k' y, F k' = some y → candA y → ¬ lessA x y
theorem BestA.skip {F : Int → Option AnB} {l : AL Int} {c : Nat} (hs : Stamps l c) {S : Array Nat} {x y : AnB} {z : Int × Value × Nat} (hz : z ∈ l) (hy : F z.1 = some y) (h : BestA F l S x) (hn : candA y → candA x ∧ ¬ lessA x y) : BestA F l (S.push z.2.2) x := by
  rcases h with ⟨r0, w0, hno⟩ | ⟨hc, hex, hmax⟩
  · refine .inl ⟨r0, w0, fun q hq hqs y' hy' hc' => ?_⟩
    rcases stamp_push hs hz hq hqs with rfl | hqs
    · rw [hy] at hy'; cases hy'
      exact (hn hc').1.2 ⟨r0, w0⟩
    · exact hno q hq hqs y' hy' hc'
  · refine .inr ⟨hc, hex, fun q hq hqs y' hy' hc' => ?_⟩
    rcases stamp_push hs hz hq hqs with rfl | hqs
    · rw [hy] at hy'; cases hy'
      exact (hn hc').2
    · exact hmax q hq hqs y' hy' hc'
theorem BestA.take {F : Int → Option AnB} {l : AL Int} {c : Nat} (hs : Stamps l c) {S : Array Nat} {x y : AnB} {z : Int × Value × Nat} (hz : z ∈ l) (hy : F z.1 = some y) (h : BestA F l S x) (hc : candA y) (hn : (x.r = 0 ∧ x.w = 0) ∨ ¬ lessA y x) : BestA F l (S.push z.2.2) y := by
  refine .inr ⟨hc, ⟨z.1, hy⟩, fun q hq hqs y' hy' hc' => ?_⟩
  rcases stamp_push hs hz hq hqs with rfl | hqs
  · rw [hy] at hy'; cases hy'
    unfold lessA; omega
  · rcases h with ⟨r0, w0, hno⟩ | ⟨hcx, _, hmax⟩
    · exact absurd hc' (hno q hq hqs y' hy')
    · have h1 := hmax q hq hqs y' hy' hc'
      have h2 := hn.resolve_left hcx.2
      unfold lessA at *
      omega
theorem aheadW_yes {y x : AnB} (h : aheadW y x = true) : ¬ lessA y x := by
  unfold aheadW at h
  unfold lessA
  split at h
  · omega
  · have := of_decide_eq_true h; omega
theorem aheadW_no {y x : AnB} (h : ¬ aheadW y x = true) : ¬ lessA x y := by
  unfold aheadW at h
  unfold lessA
  split at h
  · omega
  · have h2 : ¬ (x.r < y.r ∨ (y.r = x.r ∧ x.w < y.w)) := fun e => h (decide_eq_true e)
    omega
set_option maxHeartbeats 2000000 in
theorem bChoose_ok (b : Nat) (g : BSt) (va : Option Addr) (vc mp : Nat) (hB : BOk g) :
    Tri Tryd.prog 44 #[.pointer (some ⟨b, 0, none⟩)] (HP.sep (POne b g va vc mp) (HP.sep (RoB va g.val.length g.val) (MapA mp g.ans)))
      (fun v => HP.ex fun val => HP.ex fun va' => HP.ex fun vc' => HP.and (v = .tuple #[] ∧ ChoseB (ansF g.ans 0) g.val val) (HP.sep (POne b { g with val := val } va' vc' mp) (HP.sep (RoB va' val.length val) (MapA mp g.ans)))) := by
  refine (Tri.ex (A := fun l => HP.ex fun cl => HP.and (l.map (·.1) = g.ans.map (·.1)) (HP.sep (POne b g va vc mp) (HP.sep (RoB va g.val.length g.val) (MapH AnV iE mp (ansF g.ans 0) l cl)))) fun l => Tri.ex fun cl => Tri.pure fun hk => ?_).weak (fun R h H => ?_) fun _ _ _ h => h
  · refine Tri.fact (φ := MapI l cl) (fun R h H => (HP.sep_right (HP.sep_right H)).1) fun hI => ?_
    refine tri_of_tree (ρ := [.n b, .i g.acc, .i g.rnd, .i g.who, .a va, .n g.val.length, .n vc, .p (RoB va g.val.length g.val), .i g.phase, .n mp, .p (MapH AnV iE mp (ansF g.ans 0) l cl), .i g.agreed]) mixed Tryd.func44 tree_bChoose ?_
    unfold t_bChoose
    simp only [T.den, E.prop, E.den, RX.look, F1.app, F2.app, Uni.int_i, Uni.nat_n, Uni.bool_c, Uni.str_s, Uni.adr_a, Uni.val_v, Uni.hp_p, hden, cden, V.den, W.den, A.den, BR.den, SA.den, FV.den, capV, exs, exP, allP, Cur.app, List.map_cons, List.map_nil, List.cons_append, List.nil_append, List.drop_succ_cons, List.drop_zero, List.length_cons, List.length_nil, Nat.zero_add, Nat.reduceAdd, Int.neg_neg, Bool.not_not, List.append_nil, Nat.add_zero, List.getElem?_cons_zero, List.getElem?_cons_succ, Decidable.not_not, semW_eq, semW_range, semW_next, semW_entry, ne_eq, Nat.reduceEqDiff, not_false_eq_true]
    intro _
    refine ((range_ok (m := mp) (l := l) (c := cl) (enc := iE) undMpA).frame (Vals AnV l (ansF g.ans 0))).weak (fun R h H => H.2) ?_
    rintro v R h ⟨h1, h2, d, l1, l2, ⟨it, rfl, H⟩, HV⟩
    have Hst : (HP.sep (HP.one it (.mapIter (some mp) cl #[] cl)) (MapH AnV iE mp (ansF g.ans 0) l cl)).p R h := HP.sep_mono (HP.sep_assoc ⟨h1, h2, d, l1, l2, H, HV⟩) (fun _ h => h) fun y hy => ⟨hI, hy⟩
    clear H HV d l1 l2
    let J : HP → HP → Int → Bool → Int → Int → Option Addr → Nat → Nat → HP → Nat → Prop := fun Pi Pm t ok r w ba bn _ Pb N => ∃ (S : Array Nat) (x : AnB), Pi = HP.one it (.mapIter (some mp) cl S cl) ∧ Pm = MapH AnV iE mp (ansF g.ans 0) l cl ∧ t = x.turn ∧ ok = x.ok ∧ r = x.r ∧ w = x.w ∧ bn = x.val.length ∧ (∀ R h, Pb.p R h → (RoB ba x.val.length x.val).p R h) ∧ BestA (ansF g.ans 0) l S x ∧ leftN l S = N
    refine ⟨it, _, _, rfl, ⟨fun Pi Pm t ok r w ba bn bc Pb => ∃ N, J Pi Pm t ok r w ba bn bc Pb N, fun Pi Pm t ok r w ba bn bc Pb => leastN (J Pi Pm t ok r w ba bn bc Pb), ⟨_, #[], ⟨0, false, 0, 0, []⟩, rfl, rfl, rfl, rfl, rfl, rfl, rfl, fun R h _ => RoB0 none, .inl ⟨rfl, rfl, fun z _ hz => absurd hz (by simp)⟩, rfl⟩, ?_⟩, Hst⟩
    intro Pi Pm t ok r w ba bn bc Pb hJ
    have hJ' := leastN_spec hJ
    generalize hNe : leastN (J Pi Pm t ok r w ba bn bc Pb) = N at hJ'
    obtain ⟨S, x, rfl, rfl, rfl, rfl, rfl, rfl, rfl, hPb, hbest, hN⟩ := hJ'
    clear hJ
    refine (next_map hI.2).weak (fun _ _ h => h) ?_
    rintro v R h ⟨e, he, H⟩
    rcases e with _ | z
    · refine ⟨false, .tuple #[], .tuple #[], _, he.1, ⟨fun h => (by cases h), fun _ => ?_⟩, H⟩
      clear H
      have seen : ∀ k y, ansF g.ans 0 k = some y → ∃ q ∈ l, q.1 = k ∧ q.2.2 ∈ S := fun k y hy => by
        have hm : k ∈ g.ans.map (·.1) := Classical.byContradiction fun hn => by rw [ansF_none.2 hn] at hy; cases hy
        rw [← hk] at hm
        obtain ⟨q, hq, rfl⟩ := List.mem_map.1 hm
        exact ⟨q, hq, rfl, he.2 q hq⟩
      have hiff : (!(decide (x.r = 0) && decide (x.w = 0))) = true ↔ ¬ (x.r = 0 ∧ x.w = 0) := by
        by_cases e1 : x.r = 0 <;> by_cases e2 : x.w = 0 <;> simp [e1, e2]
      refine ⟨_, neqBW (by decide), fun h1 => .of fun R h H => ?_, fun h1 => .of fun R h H => ?_⟩
      · rcases hbest with ⟨r0, w0, _⟩ | ⟨hc, ⟨k0, hk0⟩, hmax⟩
        · exact absurd ⟨r0, w0⟩ (hiff.1 h1)
        · refine ⟨x.val, ba, bc, ⟨trivial, .inr ⟨k0, x, hk0, hc, rfl, fun k' y hy hcy => ?_⟩⟩, HP.sep_mono H (fun _ h => h) fun z hz => HP.sep_mono hz (fun u hu => hPb R u hu) fun u hu => ⟨l, cl, hk, HP.sep_left hu⟩⟩
          obtain ⟨q, hq, rfl, hqs⟩ := seen k' y hy
          exact hmax q hq hqs y hy hcy
      · rcases hbest with ⟨r0, w0, hno⟩ | ⟨hc, _, _⟩
        · refine ⟨g.val, va, vc, ⟨trivial, .inl ⟨fun k' y hy => ?_, rfl⟩⟩, HP.sep_mono H (fun _ h => h) fun z hz => HP.sep_mono hz (fun _ h => h) fun u hu => ⟨l, cl, hk, hu⟩⟩
          obtain ⟨q, hq, rfl, hqs⟩ := seen k' y hy
          exact hno q hq hqs y hy
        · exact absurd (hiff.2 hc.2) h1
    · obtain ⟨rfl, hz, hzS⟩ := he
      have hfind : alFind z.1 l = some z.2.1 := alFind_mem z.1 z.2.1 z.2.2 l hI.1 hz
      obtain ⟨y, hy, a, c, hv⟩ : ∃ y, ansF g.ans 0 z.1 = some y ∧ ∃ a c, z.2.1 = .agg (y.vals a c) := by
        have Hm := HP.sep_right H
        cases hfk : ansF g.ans 0 z.1 with
        | none => rw [MapH.no Hm hfk] at hfind; cases hfind
        | some y =>
          obtain ⟨v, hv, a, c, ⟨e, _⟩, _⟩ := MapH.yes Hm AnV.pers hfk h
          rw [hfind] at hv; cases hv
          exact ⟨y, rfl, a, c, e⟩
      refine ⟨true, iE z.1, z.2.1, _, rfl, ⟨fun _ => ?_, fun h => by simp at h⟩, H⟩
      clear H
      have hent := entry_ok (enc := iE) (it := it) (m := mp) (c := cl) (S := S) (x := z) hI.2 hz (A := HP.sep (HP.one it (.mapIter (some mp) cl (nextI S (some z)) cl)) (MapH AnV iE mp (ansF g.ans 0) l cl)) (fun R h H => HP.sep_left H) (fun R h H => MapH.at (HP.sep_right H))
      rw [hv] at hent
      have fin : ∀ (x' : AnB) (ba' : Option Addr) (bc' : Nat) (Pb' : HP), (∀ R h, Pb'.p R h → (RoB ba' x'.val.length x'.val).p R h) → BestA (ansF g.ans 0) l (S.push z.2.2) x' →
          (∃ N, J (HP.one it (.mapIter (some mp) cl (nextI S (some z)) cl)) (MapH AnV iE mp (ansF g.ans 0) l cl) x'.turn x'.ok x'.r x'.w ba' x'.val.length bc' Pb' N) ∧ leastN (J (HP.one it (.mapIter (some mp) cl (nextI S (some z)) cl)) (MapH AnV iE mp (ansF g.ans 0) l cl) x'.turn x'.ok x'.r x'.w ba' x'.val.length bc' Pb') < leastN (J (HP.one it (.mapIter (some mp) cl S cl)) (MapH AnV iE mp (ansF g.ans 0) l cl) x.turn x.ok x.r x.w ba x.val.length bc Pb) := fun x' ba' bc' Pb' h1 h2 => by
        have hJ2 : J (HP.one it (.mapIter (some mp) cl (nextI S (some z)) cl)) (MapH AnV iE mp (ansF g.ans 0) l cl) x'.turn x'.ok x'.r x'.w ba' x'.val.length bc' Pb' (leftN l (S.push z.2.2)) := ⟨S.push z.2.2, x', rfl, rfl, rfl, rfl, rfl, rfl, rfl, h1, h2, rfl⟩
        exact ⟨⟨_, hJ2⟩, Nat.lt_of_le_of_lt (leastN_le hJ2) (by rw [hNe, ← hN]; exact leftN_push hz hzS)⟩
      refine OTri.ofRead hent fun R' h' H' => ⟨z.1, y.turn, y.ok, y.r, y.w, a, y.val.length, c, RoB a y.val.length y.val, HP.one it (.mapIter (some mp) cl (nextI S (some z)) cl), MapH AnV iE mp (ansF g.ans 0) l cl, rfl, fun nb => ?_, ?_⟩
      · refine ⟨fun h1 => fin x ba bc Pb hPb (hbest.skip hI.2 hz hy fun hc => absurd hc.1 h1), fun h1 => ⟨_, eqBW (by decide), fun h2 => ?_, fun h2 => ⟨_, eqBW (by decide), fun h3 => ?_, fun h3 => ?_⟩⟩⟩
        · exact fin x ba bc Pb hPb (hbest.skip hI.2 hz hy fun hc => absurd (by simpa using h2) hc.2)
        · exact fin y a c _ (fun _ _ h => h) (hbest.take hI.2 hz hy ⟨h1, by simpa using h2⟩ (.inl (by simpa using h3)))
        · have hcx : candA x := by
            rcases hbest with ⟨r0, w0, _⟩ | ⟨hc, _⟩
            · exact absurd (by simp [r0, w0]) h3
            · exact hc
          have hcy : candA y := ⟨h1, by simpa using h2⟩
          refine (bAhead_ok (RoB a y.val.length y.val) (HP.sep (MapH AnV iE mp (ansF g.ans 0) l cl) Pb) y x a ba c bc).weak (fun _ _ h => h) ?_
          rintro v R h ⟨rfl, H⟩
          exact ⟨_, rfl, ⟨fun h4 => fin y a c _ (fun _ _ h => h) (hbest.take hI.2 hz hy hcy (.inr (aheadW_yes h4))), fun h4 => fin x ba bc Pb hPb (hbest.skip hI.2 hz hy fun _ => ⟨hcx, aheadW_no h4⟩)⟩, H⟩
      · obtain ⟨v, hv', a', c', ⟨e, _⟩, hro⟩ := MapH.yes (HP.sep_right H') AnV.pers hy h'
        rw [hfind, hv] at hv'
        cases hv'
        simp only [Value.agg.injEq, Array.mk.injEq, List.cons.injEq, Value.slice.injEq, and_true, true_and] at e
        obtain ⟨rfl, rfl⟩ := e
        exact RoC.join hro H'
  · obtain ⟨h1, h2, e1, l1, l2, HO, h3, h4, e2, l3, l4, HP', ⟨l, cl, hk, HM⟩⟩ := H
    exact ⟨l, cl, hk, h1, h2, e1, l1, l2, HO, h3, h4, e2, l3, l4, HP', HM⟩
end Go.Proofs.YtbmajijnjkicmaaDoor



namespace Go.Proofs.YtbmajijnjkicmaaDoor
set_option linter.unusedSimpArgs false
set_option linter.unusedVariables false
open Go.Proofs.YtbmajijnjkicmaaDoor RX
set_option maxRecDepth 100000

theorem BRep.tri {f : FuncId} {args : Array Value} {b : Nat} {g : BSt} {K : HP} {B : Value → HP}
    (t : ∀ va vc mp, BOk g → Tri Tryd.prog f args (HP.sep (POne b g va vc mp) (HP.sep (RoB va g.val.length g.val) (HP.sep (MapA mp g.ans) K))) B) : Tri Tryd.prog f args (HP.sep (BRep b g) K) B := by
  refine (Tri.ex (A := fun va => HP.ex fun vc => HP.ex fun mp => HP.and (BOk g) (HP.sep (POne b g va vc mp) (HP.sep (RoB va g.val.length g.val) (HP.sep (MapA mp g.ans) K)))) fun va => Tri.ex fun vc => Tri.ex fun mp => Tri.pure fun h => t va vc mp h).weak (fun R h H => ?_) fun _ _ _ h => h
  obtain ⟨h1, h2, d, l1, l2, ⟨va, vc, mp, hB, H⟩, HK⟩ := H
  exact ⟨va, vc, mp, hB, HP.sep_mono (HP.sep_assoc ⟨h1, h2, d, l1, l2, H, HK⟩) (fun _ h => h) fun y hy => HP.sep_assoc hy⟩
theorem bAskedA_ok (b : Nat) (g : BSt) (va : Option Addr) (vc mp : Nat) (P : HP) (f : Int) : Tri Tryd.prog 38 #[.pointer (some ⟨b, 0, none⟩), .int .i64 f] (HP.sep (POne b g va vc mp) (HP.sep P (MapA mp g.ans)))
    (fun v => HP.and (v = .bool (askedB g f)) (HP.sep (POne b g va vc mp) (HP.sep P (MapA mp g.ans)))) := by
  refine (Tri.ex (A := fun l => HP.ex fun cl => HP.and (l.map (·.1) = g.ans.map (·.1)) (HP.sep (POne b g va vc mp) (HP.sep P (MapH AnV iE mp (ansF g.ans 0) l cl)))) fun l => Tri.ex fun cl => Tri.pure fun hk => ?_).weak (fun R h H => ?_) fun _ _ _ h => h
  · exact (bAsked_ok b g va vc mp P f l cl).weak (fun _ _ h => h) fun v R h ⟨e, H⟩ => ⟨e, HP.sep_mono H (fun _ h => h) fun y hy => HP.sep_mono hy (fun _ h => h) fun z hz => ⟨l, cl, hk, hz⟩⟩
  · obtain ⟨h1, h2, e1, l1, l2, HO, h3, h4, e2, l3, l4, HP', ⟨l, cl, hk, HM⟩⟩ := H
    exact ⟨l, cl, hk, h1, h2, e1, l1, l2, HO, h3, h4, e2, l3, l4, HP', HM⟩
def accB (g : BSt) (f e : Int) : BSt :=
  if g.phase = 2 ∧ askedB g f = true then (if (takeB g f ⟨decide (e = 0), 0, 0, []⟩).2 = true then { (takeB g f ⟨decide (e = 0), 0, 0, []⟩).1 with phase := 3 } else (takeB g f ⟨decide (e = 0), 0, 0, []⟩).1) else g
theorem asked_has {g : BSt} {f : Int} (h : askedB g f = true) : hasB g.ans f = false := by
  unfold askedB at h
  rw [Bool.and_eq_true] at h
  simpa using h.2
theorem takeB_val (g : BSt) (f : Int) (x : BA) : (takeB g f x).1.val = g.val := by unfold takeB; split <;> (try split) <;> rfl
theorem takeB_ok {g : BSt} (f : Int) (x : BA) (h : BOk g) : BOk (takeB g f x).1 := by
  obtain ⟨h1, h2, h3, h4, h5⟩ := h
  unfold takeB
  split
  · exact ⟨h1, h2, by show 0 ≤ g.agreed + 1; omega, by show g.agreed + 1 ≤ ((g.ans ++ [(f, x)]).length : Int); simp; omega, h5⟩
  · split <;> exact ⟨h1, h2, h3, by show g.agreed ≤ ((g.ans ++ [(f, x)]).length : Int); simp; omega, h5⟩
theorem bAccepted_ok (b : Nat) (g : BSt) (f e : Int) (hlen : g.ans.length ≤ 100000) : Tri Tryd.prog 31 #[.pointer (some ⟨b, 0, none⟩), .int .i64 f, .int .i64 e] (BRep b g) (fun v => HP.and (v = .tuple #[]) (BRep b (accB g f e))) := by
  refine (BRep.tri (K := HP.tt) fun va vc mp hB => ?_).weak (fun R h H => HP.sep_tt H) fun _ _ _ h => h
  refine Tri.weak (A := HP.sep (POne b g va vc mp) (HP.sep (RoB va g.val.length g.val) (MapA mp g.ans))) ?_ (fun R h H => HP.sep_mono H (fun _ h => h) fun y hy => HP.sep_mono hy (fun _ h => h) fun z hz => HP.sep_left hz) fun _ _ _ h => h
  refine tri_of_tree (ρ := [.n b, .i g.acc, .i g.rnd, .i g.who, .a va, .n g.val.length, .n vc, .p (RoB va g.val.length g.val), .i g.phase, .n mp, .p (MapA mp g.ans), .i g.agreed, .i f, .i e]) mixed Tryd.func31 tree_bAccepted ?_
  unfold t_bAccepted
  simp only [T.den, E.prop, E.den, RX.look, F1.app, F2.app, Uni.int_i, Uni.nat_n, Uni.bool_c, Uni.str_s, Uni.adr_a, Uni.val_v, Uni.hp_p, hden, cden, V.den, W.den, A.den, BR.den, SA.den, FV.den, capV, exs, exP, allP, Cur.app, List.map_cons, List.map_nil, List.cons_append, List.nil_append, List.drop_succ_cons, List.drop_zero, List.length_cons, List.length_nil, Nat.zero_add, Nat.reduceAdd, Int.neg_neg, Bool.not_not, List.append_nil, Nat.add_zero, List.getElem?_cons_zero, List.getElem?_cons_succ, Decidable.not_not, semW_eq, ne_eq, Nat.reduceEqDiff, not_false_eq_true]
  have same : accB g f e = g → HP.ent (HP.sep (POne b g va vc mp) (HP.sep (RoB va g.val.length g.val) (MapA mp g.ans))) (HP.and True (BRep b (accB g f e))) := fun h => .of fun R y H => ⟨trivial, by rw [h]; exact ⟨va, vc, mp, hB, H⟩⟩
  refine ⟨fun h1 => same (if_neg fun h => h1 h.1), fun h1 => ?_⟩
  refine (bAskedA_ok b g va vc mp (RoB va g.val.length g.val) f).weak (fun _ _ h => h) ?_
  rintro v R h ⟨rfl, H⟩
  refine ⟨_, rfl, ⟨fun h2 => same (if_neg fun h => h2 h.2), fun h2 => ?_⟩, H⟩
  clear H
  have hT := takeB_ok f ⟨decide (e = 0), 0, 0, []⟩ hB
  have hv := takeB_val g f ⟨decide (e = 0), 0, 0, []⟩
  have hacc : accB g f e = if (takeB g f ⟨decide (e = 0), 0, 0, []⟩).2 = true then { (takeB g f ⟨decide (e = 0), 0, 0, []⟩).1 with phase := 3 } else (takeB g f ⟨decide (e = 0), 0, 0, []⟩).1 := if_pos ⟨h1, h2⟩
  refine (bTake_ok b g va vc mp (RoB va g.val.length g.val) f ⟨decide (e = 0), 0, 0, []⟩ 0 none 0 (by simp) (asked_has h2) hlen hB).weak (fun R h H => HP.sep_mono H (fun _ h => h) fun y hy => HP.sep_mono hy (fun _ h => h) fun z hz => RoC.joinR (RoB0 none : (RoB none 0 []).p R z) hz) ?_
  rw [hacc]
  clear hacc same
  revert hT hv
  generalize takeB g f ⟨decide (e = 0), 0, 0, []⟩ = T
  intro hT hv
  rintro v R h ⟨rfl, H⟩
  rw [← hv] at H
  refine ⟨T.2, T.1.acc, T.1.rnd, T.1.who, va, T.1.val.length, vc, RoB va T.1.val.length T.1.val, T.1.phase, mp, MapA mp T.1.ans, T.1.agreed, rfl, ⟨fun h => .of fun R y H => ⟨trivial, ?_⟩, fun h => .of fun R y H => ⟨trivial, ?_⟩⟩, HP.sep_mono H (fun _ h => h) fun y hy => HP.sep_mono hy (fun _ h => h) fun z hz => HP.sep_left hz⟩
  · rw [if_pos h]; exact ⟨va, vc, mp, hT, H⟩
  · rw [if_neg h]; exact ⟨va, vc, mp, hT, H⟩
def promA (r w : Int) (l : List UInt8) (e : Int) : BA := if e = 0 then ⟨true, r, w, l⟩ else ⟨false, 0, 0, []⟩
def PromB (g : BSt) (f r w : Int) (l : List UInt8) (e : Int) (g' : BSt) : Prop :=
  if g.phase = 1 ∧ askedB g f = true then
    (if (takeB g f (promA r w l e)).2 = true then ∃ val, ChoseB (ansF (takeB g f (promA r w l e)).1.ans 0) g.val val ∧ g' = { (takeB g f (promA r w l e)).1 with val := val, phase := 2, ans := [], agreed := 0 } else g' = (takeB g f (promA r w l e)).1)
  else g' = g
theorem ChoseB.le {L : List (Int × BA)} {v0 v : List UInt8} (h : ChoseB (ansF L 0) v0 v) (h0 : v0.length ≤ 140737488355328) (hL : ∀ x ∈ L, x.2.val.length ≤ 140737488355328) : v.length ≤ 140737488355328 := by
  have aux : ∀ (L : List (Int × BA)) (i k : Int) (x : AnB), ansF L i k = some x → ∃ y ∈ L, y.2.val = x.val := fun L => by
    induction L with
    | nil => intro i k x h; cases h
    | cons y L ih =>
      intro i k x h
      simp only [ansF] at h
      split at h
      · cases h; exact ⟨y, by simp, rfl⟩
      · obtain ⟨z, hz, e⟩ := ih (i + 1) k x h; exact ⟨z, List.mem_cons_of_mem _ hz, e⟩
  rcases h with ⟨_, rfl⟩ | ⟨k, x, hx, _, rfl, _⟩
  · exact h0
  · obtain ⟨y, hy, e⟩ := aux L 0 k x hx
    rw [← e]; exact hL y hy
theorem MapA.new (mp : Nat) {R h : PH} (H : (HP.one mp (.map #[] 0)).p R h) : (MapA mp []).p R h :=
  ⟨[], 0, rfl, MapI.nil 0, HP.sep_mono (HP.sep_tt H) (fun _ h => h) fun _ _ _ => trivial⟩
theorem bPromised_ok (b : Nat) (g : BSt) (f r w e : Int) (a : Option Addr) (c : Nat) (l : List UInt8) (hl : l.length ≤ 140737488355328) (hL : ∀ x ∈ g.ans, x.2.val.length ≤ 140737488355328) (hlen : g.ans.length ≤ 100000) :
    Tri Tryd.prog 30 #[.pointer (some ⟨b, 0, none⟩), .int .i64 f, .agg #[.int .i64 r, .int .i64 w], .slice a l.length c, .int .i64 e] (HP.sep (BRep b g) (RoB a l.length l)) (fun v => HP.ex fun g' => HP.and (v = .tuple #[] ∧ PromB g f r w l e g') (BRep b g')) := by
  refine BRep.tri fun va vc mp hB => ?_
  refine tri_of_tree (ρ := [.n b, .i g.acc, .i g.rnd, .i g.who, .a va, .n g.val.length, .n vc, .p (RoB va g.val.length g.val), .i g.phase, .n mp, .p (MapA mp g.ans), .i g.agreed, .i f, .i r, .i w, .a a, .n l.length, .n c, .p (RoB a l.length l), .i e]) mixed Tryd.func30 tree_bPromised ?_
  unfold t_bPromised
  simp only [T.den, E.prop, E.den, RX.look, F1.app, F2.app, Uni.int_i, Uni.nat_n, Uni.bool_c, Uni.str_s, Uni.adr_a, Uni.val_v, Uni.hp_p, hden, cden, V.den, W.den, A.den, BR.den, SA.den, FV.den, capV, exs, exP, allP, Cur.app, List.map_cons, List.map_nil, List.cons_append, List.nil_append, List.drop_succ_cons, List.drop_zero, List.length_cons, List.length_nil, Nat.zero_add, Nat.reduceAdd, Int.neg_neg, Bool.not_not, List.append_nil, Nat.add_zero, List.getElem?_cons_zero, List.getElem?_cons_succ, Decidable.not_not, semW_eq, ne_eq, Nat.reduceEqDiff, not_false_eq_true]
  intro _
  have same : ¬ (g.phase = 1 ∧ askedB g f = true) → HP.ent (HP.sep (POne b g va vc mp) (HP.sep (RoB va g.val.length g.val) (HP.sep (MapA mp g.ans) (RoB a l.length l)))) (HP.ex fun g' => HP.and (True ∧ PromB g f r w l e g') (BRep b g')) := fun h => .of fun R y H => ⟨g, ⟨trivial, by unfold PromB; rw [if_neg h]⟩, va, vc, mp, hB, HP.sep_mono H (fun _ h => h) fun y hy => HP.sep_mono hy (fun _ h => h) fun z hz => HP.sep_left hz⟩
  refine ⟨fun h1 => same (fun h => h1 h.1), fun h1 => ?_⟩
  refine (bAskedA_ok b g va vc mp (RoB va g.val.length g.val) f).weak (fun _ _ h => h) ?_
  rintro v R h ⟨rfl, H⟩
  refine ⟨_, rfl, ⟨fun h2 => same (fun h => h2 h.2), fun h2 _ => ⟨fun h3 => ?_, fun h3 => ?_⟩⟩, H⟩
  · clear H
    refine (cloneR_ok (RoB a l.length l) a l.length c l (RdL.ro _ _ _ _) rfl hl).weak (fun _ _ h => h) ?_
    rintro v R h ⟨a2, c2, rfl, H⟩
    refine ⟨a2, _, c2, RoB a2 l.length l, rfl, ?_, H⟩
    clear H same
    subst h3
    have hx : promA r w l 0 = ⟨true, r, w, l⟩ := if_pos rfl
    have hP : ∀ g', (if (takeB g f ⟨true, r, w, l⟩).2 = true then ∃ val, ChoseB (ansF (takeB g f ⟨true, r, w, l⟩).1.ans 0) g.val val ∧ g' = { (takeB g f ⟨true, r, w, l⟩).1 with val := val, phase := 2, ans := [], agreed := 0 } else g' = (takeB g f ⟨true, r, w, l⟩).1) → PromB g f r w l 0 g' := fun g' h => by unfold PromB; rw [if_pos ⟨h1, h2⟩, hx]; exact h
    have hT := takeB_ok f ⟨true, r, w, l⟩ hB
    have hv := takeB_val g f ⟨true, r, w, l⟩
    refine (bTake_ok b g va vc mp (RoB va g.val.length g.val) f ⟨true, r, w, l⟩ 0 a2 c2 hl (asked_has h2) hlen hB).weak (fun _ _ h => h) ?_
    have hans : ∀ x ∈ (takeB g f ⟨true, r, w, l⟩).1.ans, x.2.val.length ≤ 140737488355328 := fun x hx => by
      have : (takeB g f ⟨true, r, w, l⟩).1.ans = g.ans ++ [(f, ⟨true, r, w, l⟩)] := by unfold takeB; split <;> (try split) <;> rfl
      rw [this] at hx
      rcases List.mem_append.1 hx with hx | hx
      · exact hL x hx
      · obtain rfl := List.mem_singleton.1 hx; exact hl
    revert hT hv hP hans
    generalize takeB g f ⟨true, r, w, l⟩ = T
    intro hP hT hv hans
    rintro v R h ⟨rfl, H⟩
    rw [← hv] at H
    refine ⟨T.2, T.1.acc, T.1.rnd, T.1.who, va, T.1.val.length, vc, RoB va T.1.val.length T.1.val, T.1.phase, mp, MapA mp T.1.ans, T.1.agreed, RoB a2 l.length l, rfl, ⟨fun h => ?_, fun h => .of fun R y H => ⟨T.1, ⟨trivial, hP _ (by rw [if_neg h])⟩, va, vc, mp, hT, HP.sep_mono H (fun _ h => h) fun y hy => HP.sep_mono hy (fun _ h => h) fun z hz => HP.sep_left hz⟩⟩, H⟩
    clear H
    refine (bChoose_ok b T.1 va vc mp hT).weak (fun _ _ h => h) ?_
    rintro v R y ⟨val, va', vc', ⟨rfl, hch⟩, H⟩
    refine ⟨T.1.acc, T.1.rnd, T.1.who, va', val.length, vc', RoB va' val.length val, T.1.phase, mp, MapA mp T.1.ans, T.1.agreed, rfl, fun nb => .of fun R y H => ?_, H⟩
    rw [hv] at hch
    have h0 : g.val.length ≤ 140737488355328 := hB.2.2.2.2
    have hval := hch.le h0 hans
    refine ⟨{ T.1 with val := val, phase := 2, ans := [], agreed := 0 }, ⟨trivial, hP _ (by rw [if_pos h]; exact ⟨val, hch, rfl⟩)⟩, va', vc', nb, ⟨hT.1, hT.2.1, Int.le_refl _, Int.le_refl _, hval⟩, HP.sep_mono H (fun _ h => h) fun y hy => HP.sep_mono hy (fun _ h => h) fun z hz => ?_⟩
    exact MapA.new nb (HP.sep_left hz)
  · clear H same
    have hx : promA r w l e = ⟨decide (e = 0), 0, 0, []⟩ := by unfold promA; rw [if_neg h3, decide_eq_false h3]
    have hno : (takeB g f ⟨decide (e = 0), 0, 0, []⟩).2 = false := by
      unfold takeB
      rw [if_neg (show ¬ decide (e = 0) = true by rw [decide_eq_false h3]; decide)]
      split <;> rfl
    have hP : ∀ g', g' = (takeB g f ⟨decide (e = 0), 0, 0, []⟩).1 → PromB g f r w l e g' := fun g' h => by unfold PromB; rw [if_pos ⟨h1, h2⟩, hx, if_neg (by rw [hno]; decide)]; exact h
    have hT := takeB_ok f ⟨decide (e = 0), 0, 0, []⟩ hB
    have hv := takeB_val g f ⟨decide (e = 0), 0, 0, []⟩
    refine (bTake_ok b g va vc mp (RoB va g.val.length g.val) f ⟨decide (e = 0), 0, 0, []⟩ 0 none 0 (by simp) (asked_has h2) hlen hB).weak (fun R h H => HP.sep_mono H (fun _ h => h) fun y hy => HP.sep_mono hy (fun _ h => h) fun z hz => RoC.joinR (RoB0 none : (RoB none 0 []).p R h) hz) ?_
    clear hx
    revert hno hP hT hv
    generalize takeB g f ⟨decide (e = 0), 0, 0, []⟩ = T
    intro hno hP hT hv
    rintro v R h ⟨rfl, H⟩
    rw [← hv] at H
    exact ⟨T.2, T.1.acc, T.1.rnd, T.1.who, va, T.1.val.length, vc, RoB va T.1.val.length T.1.val, T.1.phase, mp, MapA mp T.1.ans, T.1.agreed, rfl, ⟨fun h => absurd h (by rw [hno]; decide), fun h => .of fun R y H => ⟨T.1, ⟨trivial, hP _ rfl⟩, va, vc, mp, hT, HP.sep_mono H (fun _ h => h) fun y hy => HP.sep_mono hy (fun _ h => h) fun z hz => HP.sep_left hz⟩⟩, HP.sep_mono H (fun _ h => h) fun y hy => HP.sep_mono hy (fun _ h => h) fun z hz => HP.sep_left hz⟩
def startB (acc rnd who : Int) (l : List UInt8) : BSt := ⟨max acc 1, rnd, who, l, 1, [], 0⟩
theorem bStart_ok (acc rnd who : Int) (ha : acc ≤ 10000) (S : HP) (a : Option Addr) (n c : Nat) (l : List UInt8) (hr : RdL S a n (l.map u8v)) (hl : l.length = n) (hb : n ≤ 140737488355328) :
    Tri Tryd.prog 33 #[.int .i64 acc, .agg #[.int .i64 rnd, .int .i64 who], .slice a n c] S (fun v => HP.ex fun b => HP.and (v = .pointer (some ⟨b, 0, none⟩)) (HP.sep S (BRep b (startB acc rnd who l)))) := by
  refine tri_of_tree (ρ := [.i acc, .i rnd, .i who, .a a, .n n, .n c, .p S]) mixed Tryd.func33 tree_bStart ?_
  unfold t_bStart
  simp only [T.den, E.prop, E.den, RX.look, F1.app, F2.app, Uni.int_i, Uni.nat_n, Uni.bool_c, Uni.str_s, Uni.adr_a, Uni.val_v, Uni.hp_p, hden, cden, V.den, W.den, A.den, BR.den, SA.den, FV.den, capV, exs, exP, allP, Cur.app, List.map_cons, List.map_nil, List.cons_append, List.nil_append, List.drop_succ_cons, List.drop_zero, List.length_cons, List.length_nil, Nat.zero_add, Nat.reduceAdd, Int.neg_neg, Bool.not_not, List.append_nil, Nat.add_zero, List.getElem?_cons_zero, List.getElem?_cons_succ, Decidable.not_not, semW_eq, ne_eq, Nat.reduceEqDiff, not_false_eq_true]
  have fin : ∀ (a' : Option Addr) (c' mp b : Nat), HP.ent (HP.sep S (HP.sep (HP.one b (.cells #[.int .i64 (max acc 1), .int .i64 rnd, .int .i64 who, .slice a' n c', .int .i64 1, .map (some mp), .int .i64 0] 77 (0, 0))) (HP.sep (RoB a' n l) (HP.one mp (.map #[] 0)))))
      (HP.ex fun b' => HP.and (Value.pointer (some ⟨b, 0, none⟩) = Value.pointer (some ⟨b', 0, none⟩)) (HP.sep S (BRep b' (startB acc rnd who l)))) := fun a' c' mp b => .of fun R y H => ⟨b, rfl, HP.sep_mono H (fun _ h => h) fun z hz => ⟨a', c', mp, ⟨by show 1 ≤ max acc 1; omega, by show max acc 1 ≤ 10000; omega, Int.le_refl _, Int.le_refl _, by show l.length ≤ _; omega⟩, by
    subst hl
    exact HP.sep_mono hz (fun _ h => h) fun u hu => HP.sep_mono hu (fun _ h => h) fun q hq => MapA.new mp hq⟩⟩
  intro _
  refine ⟨?_, fun mp => ?_⟩
  · refine (cloneR_ok S a n c l hr hl hb).weak (fun _ _ h => h) ?_
    rintro v R h ⟨a', c', rfl, H⟩
    exact ⟨a', n, c', RoB a' n l, rfl, fun mp b => fin a' c' mp b, H⟩
  · refine (cloneR_ok S a n c l hr hl hb).weak (fun _ _ h => h) ?_
    rintro v R h ⟨a', c', rfl, H⟩
    exact ⟨a', n, c', RoB a' n l, rfl, fun b => fin a' c' mp b, H⟩
theorem bPhaseR_ok (b : Nat) (g : BSt) : Tri Tryd.prog 32 #[.pointer (some ⟨b, 0, none⟩)] (BRep b g) (fun v => HP.and (v = .int .i64 g.phase) (BRep b g)) :=
  (BRep.tri (K := HP.tt) fun va vc mp hB => (bPhase_ok b g va vc mp (RoB va g.val.length g.val) (HP.sep (MapA mp g.ans) HP.tt)).weak (fun _ _ h => h) (B' := fun v => HP.and (v = .int .i64 g.phase) (BRep b g)) fun v R h ⟨e, H⟩ =>
    ⟨e, va, vc, mp, hB, HP.sep_mono H (fun _ h => h) fun y hy => HP.sep_mono hy (fun _ h => h) fun z hz => HP.sep_left hz⟩).weak (fun R h H => HP.sep_tt H) fun _ _ _ h => h
theorem bBallotR_ok (b : Nat) (g : BSt) : Tri Tryd.prog 35 #[.pointer (some ⟨b, 0, none⟩)] (BRep b g) (fun v => HP.and (v = .agg #[.int .i64 g.rnd, .int .i64 g.who]) (BRep b g)) :=
  (BRep.tri (K := HP.tt) fun va vc mp hB => (bBallot_ok b g va vc mp (RoB va g.val.length g.val) (HP.sep (MapA mp g.ans) HP.tt)).weak (fun _ _ h => h) (B' := fun v => HP.and (v = .agg #[.int .i64 g.rnd, .int .i64 g.who]) (BRep b g)) fun v R h ⟨e, H⟩ =>
    ⟨e, va, vc, mp, hB, HP.sep_mono H (fun _ h => h) fun y hy => HP.sep_mono hy (fun _ h => h) fun z hz => HP.sep_left hz⟩).weak (fun R h H => HP.sep_tt H) fun _ _ _ h => h
theorem bValueR_ok (b : Nat) (g : BSt) : Tri Tryd.prog 37 #[.pointer (some ⟨b, 0, none⟩)] (BRep b g) (fun v => HP.ex fun a => HP.ex fun c => HP.and (v = .slice a g.val.length c) (HP.sep (RoB a g.val.length g.val) (BRep b g))) :=
  (BRep.tri (K := HP.tt) fun va vc mp hB => (bValue_ok b g va vc mp (HP.sep (MapA mp g.ans) HP.tt) hB.2.2.2.2).weak (fun _ _ h => h) (B' := fun v => HP.ex fun a => HP.ex fun c => HP.and (v = .slice a g.val.length c) (HP.sep (RoB a g.val.length g.val) (BRep b g))) fun v R h ⟨a, c, e, H⟩ =>
    ⟨a, c, e, HP.sep_mono H (fun _ h => h) fun y hy => ⟨va, vc, mp, hB, HP.sep_mono hy (fun _ h => h) fun z hz => HP.sep_mono hz (fun _ h => h) fun q hq => HP.sep_left hq⟩⟩).weak (fun R h H => HP.sep_tt H) fun _ _ _ h => h
theorem bAskedR_ok (b : Nat) (g : BSt) (f : Int) : Tri Tryd.prog 38 #[.pointer (some ⟨b, 0, none⟩), .int .i64 f] (BRep b g) (fun v => HP.and (v = .bool (askedB g f)) (BRep b g)) :=
  (BRep.tri (K := HP.tt) fun va vc mp hB => ((bAskedA_ok b g va vc mp (RoB va g.val.length g.val) f).frame HP.tt).weak (fun R h H => HP.sep_assoc' (HP.sep_mono H (fun _ h => h) fun y hy => HP.sep_assoc' hy)) (B' := fun v => HP.and (v = .bool (askedB g f)) (BRep b g)) fun v R h H => by
    obtain ⟨e, H⟩ := HP.sep_left H
    exact ⟨e, va, vc, mp, hB, H⟩).weak (fun R h H => HP.sep_tt H) fun _ _ _ h => h
end Go.Proofs.YtbmajijnjkicmaaDoor



namespace Go.Proofs.YtbmajijnjkicmaaDoor.RX
set_option maxRecDepth 100000
-- tideline/ballot.Above: ρ := [.i b_Round, .i b_Who, .i who]
def t_aAbove : T :=
(.new
(.new
(.need (.o1 (.inr .i64) (.o2 .add (.v 0) (.i 1)))
(.ret (.w (.agg [.int .i64 (.o2 .add (.v 0) (.i 1)), .int .i64 (.v 2)])) []))))
theorem tree_aAbove : tree Tryd.prog { opq := [51], keep := [7, 12, 11, 24, 25, 39, 26, 15, 6, 28, 32, 35, 37, 38, 56, 13, 54, 99999, 16], opn := true, rdf := true, peek := [51] } Tryd.f34 [.agg [.int .i64 (.v 0), .int .i64 (.v 1)], .a (.int .i64 (.v 2))] [] 3 = t_aAbove := by kernel_rfl
def t_aTwin : T :=
(.new
(.new
(.call 21 [.a (.sl (.v 1) (.v 2) (.v 3))] [(.a 1, .prop 4)] [.a, .n, .n, .p, .p] (.w (.a (.sl (.v 7) (.v 8) (.v 9)))) [(.a 7, .prop 10), (.a 1, .prop 11)]
(.loop [.i, .p] [.e (.o1 .neg (.o1 .neg (.i 0))), .p [(.a 7, .prop 10)]]
(.br (.o2 .lt (.v 12) (.o1 .ofNat (.v 8)))
(.need (.o2 .le (.i 0) (.v 12))
(.need (.o1 .isSome (.v 7))
(.read (.load 27 (.tmp 17)) 27 [(17, .w (.a (.eptr 7 (.v 12) 1 0)))] [(.a 7, .prop 13)] [.a, .n, .n] (.w (.a (.sl (.v 14) (.v 15) (.v 16))))
(.call 22 [.a (.sl (.v 14) (.v 15) (.v 16))] [(.a 7, .prop 13)] [.a, .n, .n, .p, .p] (.w (.a (.sl (.v 17) (.v 18) (.v 19)))) [(.a 17, .prop 20), (.a 7, .prop 21)]
(.op (.store 27 (.tmp 20) (.tmp 19)) 0 [(20, .w (.a (.eptr 7 (.v 12) 1 0))), (19, .w (.a (.sl (.v 17) (.v 18) (.v 19))))] [(.a 7, .prop 21), (.a 17, .prop 20)] [.p] (.tup []) [(.a 7, .prop 22)]
(.need (.o1 (.inr .i64) (.o2 .add (.v 12) (.i 1)))
(.again 0 [.e (.o1 .neg (.o1 .neg (.o2 .add (.v 12) (.i 1)))), .p [(.a 7, .prop 22)]])))))))
(.ret (.w (.agg [.int .i64 (.v 0), .sl (.v 7) (.v 8) (.v 9)])) [(.a 1, .prop 11), (.a 7, .prop 13)]))))))
theorem tree_aTwin : tree Tryd.prog { opq := [51], hv := [(0, [.a 7])], keep := [7, 12, 11, 24, 25, 39, 26, 15, 6, 28, 32, 35, 37, 38, 56, 13, 54, 99999, 16], opn := true, rdf := true, peek := [51] } Tryd.f14 [.agg [.int .i64 (.v 0), .sl (.v 1) (.v 2) (.v 3)]] [(.a 1, .prop 4)] 5 = t_aTwin := by kernel_rfl
def t_aBegin : T :=
(.new
(.call 13 [.agg [.int .i64 (.v 0), .sl (.v 1) (.v 2) (.v 3)]] [(.a 1, .prop 4)] [.c] (.w (.a (.bool (.v 8)))) [(.a 1, .prop 4)]
(.br (.o1 .not (.v 8))
(.new
(.ret (.w (.a (.ptr (.v 9) 0))) [(.a 1, .prop 4), (.b (.v 9), .cells [.int .i64 (.i 0), .sl .nil (.n 0) (.n 0), .int .i64 (.i 0), .int .i64 (.i 0), .int .i64 (.i 6), .bool (.c false), .bool (.c false), .bool (.c false), .bool (.c false), .bool (.c false), .bool (.c false), .bool (.c false), .bool (.c false), .bool (.c false), .bool (.c false), .bool (.c false), .bool (.c false), .bool (.c false), .bool (.c false), .sl .nil (.n 0) (.n 0), .nilp, .int .i64 (.i 0), .sl .nil (.n 0) (.n 0), .int .i64 (.i 0)] 53)]))
(.br (.o2 .eq (.v 0) (.i 2147483647))
(.new
(.ret (.w (.a (.ptr (.v 9) 0))) [(.a 1, .prop 4), (.b (.v 9), .cells [.int .i64 (.i 0), .sl .nil (.n 0) (.n 0), .int .i64 (.i 0), .int .i64 (.i 0), .int .i64 (.i 6), .bool (.c false), .bool (.c false), .bool (.c false), .bool (.c false), .bool (.c false), .bool (.c false), .bool (.c false), .bool (.c false), .bool (.c false), .bool (.c false), .bool (.c false), .bool (.c false), .bool (.c false), .bool (.c false), .sl .nil (.n 0) (.n 0), .nilp, .int .i64 (.i 0), .sl .nil (.n 0) (.n 0), .int .i64 (.i 0)] 53)]))
(.br (.o2 .lt (.v 5) (.i 1))
(.new
(.ret (.w (.a (.ptr (.v 9) 0))) [(.a 1, .prop 4), (.b (.v 9), .cells [.int .i64 (.i 0), .sl .nil (.n 0) (.n 0), .int .i64 (.i 0), .int .i64 (.i 0), .int .i64 (.i 6), .bool (.c false), .bool (.c false), .bool (.c false), .bool (.c false), .bool (.c false), .bool (.c false), .bool (.c false), .bool (.c false), .bool (.c false), .bool (.c false), .bool (.c false), .bool (.c false), .bool (.c false), .bool (.c false), .sl .nil (.n 0) (.n 0), .nilp, .int .i64 (.i 0), .sl .nil (.n 0) (.n 0), .int .i64 (.i 0)] 53)]))
(.br (.o2 .lt (.i 7) (.v 5))
(.new
(.ret (.w (.a (.ptr (.v 9) 0))) [(.a 1, .prop 4), (.b (.v 9), .cells [.int .i64 (.i 0), .sl .nil (.n 0) (.n 0), .int .i64 (.i 0), .int .i64 (.i 0), .int .i64 (.i 6), .bool (.c false), .bool (.c false), .bool (.c false), .bool (.c false), .bool (.c false), .bool (.c false), .bool (.c false), .bool (.c false), .bool (.c false), .bool (.c false), .bool (.c false), .bool (.c false), .bool (.c false), .bool (.c false), .sl .nil (.n 0) (.n 0), .nilp, .int .i64 (.i 0), .sl .nil (.n 0) (.n 0), .int .i64 (.i 0)] 53)]))
(.br (.o2 .lt (.v 6) (.i 0))
(.new
(.ret (.w (.a (.ptr (.v 9) 0))) [(.a 1, .prop 4), (.b (.v 9), .cells [.int .i64 (.i 0), .sl .nil (.n 0) (.n 0), .int .i64 (.i 0), .int .i64 (.i 0), .int .i64 (.i 6), .bool (.c false), .bool (.c false), .bool (.c false), .bool (.c false), .bool (.c false), .bool (.c false), .bool (.c false), .bool (.c false), .bool (.c false), .bool (.c false), .bool (.c false), .bool (.c false), .bool (.c false), .bool (.c false), .sl .nil (.n 0) (.n 0), .nilp, .int .i64 (.i 0), .sl .nil (.n 0) (.n 0), .int .i64 (.i 0)] 53)]))
(.br (.o2 .lt (.i 2147483647) (.v 6))
(.new
(.ret (.w (.a (.ptr (.v 9) 0))) [(.a 1, .prop 4), (.b (.v 9), .cells [.int .i64 (.i 0), .sl .nil (.n 0) (.n 0), .int .i64 (.i 0), .int .i64 (.i 0), .int .i64 (.i 6), .bool (.c false), .bool (.c false), .bool (.c false), .bool (.c false), .bool (.c false), .bool (.c false), .bool (.c false), .bool (.c false), .bool (.c false), .bool (.c false), .bool (.c false), .bool (.c false), .bool (.c false), .bool (.c false), .sl .nil (.n 0) (.n 0), .nilp, .int .i64 (.i 0), .sl .nil (.n 0) (.n 0), .int .i64 (.i 0)] 53)]))
(.call 14 [.agg [.int .i64 (.v 0), .sl (.v 1) (.v 2) (.v 3)]] [(.a 1, .prop 4)] [.i, .a, .n, .n, .p, .p] (.w (.agg [.int .i64 (.v 9), .sl (.v 10) (.v 11) (.v 12)])) [(.a 10, .prop 13), (.a 1, .prop 14)]
(.new
(.ret (.w (.a (.ptr (.v 15) 0))) [(.a 1, .prop 14), (.b (.v 15), .cells [.int .i64 (.v 9), .sl (.v 10) (.v 11) (.v 12), .int .i64 (.v 5), .int .i64 (.v 6), .int .i64 (.i 1), .bool (.c false), .bool (.c false), .bool (.c false), .bool (.c false), .bool (.c false), .bool (.c false), .bool (.c false), .bool (.c false), .bool (.c false), .bool (.c false), .bool (.c false), .bool (.c false), .bool (.c false), .bool (.c false), .sl .nil (.n 0) (.n 0), .nilp, .int .i64 (.i 0), .sl .nil (.n 0) (.n 0), .int .i64 (.i 0)] 53), (.a 10, .prop 13)])))))))))))
theorem tree_aBegin : tree Tryd.prog { opq := [51], keep := [7, 12, 11, 24, 25, 39, 26, 15, 6, 28, 32, 35, 37, 38, 56, 13, 54, 99999, 16], opn := true, rdf := true, peek := [51] } Tryd.f5 [.agg [.int .i64 (.v 0), .sl (.v 1) (.v 2) (.v 3)], .a (.int .i64 (.v 5)), .a (.int .i64 (.v 6))] [(.a 1, .prop 4)] 7 = t_aBegin := by kernel_rfl
def t_aState : T :=
(.read (.load 3 (.tmp 5)) 3 [(5, .w (.a (.ptr (.v 0) 4)))] [(.b (.v 0), .prop 1)] [.i] (.w (.a (.int .i64 (.v 2))))
(.ret (.w (.a (.int .i64 (.v 2)))) [(.b (.v 0), .prop 1)]))
theorem tree_aState : tree Tryd.prog { opq := [51], keep := [7, 12, 11, 24, 25, 39, 26, 15, 6, 28, 32, 35, 37, 38, 56, 13, 54, 99999, 16], opn := true, rdf := true, peek := [51] } Tryd.f7 [.a (.ptr (.v 0) 0)] [(.b (.v 0), .prop 1)] 2 = t_aState := by kernel_rfl
def t_aPlan : T :=
(.new
(.read (.load 24 (.tmp 5)) 24 [(5, .w (.a (.ptr (.v 0) 21)))] [(.b (.v 0), .prop 1)] [.i, .a, .n, .n] (.w (.agg [.int .i64 (.v 3), .sl (.v 4) (.v 5) (.v 6)]))
(.call 14 [.agg [.int .i64 (.v 3), .sl (.v 4) (.v 5) (.v 6)]] [(.b (.v 0), .prop 1)] [.i, .a, .n, .n, .p, .p] (.w (.agg [.int .i64 (.v 7), .sl (.v 8) (.v 9) (.v 10)])) [(.a 8, .prop 11), (.b (.v 0), .prop 12)]
(.ret (.w (.agg [.int .i64 (.v 7), .sl (.v 8) (.v 9) (.v 10)])) [(.b (.v 0), .prop 12), (.a 8, .prop 11)]))))
theorem tree_aPlan : tree Tryd.prog { opq := [51], keep := [7, 12, 11, 24, 25, 39, 26, 15, 6, 28, 32, 35, 37, 38, 56, 13, 54, 99999, 16], opn := true, rdf := true, peek := [51] } Tryd.f12 [.a (.ptr (.v 0) 0)] [(.b (.v 0), .prop 1)] 2 = t_aPlan := by kernel_rfl
def t_aTail : T :=
(.read (.load 3 (.tmp 5)) 3 [(5, .w (.a (.ptr (.v 0) 23)))] [(.b (.v 0), .prop 1)] [.i] (.w (.a (.int .i64 (.v 2))))
(.ret (.w (.a (.int .i64 (.v 2)))) [(.b (.v 0), .prop 1)]))
theorem tree_aTail : tree Tryd.prog { opq := [51], keep := [7, 12, 11, 24, 25, 39, 26, 15, 6, 28, 32, 35, 37, 38, 56, 13, 54, 99999, 16], opn := true, rdf := true, peek := [51] } Tryd.f11 [.a (.ptr (.v 0) 0)] [(.b (.v 0), .prop 1)] 2 = t_aTail := by kernel_rfl
def t_aEpoch : T :=
(.read (.load 3 (.tmp 6)) 3 [(6, .w (.a (.ptr (.v 0) 0)))] [(.b (.v 0), .prop 1)] [.i] (.w (.a (.int .i64 (.v 2))))
(.need (.o1 (.inr .i64) (.o2 .add (.v 2) (.i 1)))
(.ret (.w (.a (.int .i64 (.o2 .add (.v 2) (.i 1))))) [(.b (.v 0), .prop 1)])))
theorem tree_aEpoch : tree Tryd.prog { opq := [51], keep := [7, 12, 11, 24, 25, 39, 26, 15, 6, 28, 32, 35, 37, 38, 56, 13, 54, 99999, 16], opn := true, rdf := true, peek := [51] } Tryd.f24 [.a (.ptr (.v 0) 0)] [(.b (.v 0), .prop 1)] 2 = t_aEpoch := by kernel_rfl
def t_aAsked : T :=
(.read (.load 3 (.tmp 7)) 3 [(7, .w (.a (.ptr (.v 0) 4)))] [(.b (.v 0), .prop 1)] [.i] (.w (.a (.int .i64 (.v 3))))
(.br (.o2 .eq (.v 3) (.i 1))
(.read (.load 3 (.tmp 14)) 3 [(14, .w (.a (.ptr (.v 0) 2)))] [(.b (.v 0), .prop 1)] [.i] (.w (.a (.int .i64 (.v 4))))
(.br (.o2 .lt (.v 2) (.v 4))
(.read (.indexAddr 50 (.tmp 21) (.tmp 19)) 0 [(21, .w (.a (.ptr (.v 0) 5))), (19, .w (.a (.int .i64 (.v 2))))] [(.b (.v 0), .prop 1)] [.v] (.w (.a (.val 5)))
(.read (.load 4 (.tmp 22)) 4 [(22, .w (.a (.val 5)))] [(.b (.v 0), .prop 1)] [.c] (.w (.a (.bool (.v 6))))
(.ret (.w (.a (.bool (.o1 .not (.v 6))))) [(.b (.v 0), .prop 1)])))
(.ret (.w (.a (.bool (.c false)))) [(.b (.v 0), .prop 1)])))
(.br (.o2 .eq (.v 3) (.i 2))
(.read (.load 51 (.tmp 30)) 51 [(30, .w (.a (.ptr (.v 0) 20)))] [(.b (.v 0), .prop 1)] [.v] (.w (.a (.val 4)))
(.call 38 [.a (.val 4), .a (.int .i64 (.v 2))] [(.b (.v 0), .prop 1)] [.c] (.w (.a (.bool (.v 5)))) [(.b (.v 0), .prop 1)]
(.ret (.w (.a (.bool (.v 5)))) [(.b (.v 0), .prop 1)])))
(.br (.o2 .eq (.v 3) (.i 3))
(.read (.indexAddr 50 (.tmp 39) (.tmp 37)) 0 [(39, .w (.a (.ptr (.v 0) 5))), (37, .w (.a (.int .i64 (.v 2))))] [(.b (.v 0), .prop 1)] [.v] (.w (.a (.val 4)))
(.read (.load 4 (.tmp 40)) 4 [(40, .w (.a (.val 4)))] [(.b (.v 0), .prop 1)] [.c] (.w (.a (.bool (.v 5))))
(.br (.o1 .not (.v 5))
(.call 39 [.a (.ptr (.v 0) 0), .a (.int .i64 (.v 2))] [(.b (.v 0), .prop 1)] [.c] (.w (.a (.bool (.v 6)))) [(.b (.v 0), .prop 1)]
(.ret (.w (.a (.bool (.v 6)))) [(.b (.v 0), .prop 1)]))
(.ret (.w (.a (.bool (.c false)))) [(.b (.v 0), .prop 1)]))))
(.ret (.w (.a (.bool (.c false)))) [(.b (.v 0), .prop 1)])))))
theorem tree_aAsked : tree Tryd.prog { opq := [51], keep := [7, 12, 11, 24, 25, 39, 26, 15, 6, 28, 32, 35, 37, 38, 56, 13, 54, 99999, 16], opn := true, rdf := true, peek := [51] } Tryd.f25 [.a (.ptr (.v 0) 0), .a (.int .i64 (.v 2))] [(.b (.v 0), .prop 1)] 3 = t_aAsked := by kernel_rfl
def t_aPlanned1 : T :=
(.call 56 [.a (.sl (.v 0) (.v 1) (.v 2)), .a (.int .i64 (.v 5))] [(.a 0, .prop 3)] [.c] (.w (.a (.bool (.v 6)))) [(.a 0, .prop 3)]
(.ret (.w (.a (.bool (.v 6)))) [(.a 0, .prop 3), (.b (.v 4), .cells [.int .i64 (.v 5)] 3)]))
theorem tree_aPlanned1 : tree Tryd.prog { opq := [51], keep := [7, 12, 11, 24, 25, 39, 26, 15, 6, 28, 32, 35, 37, 38, 56, 13, 54, 99999, 16], opn := true, rdf := true, peek := [51] } Tryd.f55 [.a (.sl (.v 0) (.v 1) (.v 2)), .a (.ptr (.v 4) 0)] [(.a 0, .prop 3), (.b (.v 4), .cells [.int .i64 (.v 5)] 3)] 6 = t_aPlanned1 := by kernel_rfl
def t_aPlanned : T :=
(.new
(.read (.load 22 (.tmp 8)) 22 [(8, .w (.a (.ptr (.v 0) 22)))] [(.b (.v 0), .prop 1)] [.a, .n, .n] (.w (.a (.sl (.v 4) (.v 5) (.v 6))))
(.call 54 [.a (.sl (.v 4) (.v 5) (.v 6)), .a (.func 55 [(.v 3, 0)])] [(.b (.v 0), .prop 1), (.b (.v 3), .cells [.int .i64 (.v 2)] 3)] [.c] (.w (.a (.bool (.v 7)))) [(.b (.v 0), .prop 1), (.b (.v 3), .cells [.int .i64 (.v 2)] 3)]
(.ret (.w (.a (.bool (.v 7)))) [(.b (.v 0), .prop 1)]))))
theorem tree_aPlanned : tree Tryd.prog { opq := [51], keep := [7, 12, 11, 24, 25, 39, 26, 15, 6, 28, 32, 35, 37, 38, 56, 13, 54, 99999, 16], opn := true, rdf := true, peek := [51] } Tryd.f39 [.a (.ptr (.v 0) 0), .a (.int .i64 (.v 2))] [(.b (.v 0), .prop 1)] 3 = t_aPlanned := by kernel_rfl
def t_aAsk : T :=
(.new
(.call 24 [.a (.ptr (.v 0) 0)] [(.b (.v 0), .prop 1)] [.i] (.w (.a (.int .i64 (.v 4)))) [(.b (.v 0), .prop 1)]
(.new
(.read (.load 3 (.tmp 12)) 3 [(12, .w (.a (.ptr (.v 0) 4)))] [(.b (.v 0), .prop 1)] [.i] (.w (.a (.int .i64 (.v 6))))
(.br (.o2 .eq (.v 6) (.i 2))
(.read (.load 51 (.tmp 19)) 51 [(19, .w (.a (.ptr (.v 0) 20)))] [(.b (.v 0), .prop 1)] [.v] (.w (.a (.val 7)))
(.call 24 [.a (.ptr (.v 0) 0)] [(.b (.v 0), .prop 1)] [.i] (.w (.a (.int .i64 (.v 8)))) [(.b (.v 0), .prop 1)]
(.call 35 [.a (.val 7)] [(.b (.v 0), .prop 1)] [.i, .i] (.w (.agg [.int .i64 (.v 9), .int .i64 (.v 10)])) [(.b (.v 0), .prop 1)]
(.read (.load 51 (.tmp 27)) 51 [(27, .w (.a (.ptr (.v 0) 20)))] [(.b (.v 0), .prop 1)] [.v] (.w (.a (.val 11)))
(.call 32 [.a (.val 11)] [(.b (.v 0), .prop 1)] [.i] (.w (.a (.int .i64 (.v 12)))) [(.b (.v 0), .prop 1)]
(.br (.o2 .eq (.v 12) (.i 2))
(.read (.load 51 (.tmp 33)) 51 [(33, .w (.a (.ptr (.v 0) 20)))] [(.b (.v 0), .prop 1)] [.v] (.w (.a (.val 13)))
(.call 37 [.a (.val 13)] [(.b (.v 0), .prop 1)] [.a, .n, .n, .p] (.w (.a (.sl (.v 14) (.v 15) (.v 16)))) [(.a 14, .prop 17), (.b (.v 0), .prop 1)]
(.call 40 [.a (.sl (.v 14) (.v 15) (.v 16))] [(.a 14, .prop 17)] [.a, .n, .n, .p, .p] (.w (.a (.sl (.v 18) (.v 19) (.v 20)))) [(.a 18, .prop 21), (.a 14, .prop 22)]
(.ret (.w (.agg [.int .i64 (.i 0), .int .i64 (.v 2), .int .i64 (.i 0), .bool (.c false), .int .i64 (.i 7), .int .i64 (.v 4), .int .i64 (.v 8), .int .i64 (.i 0), .sl .nil (.n 0) (.n 0), .int .i64 (.v 9), .int .i64 (.v 10), .sl (.v 18) (.v 19) (.v 20), .int .i64 (.i 0), .int .i64 (.i 0), .int .i64 (.i 0), .int .i64 (.i 0)])) [(.b (.v 0), .prop 1), (.a 18, .prop 21)]))))
(.ret (.w (.agg [.int .i64 (.i 0), .int .i64 (.v 2), .int .i64 (.i 0), .bool (.c false), .int .i64 (.i 6), .int .i64 (.v 4), .int .i64 (.v 8), .int .i64 (.i 0), .sl .nil (.n 0) (.n 0), .int .i64 (.v 9), .int .i64 (.v 10), .sl .nil (.n 0) (.n 0), .int .i64 (.i 0), .int .i64 (.i 0), .int .i64 (.i 0), .int .i64 (.i 0)])) [(.b (.v 0), .prop 1)])))))))
(.ret (.w (.agg [.int .i64 (.i 0), .int .i64 (.v 2), .int .i64 (.i 0), .bool (.c false), .int .i64 (.i 4), .int .i64 (.v 4), .int .i64 (.i 0), .int .i64 (.i 0), .sl .nil (.n 0) (.n 0), .int .i64 (.i 0), .int .i64 (.i 0), .sl .nil (.n 0) (.n 0), .int .i64 (.i 0), .int .i64 (.i 0), .int .i64 (.i 0), .int .i64 (.i 0)])) [(.b (.v 0), .prop 1)]))))))
theorem tree_aAsk : tree Tryd.prog { opq := [51], keep := [7, 12, 11, 24, 25, 39, 26, 15, 6, 28, 32, 35, 37, 38, 56, 13, 54, 99999, 16], opn := true, rdf := true, peek := [51] } Tryd.f26 [.a (.ptr (.v 0) 0), .a (.int .i64 (.v 2))] [(.b (.v 0), .prop 1)] 3 = t_aAsk := by kernel_rfl
def t_aAsks1 : T :=
(.read (.load 3 (.tmp 6)) 3 [(6, .w (.a (.ptr (.v 3) 4)))] [(.b (.v 3), .prop 4)] [.i] (.w (.a (.int .i64 (.v 5))))
(.br (.o2 .eq (.v 5) (.i 4))
(.read (.load 3 (.tmp 14)) 3 [(14, .w (.a (.ptr (.v 3) 23)))] [(.b (.v 3), .prop 4)] [.i] (.w (.a (.int .i64 (.v 6))))
(.call 24 [.a (.ptr (.v 3) 0)] [(.b (.v 3), .prop 4)] [.i] (.w (.a (.int .i64 (.v 7)))) [(.b (.v 3), .prop 4)]
 (.callv 0 [.agg [.int .i64 (.i 0), .int .i64 (.i 7), .int .i64 (.i 0), .bool (.c false), .int .i64 (.i 9), .int .i64 (.v 7), .int .i64 (.v 6), .int .i64 (.i 0), .sl .nil (.n 0) (.n 0), .int .i64 (.i 0), .int .i64 (.i 0), .sl .nil (.n 0) (.n 0), .int .i64 (.i 0), .int .i64 (.i 0), .int .i64 (.i 0), .int .i64 (.i 0)]] [(.a 0, .prop 1)] [.c, .p] (.w (.a (.bool (.v 8)))) [(.a 0, .prop 9)]
(.ret (.tup []) [(.a 0, .prop 9), (.b (.v 2), .cells [.ptr (.v 3) 0] 28), (.b (.v 3), .prop 4)]))))
(.loop [.i, .p] [.e (.o1 .neg (.o1 .neg (.i 0))), .p [(.a 0, .prop 1)]]
(.br (.o2 .lt (.v 6) (.i 7))
(.call 25 [.a (.ptr (.v 3) 0), .a (.int .i64 (.v 6))] [(.b (.v 3), .prop 4)] [.c] (.w (.a (.bool (.v 8)))) [(.b (.v 3), .prop 4)]
(.br (.v 8)
(.call 26 [.a (.ptr (.v 3) 0), .a (.int .i64 (.v 6))] [(.b (.v 3), .prop 4)] [.i, .i, .i, .c, .i, .i, .i, .i, .a, .n, .n, .p, .i, .i, .a, .n, .n, .p, .i, .i, .i, .i] (.w (.agg [.int .i64 (.v 9), .int .i64 (.v 10), .int .i64 (.v 11), .bool (.v 12), .int .i64 (.v 13), .int .i64 (.v 14), .int .i64 (.v 15), .int .i64 (.v 16), .sl (.v 17) (.v 18) (.v 19), .int .i64 (.v 21), .int .i64 (.v 22), .sl (.v 23) (.v 24) (.v 25), .int .i64 (.v 27), .int .i64 (.v 28), .int .i64 (.v 29), .int .i64 (.v 30)])) [(.a 17, .prop 20), (.a 23, .prop 26), (.b (.v 3), .prop 4)]
    (.callv 0 [.agg [.int .i64 (.v 9), .int .i64 (.v 10), .int .i64 (.v 11), .bool (.v 12), .int .i64 (.v 13), .int .i64 (.v 14), .int .i64 (.v 15), .int .i64 (.v 16), .sl (.v 17) (.v 18) (.v 19), .int .i64 (.v 21), .int .i64 (.v 22), .sl (.v 23) (.v 24) (.v 25), .int .i64 (.v 27), .int .i64 (.v 28), .int .i64 (.v 29), .int .i64 (.v 30)]] [(.a 0, .prop 7), (.a 17, .prop 20), (.a 23, .prop 26)] [.c, .p] (.w (.a (.bool (.v 31)))) [(.a 0, .prop 32), (.a 17, .prop 20), (.a 23, .prop 26)]
(.br (.o1 .not (.v 31))
(.ret (.tup []) [(.a 0, .prop 32), (.b (.v 2), .cells [.ptr (.v 3) 0] 28), (.b (.v 3), .prop 4)])
(.need (.o1 (.inr .i64) (.o2 .add (.v 6) (.i 1)))
(.again 0 [.e (.o1 .neg (.o1 .neg (.o2 .add (.v 6) (.i 1)))), .p [(.a 0, .prop 32)]])))))
(.need (.o1 (.inr .i64) (.o2 .add (.v 6) (.i 1)))
(.again 0 [.e (.o1 .neg (.o1 .neg (.o2 .add (.v 6) (.i 1)))), .p [(.a 0, .prop 7)]]))))
(.ret (.tup []) [(.a 0, .prop 7), (.b (.v 2), .cells [.ptr (.v 3) 0] 28), (.b (.v 3), .prop 4)])))))
theorem tree_aAsks1 : tree Tryd.prog { opq := [51], hv := [(0, [.a 0])], keep := [7, 12, 11, 24, 25, 39, 26, 15, 6, 28, 32, 35, 37, 38, 56, 13, 54, 99999, 16], opn := true, rdf := true, peek := [51] } Tryd.f23 [.a (.val 0), .a (.ptr (.v 2) 0)] [(.a 0, .prop 1), (.b (.v 2), .cells [.ptr (.v 3) 0] 28), (.b (.v 3), .prop 4)] 5 = t_aAsks1 := by kernel_rfl
def t_aAsks : T :=
(.new
(.ret (.w (.a (.func 23 [(.v 2, 0)]))) [(.b (.v 0), .prop 1), (.b (.v 2), .cells [.ptr (.v 0) 0] 28)]))
theorem tree_aAsks : tree Tryd.prog { opq := [51], keep := [7, 12, 11, 24, 25, 39, 26, 15, 6, 28, 32, 35, 37, 38, 56, 13, 54, 99999, 16], opn := true, rdf := true, peek := [51] } Tryd.f15 [.a (.ptr (.v 0) 0)] [(.b (.v 0), .prop 1)] 2 = t_aAsks := by kernel_rfl
def t_aAsksL : T :=
(.new
(.call 15 [.a (.ptr (.v 0) 0)] [(.b (.v 0), .prop 1)] [.v, .p] (.w (.a (.val 3))) [(.a 3, .prop 4), (.b (.v 0), .prop 1)]
(.new
(.rangef (.val 3) [(.a 3, .prop 4), (.b (.v 0), .prop 1)] [] [.a, .n, .n, .p] [.a .nil, .e (.o2 .nadd (.n 0) (.n 0)), .e (.o2 .nadd (.n 0) (.n 0)), .p []] [.i, .i, .i, .c, .i, .i, .i, .i, .a, .n, .n, .p, .i, .i, .a, .n, .n, .p, .i, .i, .i, .i] [.agg [.int .i64 (.v 10), .int .i64 (.v 11), .int .i64 (.v 12), .bool (.v 13), .int .i64 (.v 14), .int .i64 (.v 15), .int .i64 (.v 16), .int .i64 (.v 17), .sl (.v 18) (.v 19) (.v 20), .int .i64 (.v 22), .int .i64 (.v 23), .sl (.v 24) (.v 25) (.v 26), .int .i64 (.v 28), .int .i64 (.v 29), .int .i64 (.v 30), .int .i64 (.v 31)]] [(.a 18, .prop 21), (.a 24, .prop 27)]
(.new
(.new
(.op (.call ⟨.builtin .append, #[.tmp 8, .tmp 10], #[40, 40]⟩) 40 [(8, .w (.a (.sl (.v 6) (.v 7) (.v 8)))), (10, .w (.a (.sl (.b (.v 33) 0) (.n 1) (.n 1))))] [(.a 6, .prop 9), (.b (.v 33), .cells [.int .i64 (.v 10), .int .i64 (.v 11), .int .i64 (.v 12), .bool (.v 13), .int .i64 (.v 14), .int .i64 (.v 15), .int .i64 (.v 16), .int .i64 (.v 17), .sl (.v 18) (.v 19) (.v 20), .int .i64 (.v 22), .int .i64 (.v 23), .sl (.v 24) (.v 25) (.v 26), .int .i64 (.v 28), .int .i64 (.v 29), .int .i64 (.v 30), .int .i64 (.v 31)] 37), (.a 18, .prop 21), (.a 24, .prop 27)] [.a, .n, .n, .p] (.w (.a (.sl (.v 34) (.v 35) (.v 36)))) [(.a 34, .prop 37), (.b (.v 33), .cells [.int .i64 (.v 10), .int .i64 (.v 11), .int .i64 (.v 12), .bool (.v 13), .int .i64 (.v 14), .int .i64 (.v 15), .int .i64 (.v 16), .int .i64 (.v 17), .sl (.v 18) (.v 19) (.v 20), .int .i64 (.v 22), .int .i64 (.v 23), .sl (.v 24) (.v 25) (.v 26), .int .i64 (.v 28), .int .i64 (.v 29), .int .i64 (.v 30), .int .i64 (.v 31)] 37), (.a 18, .prop 21), (.a 24, .prop 27)]
(.again 0 [.a (.v 34), .e (.o2 .nadd (.v 35) (.n 0)), .e (.o2 .nadd (.v 36) (.n 0)), .p [(.a 34, .prop 37)]]))))
(.ret (.w (.a (.sl (.v 6) (.v 7) (.v 8)))) [(.b (.v 0), .prop 1), (.a 6, .prop 9)])))))
theorem tree_aAsksL : tree Tryd.prog { opq := [51], hv := [(0, [.b (.v 2)])], keep := [7, 12, 11, 24, 25, 39, 26, 15, 6, 28, 32, 35, 37, 38, 56, 13, 54, 99999, 16], link := [(15, 0)], pty := [(0, [37])], opn := true, rdf := true, peek := [51] } Tryd.f6 [.a (.ptr (.v 0) 0)] [(.b (.v 0), .prop 1)] 2 = t_aAsksL := by kernel_rfl
def t_aDone : T :=
(.new
(.call 15 [.a (.ptr (.v 0) 0)] [(.b (.v 0), .prop 1)] [.v, .p] (.w (.a (.val 3))) [(.a 3, .prop 4), (.b (.v 0), .prop 1)]
(.new
(.rangef (.val 3) [(.a 3, .prop 4), (.b (.v 0), .prop 1)] [] [] [] [.i, .i, .i, .c, .i, .i, .i, .i, .a, .n, .n, .p, .i, .i, .a, .n, .n, .p, .i, .i, .i, .i] [.agg [.int .i64 (.v 6), .int .i64 (.v 7), .int .i64 (.v 8), .bool (.v 9), .int .i64 (.v 10), .int .i64 (.v 11), .int .i64 (.v 12), .int .i64 (.v 13), .sl (.v 14) (.v 15) (.v 16), .int .i64 (.v 18), .int .i64 (.v 19), .sl (.v 20) (.v 21) (.v 22), .int .i64 (.v 24), .int .i64 (.v 25), .int .i64 (.v 26), .int .i64 (.v 27)]] [(.a 14, .prop 17), (.a 20, .prop 23)]
(.ret (.w (.a (.bool (.c false)))) [(.b (.v 0), .prop 1)])
(.ret (.w (.a (.bool (.c true)))) [(.b (.v 0), .prop 1)])))))
theorem tree_aDone : tree Tryd.prog { opq := [51], keep := [7, 12, 11, 24, 25, 39, 26, 15, 6, 28, 32, 35, 37, 38, 56, 13, 54, 99999, 16], link := [(15, 0)], pty := [(0, [37])], opn := true, rdf := true, peek := [51] } Tryd.f28 [.a (.ptr (.v 0) 0)] [(.b (.v 0), .prop 1)] 2 = t_aDone := by kernel_rfl
def t_aTold1 : T :=
(.new
(.br (.o2 .eq (.v 1) (.v 23))
(.br (.o2 .eq (.v 4) (.v 27))
(.br (.o2 .eq (.v 5) (.v 28))
(.ret (.w (.a (.bool (.o2 .eq (.v 6) (.v 29))))) [(.a 8, .prop 11), (.a 14, .prop 17), (.b (.v 22), .cells [.int .i64 (.v 23), .int .i64 (.v 24), .int .i64 (.v 25), .bool (.v 26), .int .i64 (.v 27), .int .i64 (.v 28), .int .i64 (.v 29), .int .i64 (.v 30), .sl (.v 31) (.v 32) (.v 33), .int .i64 (.v 35), .int .i64 (.v 36), .sl (.v 37) (.v 38) (.v 39), .int .i64 (.v 41), .int .i64 (.v 42), .int .i64 (.v 43), .int .i64 (.v 44)] 37), (.a 31, .prop 34), (.a 37, .prop 40)])
(.ret (.w (.a (.bool (.c false)))) [(.a 8, .prop 11), (.a 14, .prop 17), (.b (.v 22), .cells [.int .i64 (.v 23), .int .i64 (.v 24), .int .i64 (.v 25), .bool (.v 26), .int .i64 (.v 27), .int .i64 (.v 28), .int .i64 (.v 29), .int .i64 (.v 30), .sl (.v 31) (.v 32) (.v 33), .int .i64 (.v 35), .int .i64 (.v 36), .sl (.v 37) (.v 38) (.v 39), .int .i64 (.v 41), .int .i64 (.v 42), .int .i64 (.v 43), .int .i64 (.v 44)] 37), (.a 31, .prop 34), (.a 37, .prop 40)]))
(.ret (.w (.a (.bool (.c false)))) [(.a 8, .prop 11), (.a 14, .prop 17), (.b (.v 22), .cells [.int .i64 (.v 23), .int .i64 (.v 24), .int .i64 (.v 25), .bool (.v 26), .int .i64 (.v 27), .int .i64 (.v 28), .int .i64 (.v 29), .int .i64 (.v 30), .sl (.v 31) (.v 32) (.v 33), .int .i64 (.v 35), .int .i64 (.v 36), .sl (.v 37) (.v 38) (.v 39), .int .i64 (.v 41), .int .i64 (.v 42), .int .i64 (.v 43), .int .i64 (.v 44)] 37), (.a 31, .prop 34), (.a 37, .prop 40)]))
(.ret (.w (.a (.bool (.c false)))) [(.a 8, .prop 11), (.a 14, .prop 17), (.b (.v 22), .cells [.int .i64 (.v 23), .int .i64 (.v 24), .int .i64 (.v 25), .bool (.v 26), .int .i64 (.v 27), .int .i64 (.v 28), .int .i64 (.v 29), .int .i64 (.v 30), .sl (.v 31) (.v 32) (.v 33), .int .i64 (.v 35), .int .i64 (.v 36), .sl (.v 37) (.v 38) (.v 39), .int .i64 (.v 41), .int .i64 (.v 42), .int .i64 (.v 43), .int .i64 (.v 44)] 37), (.a 31, .prop 34), (.a 37, .prop 40)])))
theorem tree_aTold1 : tree Tryd.prog { opq := [51], keep := [7, 12, 11, 24, 25, 39, 26, 15, 6, 28, 32, 35, 37, 38, 56, 13, 54, 99999, 16], opn := true, rdf := true, peek := [51] } Tryd.f17 [.agg [.int .i64 (.v 0), .int .i64 (.v 1), .int .i64 (.v 2), .bool (.v 3), .int .i64 (.v 4), .int .i64 (.v 5), .int .i64 (.v 6), .int .i64 (.v 7), .sl (.v 8) (.v 9) (.v 10), .int .i64 (.v 12), .int .i64 (.v 13), .sl (.v 14) (.v 15) (.v 16), .int .i64 (.v 18), .int .i64 (.v 19), .int .i64 (.v 20), .int .i64 (.v 21)], .a (.ptr (.v 22) 0)] [(.a 8, .prop 11), (.a 14, .prop 17), (.b (.v 22), .cells [.int .i64 (.v 23), .int .i64 (.v 24), .int .i64 (.v 25), .bool (.v 26), .int .i64 (.v 27), .int .i64 (.v 28), .int .i64 (.v 29), .int .i64 (.v 30), .sl (.v 31) (.v 32) (.v 33), .int .i64 (.v 35), .int .i64 (.v 36), .sl (.v 37) (.v 38) (.v 39), .int .i64 (.v 41), .int .i64 (.v 42), .int .i64 (.v 43), .int .i64 (.v 44)] 37), (.a 31, .prop 34), (.a 37, .prop 40)] 45 = t_aTold1 := by kernel_rfl
def t_aTold : T :=
(.new
(.call 6 [.a (.ptr (.v 0) 0)] [(.b (.v 0), .prop 1)] [.a, .n, .n, .p] (.w (.a (.sl (.v 25) (.v 26) (.v 27)))) [(.a 25, .prop 28), (.b (.v 0), .prop 1)]
(.call 16 [.a (.sl (.v 25) (.v 26) (.v 27)), .a (.func 17 [(.v 24, 0)])] [(.a 25, .prop 28), (.b (.v 24), .cells [.int .i64 (.v 2), .int .i64 (.v 3), .int .i64 (.v 4), .bool (.v 5), .int .i64 (.v 6), .int .i64 (.v 7), .int .i64 (.v 8), .int .i64 (.v 9), .sl (.v 10) (.v 11) (.v 12), .int .i64 (.v 14), .int .i64 (.v 15), .sl (.v 16) (.v 17) (.v 18), .int .i64 (.v 20), .int .i64 (.v 21), .int .i64 (.v 22), .int .i64 (.v 23)] 37), (.a 10, .prop 13), (.a 16, .prop 19)] [.c] (.w (.a (.bool (.v 29)))) [(.a 25, .prop 28), (.b (.v 24), .cells [.int .i64 (.v 2), .int .i64 (.v 3), .int .i64 (.v 4), .bool (.v 5), .int .i64 (.v 6), .int .i64 (.v 7), .int .i64 (.v 8), .int .i64 (.v 9), .sl (.v 10) (.v 11) (.v 12), .int .i64 (.v 14), .int .i64 (.v 15), .sl (.v 16) (.v 17) (.v 18), .int .i64 (.v 20), .int .i64 (.v 21), .int .i64 (.v 22), .int .i64 (.v 23)] 37), (.a 10, .prop 13), (.a 16, .prop 19)]
(.br (.o1 .not (.v 5))
(.ret (.tup []) [(.b (.v 0), .prop 1), (.a 10, .prop 13), (.a 16, .prop 19)])
(.br (.o1 .not (.v 29))
(.ret (.tup []) [(.b (.v 0), .prop 1), (.a 10, .prop 13), (.a 16, .prop 19)])
(.read (.load 3 (.tmp 18)) 3 [(18, .w (.a (.ptr (.v 0) 4)))] [(.b (.v 0), .prop 1)] [.i] (.w (.a (.int .i64 (.v 30))))
(.br (.o2 .eq (.v 30) (.i 1))
(.call 18 [.a (.ptr (.v 0) 0), .agg [.int .i64 (.v 2), .int .i64 (.v 3), .int .i64 (.v 4), .bool (.v 5), .int .i64 (.v 6), .int .i64 (.v 7), .int .i64 (.v 8), .int .i64 (.v 9), .sl (.v 10) (.v 11) (.v 12), .int .i64 (.v 14), .int .i64 (.v 15), .sl (.v 16) (.v 17) (.v 18), .int .i64 (.v 20), .int .i64 (.v 21), .int .i64 (.v 22), .int .i64 (.v 23)]] [(.b (.v 0), .prop 1), (.a 10, .prop 13), (.a 16, .prop 19)] [.p, .p, .p] (.tup []) [(.b (.v 0), .prop 31), (.a 10, .prop 32), (.a 16, .prop 33)]
(.ret (.tup []) [(.b (.v 0), .prop 31), (.a 10, .prop 32), (.a 16, .prop 33)]))
(.br (.o2 .eq (.v 30) (.i 2))
(.call 19 [.a (.ptr (.v 0) 0), .agg [.int .i64 (.v 2), .int .i64 (.v 3), .int .i64 (.v 4), .bool (.v 5), .int .i64 (.v 6), .int .i64 (.v 7), .int .i64 (.v 8), .int .i64 (.v 9), .sl (.v 10) (.v 11) (.v 12), .int .i64 (.v 14), .int .i64 (.v 15), .sl (.v 16) (.v 17) (.v 18), .int .i64 (.v 20), .int .i64 (.v 21), .int .i64 (.v 22), .int .i64 (.v 23)]] [(.b (.v 0), .prop 1), (.a 10, .prop 13), (.a 16, .prop 19)] [.p, .p, .p] (.tup []) [(.b (.v 0), .prop 31), (.a 10, .prop 32), (.a 16, .prop 33)]
(.ret (.tup []) [(.b (.v 0), .prop 31), (.a 10, .prop 32), (.a 16, .prop 33)]))
(.br (.o2 .eq (.v 30) (.i 3))
(.call 20 [.a (.ptr (.v 0) 0), .agg [.int .i64 (.v 2), .int .i64 (.v 3), .int .i64 (.v 4), .bool (.v 5), .int .i64 (.v 6), .int .i64 (.v 7), .int .i64 (.v 8), .int .i64 (.v 9), .sl (.v 10) (.v 11) (.v 12), .int .i64 (.v 14), .int .i64 (.v 15), .sl (.v 16) (.v 17) (.v 18), .int .i64 (.v 20), .int .i64 (.v 21), .int .i64 (.v 22), .int .i64 (.v 23)]] [(.b (.v 0), .prop 1), (.a 10, .prop 13), (.a 16, .prop 19)] [.p, .p, .p] (.tup []) [(.b (.v 0), .prop 31), (.a 10, .prop 32), (.a 16, .prop 33)]
(.ret (.tup []) [(.b (.v 0), .prop 31), (.a 10, .prop 32), (.a 16, .prop 33)]))
(.br (.o2 .eq (.v 30) (.i 4))
(.op (.store 3 (.tmp 39) (.const (.int .i64 6))) 0 [(39, .w (.a (.ptr (.v 0) 4)))] [(.b (.v 0), .prop 1)] [.p] (.tup []) [(.b (.v 0), .prop 31)]
(.br (.o2 .eq (.v 20) (.i 0))
(.op (.store 3 (.tmp 50) (.const (.int .i64 5))) 0 [(50, .w (.a (.ptr (.v 0) 4)))] [(.b (.v 0), .prop 31)] [.p] (.tup []) [(.b (.v 0), .prop 32)]
(.ret (.tup []) [(.b (.v 0), .prop 32), (.a 10, .prop 13), (.a 16, .prop 19)]))
(.br (.o2 .eq (.v 20) (.i 8))
(.op (.store 3 (.tmp 50) (.const (.int .i64 5))) 0 [(50, .w (.a (.ptr (.v 0) 4)))] [(.b (.v 0), .prop 31)] [.p] (.tup []) [(.b (.v 0), .prop 32)]
(.ret (.tup []) [(.b (.v 0), .prop 32), (.a 10, .prop 13), (.a 16, .prop 19)]))
(.ret (.tup []) [(.b (.v 0), .prop 31), (.a 10, .prop 13), (.a 16, .prop 19)]))))
(.ret (.tup []) [(.b (.v 0), .prop 1), (.a 10, .prop 13), (.a 16, .prop 19)])))))))))))
theorem tree_aTold : tree Tryd.prog { opq := [51], keep := [7, 12, 11, 24, 25, 39, 26, 15, 6, 28, 32, 35, 37, 38, 56, 13, 54, 99999, 16], opn := true, rdf := true, peek := [51] } Tryd.f8 [.a (.ptr (.v 0) 0), .agg [.int .i64 (.v 2), .int .i64 (.v 3), .int .i64 (.v 4), .bool (.v 5), .int .i64 (.v 6), .int .i64 (.v 7), .int .i64 (.v 8), .int .i64 (.v 9), .sl (.v 10) (.v 11) (.v 12), .int .i64 (.v 14), .int .i64 (.v 15), .sl (.v 16) (.v 17) (.v 18), .int .i64 (.v 20), .int .i64 (.v 21), .int .i64 (.v 22), .int .i64 (.v 23)]] [(.b (.v 0), .prop 1), (.a 10, .prop 13), (.a 16, .prop 19)] 24 = t_aTold := by kernel_rfl
def t_aSealed : T :=
(.new
(.read (.indexAddr 50 (.tmp 8) (.tmp 6)) 0 [(8, .w (.a (.ptr (.v 0) 5))), (6, .w (.a (.int .i64 (.v 2))))] [(.b (.v 0), .prop 1)] [.v] (.w (.a (.val 25)))
(.op (.store 4 (.tmp 9) (.const (.bool true))) 0 [(9, .w (.a (.val 25)))] [(.b (.v 0), .prop 1)] [.p] (.tup []) [(.b (.v 0), .prop 26)]
(.read (.indexAddr 50 (.tmp 17) (.tmp 12)) 0 [(17, .w (.a (.ptr (.v 0) 12))), (12, .w (.a (.int .i64 (.v 2))))] [(.b (.v 0), .prop 26)] [.v] (.w (.a (.val 27)))
(.op (.store 4 (.tmp 18) (.tmp 15)) 0 [(18, .w (.a (.val 27))), (15, .w (.a (.bool (.o2 .eq (.v 20) (.i 0)))))] [(.b (.v 0), .prop 26)] [.p] (.tup []) [(.b (.v 0), .prop 28)]
(.call 28 [.a (.ptr (.v 0) 0)] [(.b (.v 0), .prop 28)] [.c] (.w (.a (.bool (.v 29)))) [(.b (.v 0), .prop 28)]
(.br (.v 29)
(.call 29 [.a (.ptr (.v 0) 0)] [(.b (.v 0), .prop 28)] [.p] (.tup []) [(.b (.v 0), .prop 30)]
(.ret (.tup []) [(.b (.v 0), .prop 30), (.a 10, .prop 13), (.a 16, .prop 19)]))
(.ret (.tup []) [(.b (.v 0), .prop 28), (.a 10, .prop 13), (.a 16, .prop 19)]))))))))
theorem tree_aSealed : tree Tryd.prog { opq := [51], keep := [7, 12, 11, 24, 25, 39, 26, 15, 6, 28, 32, 35, 37, 38, 56, 13, 54, 99999, 16], opn := true, rdf := true, peek := [51] } Tryd.f18 [.a (.ptr (.v 0) 0), .agg [.int .i64 (.v 2), .int .i64 (.v 3), .int .i64 (.v 4), .bool (.v 5), .int .i64 (.v 6), .int .i64 (.v 7), .int .i64 (.v 8), .int .i64 (.v 9), .sl (.v 10) (.v 11) (.v 12), .int .i64 (.v 14), .int .i64 (.v 15), .sl (.v 16) (.v 17) (.v 18), .int .i64 (.v 20), .int .i64 (.v 21), .int .i64 (.v 22), .int .i64 (.v 23)]] [(.b (.v 0), .prop 1), (.a 10, .prop 13), (.a 16, .prop 19)] 24 = t_aSealed := by kernel_rfl
def t_aChoose : T :=
(.read (.load 50 (.tmp 9)) 50 [(9, .w (.a (.ptr (.v 0) 12)))] [(.b (.v 0), .prop 1)] [.c, .c, .c, .c, .c, .c, .c] (.w (.agg [.bool (.v 2), .bool (.v 3), .bool (.v 4), .bool (.v 5), .bool (.v 6), .bool (.v 7), .bool (.v 8)]))
(.loop [.a, .n, .n, .p, .i] [.a .nil, .e (.o2 .nadd (.n 0) (.n 0)), .e (.o2 .nadd (.n 0) (.n 0)), .p [], .e (.o1 .neg (.o1 .neg (.i 0)))]
(.br (.o2 .lt (.v 13) (.i 7))
(.read (.index 50 (.tmp 10) (.tmp 11)) 4 [(10, .w (.agg [.bool (.v 2), .bool (.v 3), .bool (.v 4), .bool (.v 5), .bool (.v 6), .bool (.v 7), .bool (.v 8)])), (11, .w (.a (.int .i64 (.v 13))))] [] [.c] (.w (.a (.bool (.v 14))))
(.br (.v 14)
(.new
(.op (.call ⟨.builtin .append, #[.tmp 16, .tmp 18], #[27, 27]⟩) 27 [(16, .w (.a (.sl (.v 9) (.v 10) (.v 11)))), (18, .w (.a (.sl (.b (.v 15) 0) (.n 1) (.n 1))))] [(.a 9, .prop 12), (.b (.v 15), .cells [.int .i64 (.v 13)] 3)] [.a, .n, .n, .p] (.w (.a (.sl (.v 16) (.v 17) (.v 18)))) [(.a 16, .prop 19), (.b (.v 15), .cells [.int .i64 (.v 13)] 3)]
(.need (.o1 (.inr .i64) (.o2 .add (.v 13) (.i 1)))
(.again 0 [.a (.v 16), .e (.o2 .nadd (.v 17) (.n 0)), .e (.o2 .nadd (.v 18) (.n 0)), .p [(.a 16, .prop 19)], .e (.o1 .neg (.o1 .neg (.o2 .add (.v 13) (.i 1))))]))))
(.need (.o1 (.inr .i64) (.o2 .add (.v 13) (.i 1)))
(.again 0 [.a (.v 9), .e (.o2 .nadd (.v 10) (.n 0)), .e (.o2 .nadd (.v 11) (.n 0)), .p [(.a 9, .prop 12)], .e (.o1 .neg (.o1 .neg (.o2 .add (.v 13) (.i 1))))]))))
(.op (.store 30 (.tmp 23) (.const (.slice none 0 0))) 0 [(23, .w (.a (.ptr (.v 0) 19)))] [(.b (.v 0), .prop 1)] [.p] (.tup []) [(.b (.v 0), .prop 14)]
(.read (.load 24 (.tmp 27)) 24 [(27, .w (.a (.ptr (.v 0) 0)))] [(.b (.v 0), .prop 14)] [.i, .a, .n, .n] (.w (.agg [.int .i64 (.v 15), .sl (.v 16) (.v 17) (.v 18)]))
(.call 41 [.agg [.int .i64 (.v 15), .sl (.v 16) (.v 17) (.v 18)], .a (.sl (.v 9) (.v 10) (.v 11))] [(.b (.v 0), .prop 14), (.a 9, .prop 12)] [.i, .a, .n, .n, .p, .i, .p, .p] (.tup [.agg [.int .i64 (.v 19), .sl (.v 20) (.v 21) (.v 22)], .a (.int .i64 (.v 24))]) [(.a 20, .prop 23), (.b (.v 0), .prop 25), (.a 9, .prop 26)]
(.new
(.br (.o2 .eq (.v 24) (.i 0))
(.call 42 [.agg [.int .i64 (.v 19), .sl (.v 20) (.v 21) (.v 22)]] [(.a 20, .prop 23)] [.a, .n, .n, .p, .p] (.w (.a (.sl (.v 28) (.v 29) (.v 30)))) [(.a 28, .prop 31), (.a 20, .prop 32)]
(.op (.store 30 (.tmp 39) (.tmp 37)) 0 [(39, .w (.a (.ptr (.v 0) 19))), (37, .w (.a (.sl (.v 28) (.v 29) (.v 30))))] [(.b (.v 0), .prop 25), (.a 28, .prop 31)] [.p] (.tup []) [(.b (.v 0), .prop 33)]
(.op (.store 3 (.tmp 42) (.const (.int .i64 2))) 0 [(42, .w (.a (.ptr (.v 0) 4)))] [(.b (.v 0), .prop 33)] [.p] (.tup []) [(.b (.v 0), .prop 34)]
(.read (.load 3 (.tmp 46)) 3 [(46, .w (.a (.ptr (.v 0) 2)))] [(.b (.v 0), .prop 34)] [.i] (.w (.a (.int .i64 (.v 35))))
(.read (.load 3 (.tmp 50)) 3 [(50, .w (.a (.ptr (.v 0) 3)))] [(.b (.v 0), .prop 34)] [.i] (.w (.a (.int .i64 (.v 36))))
(.read (.load 30 (.tmp 55)) 30 [(55, .w (.a (.ptr (.v 0) 19)))] [(.b (.v 0), .prop 34)] [.a, .n, .n] (.w (.a (.sl (.v 37) (.v 38) (.v 39))))
(.call 33 [.a (.int .i64 (.v 35)), .agg [.int .i64 (.i 1), .int .i64 (.v 36)], .a (.sl (.v 37) (.v 38) (.v 39))] [(.b (.v 0), .prop 34)] [.v, .p, .p] (.w (.a (.val 40))) [(.a 40, .prop 41), (.b (.v 0), .prop 42)]
(.op (.store 51 (.tmp 59) (.tmp 57)) 0 [(59, .w (.a (.ptr (.v 0) 20))), (57, .w (.a (.val 40)))] [(.b (.v 0), .prop 42), (.a 40, .prop 41)] [.p] (.tup []) [(.b (.v 0), .prop 43)]
(.ret (.tup []) [(.b (.v 0), .prop 43)])))))))))
(.op (.store 3 (.tmp 42) (.const (.int .i64 2))) 0 [(42, .w (.a (.ptr (.v 0) 4)))] [(.b (.v 0), .prop 25)] [.p] (.tup []) [(.b (.v 0), .prop 28)]
(.read (.load 3 (.tmp 46)) 3 [(46, .w (.a (.ptr (.v 0) 2)))] [(.b (.v 0), .prop 28)] [.i] (.w (.a (.int .i64 (.v 29))))
(.read (.load 3 (.tmp 50)) 3 [(50, .w (.a (.ptr (.v 0) 3)))] [(.b (.v 0), .prop 28)] [.i] (.w (.a (.int .i64 (.v 30))))
(.read (.load 30 (.tmp 55)) 30 [(55, .w (.a (.ptr (.v 0) 19)))] [(.b (.v 0), .prop 28)] [.a, .n, .n] (.w (.a (.sl (.v 31) (.v 32) (.v 33))))
(.call 33 [.a (.int .i64 (.v 29)), .agg [.int .i64 (.i 1), .int .i64 (.v 30)], .a (.sl (.v 31) (.v 32) (.v 33))] [(.b (.v 0), .prop 28)] [.v, .p, .p] (.w (.a (.val 34))) [(.a 34, .prop 35), (.b (.v 0), .prop 36)]
(.op (.store 51 (.tmp 59) (.tmp 57)) 0 [(59, .w (.a (.ptr (.v 0) 20))), (57, .w (.a (.val 34)))] [(.b (.v 0), .prop 36), (.a 34, .prop 35)] [.p] (.tup []) [(.b (.v 0), .prop 37)]
(.ret (.tup []) [(.b (.v 0), .prop 37)])))))))))))))))
theorem tree_aChoose : tree Tryd.prog { opq := [51], keep := [7, 12, 11, 24, 25, 39, 26, 15, 6, 28, 32, 35, 37, 38, 56, 13, 54, 99999, 16], opn := true, rdf := true, peek := [51] } Tryd.f29 [.a (.ptr (.v 0) 0)] [(.b (.v 0), .prop 1)] 2 = t_aChoose := by kernel_rfl
def t_aChose : T :=
(.new
(.br (.o2 .eq (.v 6) (.i 6))
(.read (.load 51 (.tmp 11)) 51 [(11, .w (.a (.ptr (.v 0) 20)))] [(.b (.v 0), .prop 1)] [.v] (.w (.a (.val 25)))
(.call 30 [.a (.val 25), .a (.int .i64 (.v 2)), .agg [.int .i64 (.v 14), .int .i64 (.v 15)], .a (.sl (.v 16) (.v 17) (.v 18)), .a (.int .i64 (.v 20))] [(.b (.v 0), .prop 1), (.a 16, .prop 19)] [.p, .p] (.tup []) [(.b (.v 0), .prop 26), (.a 16, .prop 27)]
(.read (.load 51 (.tmp 33)) 51 [(33, .w (.a (.ptr (.v 0) 20)))] [(.b (.v 0), .prop 26)] [.v] (.w (.a (.val 28)))
(.call 32 [.a (.val 28)] [(.b (.v 0), .prop 26)] [.i] (.w (.a (.int .i64 (.v 29)))) [(.b (.v 0), .prop 26)]
(.br (.o2 .eq (.v 29) (.i 4))
(.read (.load 3 (.tmp 41)) 3 [(41, .w (.a (.ptr (.v 0) 2)))] [(.b (.v 0), .prop 26)] [.i] (.w (.a (.int .i64 (.v 30))))
(.read (.load 51 (.tmp 45)) 51 [(45, .w (.a (.ptr (.v 0) 20)))] [(.b (.v 0), .prop 26)] [.v] (.w (.a (.val 31)))
(.read (.load 3 (.tmp 50)) 3 [(50, .w (.a (.ptr (.v 0) 3)))] [(.b (.v 0), .prop 26)] [.i] (.w (.a (.int .i64 (.v 32))))
(.read (.load 30 (.tmp 55)) 30 [(55, .w (.a (.ptr (.v 0) 19)))] [(.b (.v 0), .prop 26)] [.a, .n, .n] (.w (.a (.sl (.v 33) (.v 34) (.v 35))))
(.call 35 [.a (.val 31)] [(.b (.v 0), .prop 26)] [.i, .i] (.w (.agg [.int .i64 (.v 36), .int .i64 (.v 37)])) [(.b (.v 0), .prop 26)]
(.call 34 [.agg [.int .i64 (.v 36), .int .i64 (.v 37)], .a (.int .i64 (.v 32))] [] [.i, .i] (.w (.agg [.int .i64 (.v 38), .int .i64 (.v 39)])) []
(.call 33 [.a (.int .i64 (.v 30)), .agg [.int .i64 (.v 38), .int .i64 (.v 39)], .a (.sl (.v 33) (.v 34) (.v 35))] [(.b (.v 0), .prop 26)] [.v, .p, .p] (.w (.a (.val 40))) [(.a 40, .prop 41), (.b (.v 0), .prop 42)]
(.op (.store 51 (.tmp 59) (.tmp 57)) 0 [(59, .w (.a (.ptr (.v 0) 20))), (57, .w (.a (.val 40)))] [(.b (.v 0), .prop 42), (.a 40, .prop 41)] [.p] (.tup []) [(.b (.v 0), .prop 43)]
(.ret (.tup []) [(.b (.v 0), .prop 43), (.a 10, .prop 13), (.a 16, .prop 27)])))))))))
(.br (.o2 .eq (.v 29) (.i 3))
(.read (.load 51 (.tmp 65)) 51 [(65, .w (.a (.ptr (.v 0) 20)))] [(.b (.v 0), .prop 26)] [.v] (.w (.a (.val 30)))
(.call 37 [.a (.val 30)] [(.b (.v 0), .prop 26)] [.a, .n, .n, .p] (.w (.a (.sl (.v 31) (.v 32) (.v 33)))) [(.a 31, .prop 34), (.b (.v 0), .prop 26)]
(.call 36 [.a (.sl (.v 31) (.v 32) (.v 33))] [(.a 31, .prop 34)] [.i, .a, .n, .n, .p, .i, .p] (.tup [.agg [.int .i64 (.v 35), .sl (.v 36) (.v 37) (.v 38)], .a (.int .i64 (.v 40))]) [(.a 36, .prop 39), (.a 31, .prop 41)]
(.new
(.join [.c]
(.br (.o1 .not (.o2 .eq (.v 40) (.i 0)))
(.again 0 [.e (.o1 .not (.o1 .not (.c true)))])
(.call 24 [.a (.ptr (.v 0) 0)] [(.b (.v 0), .prop 26)] [.i] (.w (.a (.int .i64 (.v 43)))) [(.b (.v 0), .prop 26)]
(.again 0 [.e (.o1 .not (.o1 .not (.o1 .not (.o2 .eq (.v 35) (.v 43)))))])))
(.br (.v 43)
(.op (.store 3 (.tmp 82) (.const (.int .i64 6))) 0 [(82, .w (.a (.ptr (.v 0) 4)))] [(.b (.v 0), .prop 26)] [.p] (.tup []) [(.b (.v 0), .prop 44)]
(.ret (.tup []) [(.b (.v 0), .prop 44), (.a 10, .prop 13), (.a 16, .prop 27)]))
(.op (.store 24 (.tmp 87) (.tmp 85)) 0 [(87, .w (.a (.ptr (.v 0) 21))), (85, .w (.agg [.int .i64 (.v 35), .sl (.v 36) (.v 37) (.v 38)]))] [(.b (.v 0), .prop 26), (.a 36, .prop 39)] [.p] (.tup []) [(.b (.v 0), .prop 44), (.a 36, .prop 39)]
(.op (.store 3 (.tmp 89) (.const (.int .i64 3))) 0 [(89, .w (.a (.ptr (.v 0) 4)))] [(.b (.v 0), .prop 44)] [.p] (.tup []) [(.b (.v 0), .prop 45)]
(.op (.store 50 (.tmp 93) (.tmp 91)) 0 [(93, .w (.a (.ptr (.v 0) 5))), (91, .w (.agg [.bool (.c false), .bool (.c false), .bool (.c false), .bool (.c false), .bool (.c false), .bool (.c false), .bool (.c false)]))] [(.b (.v 0), .prop 45)] [.p] (.tup []) [(.b (.v 0), .prop 46)]
(.ret (.tup []) [(.b (.v 0), .prop 46), (.a 10, .prop 13), (.a 16, .prop 27)]))))))))))
(.ret (.tup []) [(.b (.v 0), .prop 26), (.a 10, .prop 13), (.a 16, .prop 27)])))))))
(.read (.load 51 (.tmp 24)) 51 [(24, .w (.a (.ptr (.v 0) 20)))] [(.b (.v 0), .prop 1)] [.v] (.w (.a (.val 25)))
(.call 31 [.a (.val 25), .a (.int .i64 (.v 2)), .a (.int .i64 (.v 20))] [(.b (.v 0), .prop 1)] [.p] (.tup []) [(.b (.v 0), .prop 26)]
(.read (.load 51 (.tmp 33)) 51 [(33, .w (.a (.ptr (.v 0) 20)))] [(.b (.v 0), .prop 26)] [.v] (.w (.a (.val 27)))
(.call 32 [.a (.val 27)] [(.b (.v 0), .prop 26)] [.i] (.w (.a (.int .i64 (.v 28)))) [(.b (.v 0), .prop 26)]
(.br (.o2 .eq (.v 28) (.i 4))
(.read (.load 3 (.tmp 41)) 3 [(41, .w (.a (.ptr (.v 0) 2)))] [(.b (.v 0), .prop 26)] [.i] (.w (.a (.int .i64 (.v 29))))
(.read (.load 51 (.tmp 45)) 51 [(45, .w (.a (.ptr (.v 0) 20)))] [(.b (.v 0), .prop 26)] [.v] (.w (.a (.val 30)))
(.read (.load 3 (.tmp 50)) 3 [(50, .w (.a (.ptr (.v 0) 3)))] [(.b (.v 0), .prop 26)] [.i] (.w (.a (.int .i64 (.v 31))))
(.read (.load 30 (.tmp 55)) 30 [(55, .w (.a (.ptr (.v 0) 19)))] [(.b (.v 0), .prop 26)] [.a, .n, .n] (.w (.a (.sl (.v 32) (.v 33) (.v 34))))
(.call 35 [.a (.val 30)] [(.b (.v 0), .prop 26)] [.i, .i] (.w (.agg [.int .i64 (.v 35), .int .i64 (.v 36)])) [(.b (.v 0), .prop 26)]
(.call 34 [.agg [.int .i64 (.v 35), .int .i64 (.v 36)], .a (.int .i64 (.v 31))] [] [.i, .i] (.w (.agg [.int .i64 (.v 37), .int .i64 (.v 38)])) []
(.call 33 [.a (.int .i64 (.v 29)), .agg [.int .i64 (.v 37), .int .i64 (.v 38)], .a (.sl (.v 32) (.v 33) (.v 34))] [(.b (.v 0), .prop 26)] [.v, .p, .p] (.w (.a (.val 39))) [(.a 39, .prop 40), (.b (.v 0), .prop 41)]
(.op (.store 51 (.tmp 59) (.tmp 57)) 0 [(59, .w (.a (.ptr (.v 0) 20))), (57, .w (.a (.val 39)))] [(.b (.v 0), .prop 41), (.a 39, .prop 40)] [.p] (.tup []) [(.b (.v 0), .prop 42)]
(.ret (.tup []) [(.b (.v 0), .prop 42), (.a 10, .prop 13), (.a 16, .prop 19)])))))))))
(.br (.o2 .eq (.v 28) (.i 3))
(.read (.load 51 (.tmp 65)) 51 [(65, .w (.a (.ptr (.v 0) 20)))] [(.b (.v 0), .prop 26)] [.v] (.w (.a (.val 29)))
(.call 37 [.a (.val 29)] [(.b (.v 0), .prop 26)] [.a, .n, .n, .p] (.w (.a (.sl (.v 30) (.v 31) (.v 32)))) [(.a 30, .prop 33), (.b (.v 0), .prop 26)]
(.call 36 [.a (.sl (.v 30) (.v 31) (.v 32))] [(.a 30, .prop 33)] [.i, .a, .n, .n, .p, .i, .p] (.tup [.agg [.int .i64 (.v 34), .sl (.v 35) (.v 36) (.v 37)], .a (.int .i64 (.v 39))]) [(.a 35, .prop 38), (.a 30, .prop 40)]
(.new
(.join [.c]
(.br (.o1 .not (.o2 .eq (.v 39) (.i 0)))
(.again 0 [.e (.o1 .not (.o1 .not (.c true)))])
(.call 24 [.a (.ptr (.v 0) 0)] [(.b (.v 0), .prop 26)] [.i] (.w (.a (.int .i64 (.v 42)))) [(.b (.v 0), .prop 26)]
(.again 0 [.e (.o1 .not (.o1 .not (.o1 .not (.o2 .eq (.v 34) (.v 42)))))])))
(.br (.v 42)
(.op (.store 3 (.tmp 82) (.const (.int .i64 6))) 0 [(82, .w (.a (.ptr (.v 0) 4)))] [(.b (.v 0), .prop 26)] [.p] (.tup []) [(.b (.v 0), .prop 43)]
(.ret (.tup []) [(.b (.v 0), .prop 43), (.a 10, .prop 13), (.a 16, .prop 19)]))
(.op (.store 24 (.tmp 87) (.tmp 85)) 0 [(87, .w (.a (.ptr (.v 0) 21))), (85, .w (.agg [.int .i64 (.v 34), .sl (.v 35) (.v 36) (.v 37)]))] [(.b (.v 0), .prop 26), (.a 35, .prop 38)] [.p] (.tup []) [(.b (.v 0), .prop 43), (.a 35, .prop 38)]
(.op (.store 3 (.tmp 89) (.const (.int .i64 3))) 0 [(89, .w (.a (.ptr (.v 0) 4)))] [(.b (.v 0), .prop 43)] [.p] (.tup []) [(.b (.v 0), .prop 44)]
(.op (.store 50 (.tmp 93) (.tmp 91)) 0 [(93, .w (.a (.ptr (.v 0) 5))), (91, .w (.agg [.bool (.c false), .bool (.c false), .bool (.c false), .bool (.c false), .bool (.c false), .bool (.c false), .bool (.c false)]))] [(.b (.v 0), .prop 44)] [.p] (.tup []) [(.b (.v 0), .prop 45)]
(.ret (.tup []) [(.b (.v 0), .prop 45), (.a 10, .prop 13), (.a 16, .prop 19)]))))))))))
(.ret (.tup []) [(.b (.v 0), .prop 26), (.a 10, .prop 13), (.a 16, .prop 19)])))))))))
theorem tree_aChose : tree Tryd.prog { opq := [51], keep := [7, 12, 11, 24, 25, 39, 26, 15, 6, 28, 32, 35, 37, 38, 56, 13, 54, 99999, 16], opn := true, rdf := true, peek := [51], jn := [((71, 43), some { ss := [.c], n := 44, tv := [(71, none), (72, none), (73, none), (74, none), (75, none), (76, none), (77, none), (78, none), (79, some (.w (.a (.bool (.v 43)))))], h := [(.b (.v 42), .cells [.int .i64 (.v 35), .sl (.v 36) (.v 37) (.v 38)] 24), (.a 36, .prop 39), (.a 31, .prop 41), (.b (.v 0), .prop 26), (.a 16, .prop 27), (.b (.v 24), .cells [.int .i64 (.v 2), .int .i64 (.v 3), .int .i64 (.v 4), .bool (.v 5), .int .i64 (.v 6), .int .i64 (.v 7), .int .i64 (.v 8), .int .i64 (.v 9), .sl (.v 10) (.v 11) (.v 12), .int .i64 (.v 14), .int .i64 (.v 15), .sl (.v 16) (.v 17) (.v 18), .int .i64 (.v 20), .int .i64 (.v 21), .int .i64 (.v 22), .int .i64 (.v 23)] 37), (.a 10, .prop 13)], lk := [] }), ((71, 42), some { ss := [.c], n := 43, tv := [(71, none), (72, none), (73, none), (74, none), (75, none), (76, none), (77, none), (78, none), (79, some (.w (.a (.bool (.v 42)))))], h := [(.b (.v 41), .cells [.int .i64 (.v 34), .sl (.v 35) (.v 36) (.v 37)] 24), (.a 35, .prop 38), (.a 30, .prop 40), (.b (.v 0), .prop 26), (.b (.v 24), .cells [.int .i64 (.v 2), .int .i64 (.v 3), .int .i64 (.v 4), .bool (.v 5), .int .i64 (.v 6), .int .i64 (.v 7), .int .i64 (.v 8), .int .i64 (.v 9), .sl (.v 10) (.v 11) (.v 12), .int .i64 (.v 14), .int .i64 (.v 15), .sl (.v 16) (.v 17) (.v 18), .int .i64 (.v 20), .int .i64 (.v 21), .int .i64 (.v 22), .int .i64 (.v 23)] 37), (.a 10, .prop 13), (.a 16, .prop 19)], lk := [] })] } Tryd.f19 [.a (.ptr (.v 0) 0), .agg [.int .i64 (.v 2), .int .i64 (.v 3), .int .i64 (.v 4), .bool (.v 5), .int .i64 (.v 6), .int .i64 (.v 7), .int .i64 (.v 8), .int .i64 (.v 9), .sl (.v 10) (.v 11) (.v 12), .int .i64 (.v 14), .int .i64 (.v 15), .sl (.v 16) (.v 17) (.v 18), .int .i64 (.v 20), .int .i64 (.v 21), .int .i64 (.v 22), .int .i64 (.v 23)]] [(.b (.v 0), .prop 1), (.a 10, .prop 13), (.a 16, .prop 19)] 24 = t_aChose := by kernel_rfl
def t_aTell : T :=
(.new
(.br (.o2 .eq (.v 20) (.i 0))
(.read (.load 3 (.tmp 11)) 3 [(11, .w (.a (.ptr (.v 0) 23)))] [(.b (.v 0), .prop 1)] [.i] (.w (.a (.int .i64 (.v 25))))
(.read (.call ⟨.builtin .max, #[.tmp 12, .tmp 14, .tmp 16], #[3, 3, 3]⟩) 3 [(12, .w (.a (.int .i64 (.v 25)))), (14, .w (.a (.int .i64 (.v 21)))), (16, .w (.a (.int .i64 (.v 22))))] [] [.i] (.w (.a (.int .i64 (.v 26))))
(.op (.store 3 (.tmp 19) (.tmp 17)) 0 [(19, .w (.a (.ptr (.v 0) 23))), (17, .w (.a (.int .i64 (.v 26))))] [(.b (.v 0), .prop 1)] [.p] (.tup []) [(.b (.v 0), .prop 27)]
(.read (.indexAddr 50 (.tmp 38) (.tmp 36)) 0 [(38, .w (.a (.ptr (.v 0) 5))), (36, .w (.a (.int .i64 (.v 2))))] [(.b (.v 0), .prop 27)] [.v] (.w (.a (.val 28)))
(.op (.store 4 (.tmp 39) (.const (.bool true))) 0 [(39, .w (.a (.val 28)))] [(.b (.v 0), .prop 27)] [.p] (.tup []) [(.b (.v 0), .prop 29)]
(.call 28 [.a (.ptr (.v 0) 0)] [(.b (.v 0), .prop 29)] [.c] (.w (.a (.bool (.v 30)))) [(.b (.v 0), .prop 29)]
(.br (.v 30)
(.op (.store 3 (.tmp 44) (.const (.int .i64 4))) 0 [(44, .w (.a (.ptr (.v 0) 4)))] [(.b (.v 0), .prop 29)] [.p] (.tup []) [(.b (.v 0), .prop 31)]
(.ret (.tup []) [(.b (.v 0), .prop 31), (.a 10, .prop 13), (.a 16, .prop 19)]))
(.ret (.tup []) [(.b (.v 0), .prop 29), (.a 10, .prop 13), (.a 16, .prop 19)]))))))))
(.join [.c]
(.br (.o1 .not (.o2 .eq (.v 20) (.i 8)))
(.again 0 [.e (.o1 .not (.o1 .not (.c true)))])
(.call 24 [.a (.ptr (.v 0) 0)] [(.b (.v 0), .prop 1)] [.i] (.w (.a (.int .i64 (.v 25)))) [(.b (.v 0), .prop 1)]
(.again 0 [.e (.o1 .not (.o1 .not (.o2 .le (.v 23) (.v 25))))])))
(.br (.v 25)
(.op (.store 3 (.tmp 33) (.const (.int .i64 6))) 0 [(33, .w (.a (.ptr (.v 0) 4)))] [(.b (.v 0), .prop 1)] [.p] (.tup []) [(.b (.v 0), .prop 26)]
(.ret (.tup []) [(.b (.v 0), .prop 26), (.a 10, .prop 13), (.a 16, .prop 19)]))
(.read (.indexAddr 50 (.tmp 38) (.tmp 36)) 0 [(38, .w (.a (.ptr (.v 0) 5))), (36, .w (.a (.int .i64 (.v 2))))] [(.b (.v 0), .prop 1)] [.v] (.w (.a (.val 26)))
(.op (.store 4 (.tmp 39) (.const (.bool true))) 0 [(39, .w (.a (.val 26)))] [(.b (.v 0), .prop 1)] [.p] (.tup []) [(.b (.v 0), .prop 27)]
(.call 28 [.a (.ptr (.v 0) 0)] [(.b (.v 0), .prop 27)] [.c] (.w (.a (.bool (.v 28)))) [(.b (.v 0), .prop 27)]
(.br (.v 28)
(.op (.store 3 (.tmp 44) (.const (.int .i64 4))) 0 [(44, .w (.a (.ptr (.v 0) 4)))] [(.b (.v 0), .prop 27)] [.p] (.tup []) [(.b (.v 0), .prop 29)]
(.ret (.tup []) [(.b (.v 0), .prop 29), (.a 10, .prop 13), (.a 16, .prop 19)]))
(.ret (.tup []) [(.b (.v 0), .prop 27), (.a 10, .prop 13), (.a 16, .prop 19)])))))))))
theorem tree_aTell : tree Tryd.prog { opq := [51], keep := [7, 12, 11, 24, 25, 39, 26, 15, 6, 28, 32, 35, 37, 38, 56, 13, 54, 99999, 16], opn := true, rdf := true, peek := [51], jn := [((21, 25), some { ss := [.c], n := 26, tv := [(21, none), (22, none), (23, none), (24, none), (25, none), (26, none), (27, none), (28, none), (29, none), (30, none), (20, some (.w (.a (.bool (.v 25)))))], h := [(.b (.v 24), .cells [.int .i64 (.v 2), .int .i64 (.v 3), .int .i64 (.v 4), .bool (.v 5), .int .i64 (.v 6), .int .i64 (.v 7), .int .i64 (.v 8), .int .i64 (.v 9), .sl (.v 10) (.v 11) (.v 12), .int .i64 (.v 14), .int .i64 (.v 15), .sl (.v 16) (.v 17) (.v 18), .int .i64 (.v 20), .int .i64 (.v 21), .int .i64 (.v 22), .int .i64 (.v 23)] 37), (.b (.v 0), .prop 1), (.a 10, .prop 13), (.a 16, .prop 19)], lk := [] })] } Tryd.f20 [.a (.ptr (.v 0) 0), .agg [.int .i64 (.v 2), .int .i64 (.v 3), .int .i64 (.v 4), .bool (.v 5), .int .i64 (.v 6), .int .i64 (.v 7), .int .i64 (.v 8), .int .i64 (.v 9), .sl (.v 10) (.v 11) (.v 12), .int .i64 (.v 14), .int .i64 (.v 15), .sl (.v 16) (.v 17) (.v 18), .int .i64 (.v 20), .int .i64 (.v 21), .int .i64 (.v 22), .int .i64 (.v 23)]] [(.b (.v 0), .prop 1), (.a 10, .prop 13), (.a 16, .prop 19)] 24 = t_aTell := by kernel_rfl
end Go.Proofs.YtbmajijnjkicmaaDoor.RX



namespace Go.Proofs.YtbmajijnjkicmaaDoor
set_option linter.unusedSimpArgs false
set_option linter.unusedVariables false
open Go.Proofs.YtbmajijnjkicmaaDoor RX
set_option maxRecDepth 100000

structure AdvS where
  old : PlP
  units : Int
  who : Int
  st : Int
  rep : Nat → Bool
  there : Nat → Bool
  own : List UInt8
  prop : Option BSt
  plan : PlP
  tail : Int
structure ARw where
  oa : Option Addr
  oc : Nat
  oes : List ChE
  wa : Option Addr
  wc : Nat
  pv : Option Addr
  pa : Option Addr
  pc : Nat
  pes : List ChE
def advL (g : AdvS) (r : ARw) : List Value := [.int .i64 g.old.ep, .slice r.oa r.oes.length r.oc, .int .i64 g.units, .int .i64 g.who, .int .i64 g.st] ++ (bl7 g.rep ++ (bl7 g.there ++ [.slice r.wa g.own.length r.wc, .pointer r.pv, .int .i64 g.plan.ep, .slice r.pa r.pes.length r.pc, .int .i64 g.tail]))
theorem advL_len (g : AdvS) (r : ARw) : (advL g r).length = 24 := by simp [advL, bl7_len]
theorem advL_rep (g : AdvS) (r : ARw) {k : Nat} (h : k < 7) : (advL g r)[5 + k]? = some (.bool (g.rep k)) := by
  unfold advL
  rw [List.getElem?_append_right (by simp), List.getElem?_append_left (by rw [bl7_len]; simp; omega)]
  rw [← bl7_get g.rep h]; congr 1; simp
theorem advL_there (g : AdvS) (r : ARw) {k : Nat} (h : k < 7) : (advL g r)[12 + k]? = some (.bool (g.there k)) := by
  unfold advL
  rw [List.getElem?_append_right (by simp; omega), List.getElem?_append_right (by rw [bl7_len]; simp; omega), List.getElem?_append_left (by rw [bl7_len, bl7_len]; simp; omega)]
  rw [← bl7_get g.there h]; congr 1; rw [bl7_len]; simp; omega
theorem advL_set_rep (g : AdvS) (r : ARw) {k : Nat} (h : k < 7) (b : Bool) : (advL g r).set (5 + k) (.bool b) = advL { g with rep := put7 g.rep k b } r := by
  unfold advL
  rw [List.set_append_right _ _ (by simp), List.set_append_left _ _ (by rw [bl7_len]; simp; omega)]
  simp only [List.length_cons, List.length_nil, Nat.zero_add, Nat.add_sub_cancel_left]
  rw [bl7_set _ h]
theorem advL_set_there (g : AdvS) (r : ARw) {k : Nat} (h : k < 7) (b : Bool) : (advL g r).set (12 + k) (.bool b) = advL { g with there := put7 g.there k b } r := by
  unfold advL
  rw [List.set_append_right _ _ (by simp; omega), List.set_append_right _ _ (by rw [bl7_len]; simp; omega), List.set_append_left _ _ (by rw [bl7_len, bl7_len]; simp; omega)]
  rw [bl7_len]
  simp only [List.length_cons, List.length_nil]
  rw [show 12 + k - (0 + 1 + 1 + 1 + 1 + 1) - 7 = k by omega, bl7_set _ h]
def PropR (pv : Option Addr) : Option BSt → HP
  | none => HP.pure (pv = none)
  | some s => HP.ex fun pb => HP.and (pv = some ⟨pb, 0, none⟩) (BRep pb s)
def ARo (g : AdvS) (r : ARw) : HP := HP.both (Ls kCh r.oa r.oes.length r.oes) (HP.both (RoB r.wa g.own.length g.own) (Ls kCh r.pa r.pes.length r.pes))
structure ROk (g : AdvS) (r : ARw) : Prop where
  o : r.oes.map (·.l) = g.old.ch
  p : r.pes.map (·.l) = g.plan.ch
  ob : r.oes.length ≤ 1000 ∧ ∀ x ∈ r.oes, x.l.length ≤ 1000000
  pb : r.pes.length ≤ 1000 ∧ ∀ x ∈ r.pes, x.l.length ≤ 1000000
  wb : g.own.length ≤ 1000000
def AOne (b : Nat) (g : AdvS) (r : ARw) : HP := HP.one b (.cells (advL g r).toArray 53 (0, 0))
def ARepR (b : Nat) (g : AdvS) (r : ARw) : HP := HP.and (ROk g r) (HP.sep (AOne b g r) (HP.sep (PropR r.pv g.prop) (ARo g r)))
def ARep (b : Nat) (g : AdvS) : HP := HP.ex fun r => ARepR b g r
theorem ARo.pers {g : AdvS} {r : ARw} {R h : PH} (h' : PH) (H : (ARo g r).p R h) : (ARo g r).p R h' := ⟨Ls.pers h' H.1, H.2.1, Ls.pers h' H.2.2⟩
section
variable {b : Nat} {g : AdvS} {r : ARw}
theorem ARepR.ro {R h : PH} (H : (ARepR b g r).p R h) : (ARo g r).p R h := HP.sep_right (HP.sep_right H.2)
theorem aLd1 {t : TypeId} {d : TypeDesc} (hd : Tryd.prog.underlying t = some d) (ha : aggT Tryd.prog t = false) (hz : szT Tryd.prog t = 1) {k : Nat} {v : Value} (hk : (advL g r)[k]? = some v) :
    ORead Tryd.prog (loadS t (.pointer (some ⟨b, k, none⟩))) (ARepR b g r) v :=
  ORead.ent (.of fun R h H => H.2) (ldB1 (Q := HP.sep (PropR r.pv g.prop) (ARo g r)) hd ha hz (by simpa using hk))
theorem aLdI {k : Nat} {x : Int} (hk : (advL g r)[k]? = some (.int .i64 x)) : ORead Tryd.prog (loadS 3 (.pointer (some ⟨b, k, none⟩))) (ARepR b g r) (.int .i64 x) := aLd1 undIb aggI szI hk
theorem aLdPl {k : Nat} {x y : Value} (hk : (advL g r)[k]? = some x) (hk2 : (advL g r)[k + 1]? = some y) : ORead Tryd.prog (loadS 24 (.pointer (some ⟨b, k, none⟩))) (ARepR b g r) (.agg #[x, y]) := by
  obtain ⟨d, hd⟩ : ∃ d, Tryd.prog.underlying 24 = some d := Option.isSome_iff_exists.1 (by kernel_rfl)
  refine ORead.ent (.of fun R h H => H.2) (ldBN (Q := HP.sep (PropR r.pv g.prop) (ARo g r)) (vs := [x, y]) hd (by kernel_rfl) (by kernel_rfl) (by simp) fun j v hj => ?_)
  match j with
  | 0 => simp at hj; subst hj; simpa using hk
  | 1 => simp at hj; subst hj; simpa using hk2
  | j + 2 => simp at hj
theorem undPp : Tryd.prog.underlying 51 = some (.pointer 77) := by kernel_rfl
theorem aggPp : aggT Tryd.prog 51 = false := by kernel_rfl
theorem szPp : szT Tryd.prog 51 = 1 := by kernel_rfl
theorem aLdP : ORead Tryd.prog (loadS 51 (.pointer (some ⟨b, 20, none⟩))) (ARepR b g r) (oneC (.pointer r.pv)) := aLd1 undPp aggPp szPp rfl
theorem aLdW : ORead Tryd.prog (loadS 30 (.pointer (some ⟨b, 19, none⟩))) (ARepR b g r) (.slice r.wa g.own.length r.wc) := aLd1 und8 agg8s sz8s rfl
theorem aLdC {k : Nat} {v : Value} (hk : (advL g r)[k]? = some v) : ORead Tryd.prog (loadS 22 (.pointer (some ⟨b, k, none⟩))) (ARepR b g r) v := aLd1 undIs (by kernel_rfl) (by kernel_rfl) hk
theorem aLdRep {k : Nat} (h : k < 7) : ORead Tryd.prog (loadS 4 (.pointer (some ⟨b, 5 + k, none⟩))) (ARepR b g r) (.bool (g.rep k)) := aLd1 undBo aggBo szBo (advL_rep g r h)
theorem aSt {t : TypeId} {i : TypeInfo} (hi : Tryd.prog.info? t = some i) (hz : i.size = 1) {k : Nat} (hk : k < 24) {x : Value} (hx : x.cells = #[x]) (h1 : x.oneCell' = true) {g' : AdvS} {r' : ARw} (hset : (advL g r).set k x = advL g' r') (hok : ROk g r → ROk g' r') (Q : HP)
    (hrest : ∀ R h, ROk g r → (HP.sep (HP.sep (PropR r.pv g.prop) (ARo g r)) Q).p R h → (HP.sep (PropR r'.pv g'.prop) (ARo g' r')).p R h) :
    OTri Tryd.prog (storeS t (.pointer (some ⟨b, k, none⟩)) x) (HP.sep (ARepR b g r) Q) (fun v => HP.and (v = .tuple #[]) (ARepR b g' r')) := by
  refine OTri.fact (φ := ROk g r) (fun R h H => (HP.sep_left H).1) fun hro => ?_
  refine (stB1 (cs' := (advL g' r').toArray) (e := 53) hi hz (k := k) (cs := (advL g r).toArray) hx h1 (by simp [advL_len]; exact hk) (by rw [← hset]; simp) (HP.sep (HP.sep (PropR r.pv g.prop) (ARo g r)) Q)).weak (fun R h H => HP.sep_assoc (HP.sep_mono H (fun _ h => h.2) fun _ h => h)) ?_
  rintro v R h ⟨e, H⟩
  exact ⟨e, hok hro, HP.sep_mono H (fun _ h => h) fun y hy => hrest R y hro hy⟩
theorem aSt0 {t : TypeId} {i : TypeInfo} (hi : Tryd.prog.info? t = some i) (hz : i.size = 1) {k : Nat} (hk : k < 24) {x : Value} (hx : x.cells = #[x]) (h1 : x.oneCell' = true) {g' : AdvS} (hset : (advL g r).set k x = advL g' r) (hok : ROk g r → ROk g' r) (hp : g'.prop = g.prop) (hw : g'.own = g.own) :
    OTri Tryd.prog (storeS t (.pointer (some ⟨b, k, none⟩)) x) (ARepR b g r) (fun v => HP.and (v = .tuple #[]) (ARepR b g' r)) :=
  (aSt (Q := HP.tt) hi hz hk hx h1 hset hok (fun R h _ H => by
    have := HP.sep_left H
    unfold ARo at *
    rw [hp, hw]; exact this)).weak (fun R h H => HP.sep_tt H) fun _ _ _ h => h
theorem aStI {k : Nat} (hk : k < 24) {x : Int} {g' : AdvS} (hset : (advL g r).set k (.int .i64 x) = advL g' r) (ho : g'.old = g.old) (hpl : g'.plan.ch = g.plan.ch) (hp : g'.prop = g.prop) (hw : g'.own = g.own) :
    OTri Tryd.prog (storeS 3 (.pointer (some ⟨b, k, none⟩)) (.int .i64 x)) (ARepR b g r) (fun v => HP.and (v = .tuple #[]) (ARepR b g' r)) := by
  obtain ⟨i, hi, z1, z2, z3⟩ := info_parts infoInt
  exact aSt0 hi z2 hk rfl rfl hset (fun h => ⟨by rw [ho]; exact h.o, by rw [hpl]; exact h.p, h.ob, h.pb, by rw [hw]; exact h.wb⟩) hp hw
theorem aStB {k : Nat} (hk : k < 24) {x : Bool} {g' : AdvS} (hset : (advL g r).set k (.bool x) = advL g' r) (ho : g'.old = g.old) (hpl : g'.plan = g.plan) (hp : g'.prop = g.prop) (hw : g'.own = g.own) :
    OTri Tryd.prog (storeS 4 (.pointer (some ⟨b, k, none⟩)) (.bool x)) (ARepR b g r) (fun v => HP.and (v = .tuple #[]) (ARepR b g' r)) := by
  obtain ⟨i, hi, z1, z2, z3⟩ := info_parts infoBo
  exact aSt0 hi z2 hk rfl rfl hset (fun h => ⟨by rw [ho]; exact h.o, by rw [hpl]; exact h.p, h.ob, h.pb, by rw [hw]; exact h.wb⟩) hp hw
theorem prop_tri {f : FuncId} {args : Value → Array Value} {s : BSt} {B : Value → HP} {K : HP} (hp : g.prop = some s) (t : ∀ pb, Tri Tryd.prog f (args (.pointer (some ⟨pb, 0, none⟩))) (HP.sep (BRep pb s) K) (fun v => HP.sep (B v) (BRep pb s))) :
    Tri Tryd.prog f (args (oneC (.pointer r.pv))) (HP.sep (ARepR b g r) K) (fun v => HP.sep (B v) (ARepR b g r)) := by
  refine (Tri.ex (A := fun pb => HP.and (r.pv = some ⟨pb, 0, none⟩ ∧ ROk g r) (HP.sep (HP.sep (BRep pb s) K) (HP.sep (AOne b g r) (ARo g r)))) fun pb => Tri.pure fun ⟨e, hok⟩ => ?_).weak (fun R h H => ?_) fun _ _ _ h => h
  · rw [e]
    refine ((t pb).frame (HP.sep (AOne b g r) (ARo g r))).weak (fun _ _ h => h) fun v R h H => ?_
    have H1 := HP.sep_assoc H
    refine HP.sep_mono H1 (fun _ h => h) fun y hy => ⟨hok, ?_⟩
    have H2 := HP.pick [BRep pb s, AOne b g r, ARo g r] [1, 0, 2] (by decide) rfl hy
    refine HP.sep_mono H2 (fun _ h => h) fun z hz => HP.sep_mono hz (fun w hw => ?_) fun _ h => h
    rw [hp, e]
    exact ⟨pb, rfl, hw⟩
  · obtain ⟨h1, h2, d, l1, l2, ⟨hok, H⟩, HK⟩ := H
    rw [hp] at H
    obtain ⟨h3, h4, d2, l3, l4, HO, h5, h6, d3, l5, l6, ⟨pb, e, HB⟩, HR⟩ := H
    refine ⟨pb, ⟨e, hok⟩, ?_⟩
    have H9 : (HP.sep (HP.sep (AOne b g r) (HP.sep (BRep pb s) (ARo g r))) K).p R h := ⟨h1, h2, d, l1, l2, ⟨h3, h4, d2, l3, l4, HO, h5, h6, d3, l5, l6, HB, HR⟩, HK⟩
    have H10 := HP.sep_mono (HP.sep_assoc H9) (fun _ h => h) fun y hy => HP.sep_assoc hy
    exact HP.sep_assoc' (HP.pick [AOne b g r, BRep pb s, ARo g r, K] [1, 3, 0, 2] (by decide) rfl H10)
theorem prop_read {f : FuncId} {args : Value → Array Value} {s : BSt} {φ : Value → Prop} (hp : g.prop = some s) (t : ∀ pb, Tri Tryd.prog f (args (.pointer (some ⟨pb, 0, none⟩))) (BRep pb s) (fun v => HP.and (φ v) (BRep pb s))) :
    Tri Tryd.prog f (args (oneC (.pointer r.pv))) (ARepR b g r) (fun v => HP.and (φ v) (ARepR b g r)) :=
  (prop_tri (B := fun v => HP.pure (φ v)) (K := HP.tt) hp fun pb => (t pb).weak (fun R h H => HP.sep_left H) fun v R h ⟨e, H⟩ => HP.sep_pure H e).weak (fun R h H => HP.sep_tt H) fun v R h H => ⟨HP.sep_left H, HP.sep_right H⟩
theorem aPhase_ok {s : BSt} (hp : g.prop = some s) : Tri Tryd.prog 32 #[oneC (.pointer r.pv)] (ARepR b g r) (fun v => HP.and (v = .int .i64 s.phase) (ARepR b g r)) := prop_read (args := fun p => #[p]) hp fun pb => bPhaseR_ok pb s
theorem aBallot_ok {s : BSt} (hp : g.prop = some s) : Tri Tryd.prog 35 #[oneC (.pointer r.pv)] (ARepR b g r) (fun v => HP.and (v = .agg #[.int .i64 s.rnd, .int .i64 s.who]) (ARepR b g r)) := prop_read (args := fun p => #[p]) hp fun pb => bBallotR_ok pb s
theorem aAskedP_ok {s : BSt} (hp : g.prop = some s) (u : Int) : Tri Tryd.prog 38 #[oneC (.pointer r.pv), .int .i64 u] (ARepR b g r) (fun v => HP.and (v = .bool (askedB s u)) (ARepR b g r)) := prop_read (args := fun p => #[p, .int .i64 u]) hp fun pb => bAskedR_ok pb s u
theorem aValue_ok {s : BSt} (hp : g.prop = some s) : Tri Tryd.prog 37 #[oneC (.pointer r.pv)] (ARepR b g r) (fun v => HP.ex fun a => HP.ex fun c => HP.and (v = .slice a s.val.length c) (HP.sep (RoB a s.val.length s.val) (ARepR b g r))) :=
  (prop_tri (args := fun p => #[p]) (B := fun v => HP.ex fun a => HP.ex fun c => HP.and (v = .slice a s.val.length c) (RoB a s.val.length s.val)) (K := HP.tt) hp fun pb => (bValueR_ok pb s).weak (fun R h H => HP.sep_left H) fun v R h ⟨a, c, e, H⟩ => HP.sep_mono H (fun _ h => ⟨a, c, e, h⟩) fun _ h => h).weak (fun R h H => HP.sep_tt H) fun v R h ⟨h1, h2, d, l1, l2, ⟨a, c, e, H1⟩, H2⟩ => ⟨a, c, e, h1, h2, d, l1, l2, H1, H2⟩

theorem aState_ok : Tri Tryd.prog 7 #[.pointer (some ⟨b, 0, none⟩)] (ARepR b g r) (fun v => HP.and (v = .int .i64 g.st) (ARepR b g r)) := by
  refine tri_of_tree (ρ := [.n b, .p (ARepR b g r)]) mixed Tryd.func7 tree_aState ?_
  unfold t_aState
  simp only [T.den, E.prop, E.den, RX.look, F1.app, F2.app, Uni.int_i, Uni.nat_n, Uni.bool_c, Uni.str_s, Uni.adr_a, Uni.val_v, Uni.hp_p, hden, cden, V.den, W.den, A.den, BR.den, SA.den, FV.den, capV, exs, exP, allP, Cur.app, List.map_cons, List.map_nil, List.cons_append, List.nil_append, List.drop_succ_cons, List.drop_zero, List.length_cons, List.length_nil, Nat.zero_add, Nat.reduceAdd, Int.neg_neg, Bool.not_not, List.append_nil, Nat.add_zero, List.getElem?_cons_zero, List.getElem?_cons_succ, Decidable.not_not, semW_eq, semW_load, ne_eq, Nat.reduceEqDiff, not_false_eq_true]
  exact ⟨g.st, aLdI rfl, .of fun R h H => ⟨rfl, H⟩⟩
theorem aTail_ok : Tri Tryd.prog 11 #[.pointer (some ⟨b, 0, none⟩)] (ARepR b g r) (fun v => HP.and (v = .int .i64 g.tail) (ARepR b g r)) := by
  refine tri_of_tree (ρ := [.n b, .p (ARepR b g r)]) mixed Tryd.func11 tree_aTail ?_
  unfold t_aTail
  simp only [T.den, E.prop, E.den, RX.look, F1.app, F2.app, Uni.int_i, Uni.nat_n, Uni.bool_c, Uni.str_s, Uni.adr_a, Uni.val_v, Uni.hp_p, hden, cden, V.den, W.den, A.den, BR.den, SA.den, FV.den, capV, exs, exP, allP, Cur.app, List.map_cons, List.map_nil, List.cons_append, List.nil_append, List.drop_succ_cons, List.drop_zero, List.length_cons, List.length_nil, Nat.zero_add, Nat.reduceAdd, Int.neg_neg, Bool.not_not, List.append_nil, Nat.add_zero, List.getElem?_cons_zero, List.getElem?_cons_succ, Decidable.not_not, semW_eq, semW_load, ne_eq, Nat.reduceEqDiff, not_false_eq_true]
  exact ⟨g.tail, aLdI rfl, .of fun R h H => ⟨rfl, H⟩⟩
theorem aEpoch_ok (h0 : 0 ≤ g.old.ep) (h1 : g.old.ep ≤ 2147483647) : Tri Tryd.prog 24 #[.pointer (some ⟨b, 0, none⟩)] (ARepR b g r) (fun v => HP.and (v = .int .i64 (g.old.ep + 1)) (ARepR b g r)) := by
  refine tri_of_tree (ρ := [.n b, .p (ARepR b g r)]) mixed Tryd.func24 tree_aEpoch ?_
  unfold t_aEpoch
  simp only [T.den, E.prop, E.den, RX.look, F1.app, F2.app, Uni.int_i, Uni.nat_n, Uni.bool_c, Uni.str_s, Uni.adr_a, Uni.val_v, Uni.hp_p, hden, cden, V.den, W.den, A.den, BR.den, SA.den, FV.den, capV, exs, exP, allP, Cur.app, List.map_cons, List.map_nil, List.cons_append, List.nil_append, List.drop_succ_cons, List.drop_zero, List.length_cons, List.length_nil, Nat.zero_add, Nat.reduceAdd, Int.neg_neg, Bool.not_not, List.append_nil, Nat.add_zero, List.getElem?_cons_zero, List.getElem?_cons_succ, Decidable.not_not, semW_eq, semW_load, ne_eq, Nat.reduceEqDiff, not_false_eq_true]
  exact ⟨g.old.ep, aLdI rfl, inI64 _ (by omega) (by omega), fun _ => .of fun R h H => ⟨rfl, H⟩⟩
theorem fgoPl : Fgo Tryd.prog 55 := ⟨_, Tryd.func55, by kernel_rfl, by kernel_rfl⟩
def plannedA (p : PlP) (u : Int) : Bool := p.ch.any fun c => decide (u ∈ c)
theorem aPlanned_ok (u : Int) : Tri Tryd.prog 39 #[.pointer (some ⟨b, 0, none⟩), .int .i64 u] (ARepR b g r) (fun v => HP.and (v = .bool (plannedA g.plan u)) (ARepR b g r)) := by
  refine Tri.fact (φ := ROk g r) (fun R h H => H.1) fun hok => ?_
  refine tri_of_tree (ρ := [.n b, .p (ARepR b g r), .i u]) mixed Tryd.func39 tree_aPlanned ?_
  unfold t_aPlanned
  simp only [T.den, E.prop, E.den, RX.look, F1.app, F2.app, Uni.int_i, Uni.nat_n, Uni.bool_c, Uni.str_s, Uni.adr_a, Uni.val_v, Uni.hp_p, hden, cden, V.den, W.den, A.den, BR.den, SA.den, FV.den, capV, exs, exP, allP, Cur.app, List.map_cons, List.map_nil, List.cons_append, List.nil_append, List.drop_succ_cons, List.drop_zero, List.length_cons, List.length_nil, Nat.zero_add, Nat.reduceAdd, Int.neg_neg, Bool.not_not, List.append_nil, Nat.add_zero, List.getElem?_cons_zero, List.getElem?_cons_succ, Decidable.not_not, semW_eq, semW_load, ne_eq, Nat.reduceEqDiff, not_false_eq_true]
  intro x
  refine ⟨r.pa, r.pes.length, r.pc, aLdC rfl, ?_⟩
  refine (cContainsF_ok (ARepR b g r) (HP.one x (.cells #[.int .i64 u] 3 (0, 0))) r.pa r.pes.length r.pc r.pes (fun R h H => (ARepR.ro H).2.2) (by have := hok.pb.1; omega) (.func (.func 55) #[] #[.pointer (some ⟨x, 0, none⟩)]) rfl (fun y => decide (u ∈ y.l)) fun y hy => ?_).weak (fun _ _ h => h) ?_
  · refine .inl ⟨_, _, rfl, fgoPl, ?_⟩
    refine (tri_of_tree (ρ := [.a y.a, .n y.l.length, .n y.c, .p (ARepR b g r), .n x, .i u]) (post := fun v => HP.and (v = .bool (decide (u ∈ y.l))) (HP.sep (ARepR b g r) (HP.one x (.cells #[.int .i64 u] 3 (0, 0))))) mixed Tryd.func55 tree_aPlanned1 ?_).weak (fun R h H => HP.sep_comm H) fun v R h ⟨e, H⟩ => ⟨e, HP.sep_comm H⟩
    unfold t_aPlanned1
    simp only [T.den, E.prop, E.den, RX.look, F1.app, F2.app, Uni.int_i, Uni.nat_n, Uni.bool_c, Uni.str_s, Uni.adr_a, Uni.val_v, Uni.hp_p, hden, cden, V.den, W.den, A.den, BR.den, SA.den, FV.den, capV, exs, exP, allP, Cur.app, List.map_cons, List.map_nil, List.cons_append, List.nil_append, List.drop_succ_cons, List.drop_zero, List.length_cons, List.length_nil, Nat.zero_add, Nat.reduceAdd, Int.neg_neg, Bool.not_not, List.append_nil, Nat.add_zero, List.getElem?_cons_zero, List.getElem?_cons_succ, Decidable.not_not, semW_eq, semW_load, ne_eq, Nat.reduceEqDiff, not_false_eq_true]
    refine (iContains_ok (ARepR b g r) y.a y.l.length y.c y.l (.of fun R h H => (ARepR.ro H).2.2.2.2 y hy) rfl (by have := hok.pb.2 y hy; omega) u).weak (fun _ _ h => h) ?_
    rintro v R h ⟨rfl, H⟩
    exact ⟨_, rfl, .of fun R h H => ⟨rfl, H⟩, H⟩
  · rintro v R h ⟨rfl, H⟩
    refine ⟨_, rfl, .of fun R h H => ⟨?_, ?_⟩, H⟩
    · congr 1
      unfold plannedA
      rw [← hok.p, List.any_map]; rfl
    · first | exact H | exact HP.sep_left H
def askedA (g : AdvS) (u : Nat) : Bool :=
  if g.st = 1 then decide ((u : Int) < g.units) && !g.rep u
  else if g.st = 2 then (match g.prop with | some s => askedB s u | none => false)
  else if g.st = 3 then !g.rep u && plannedA g.plan u
  else false
theorem aAsked_ok (u : Nat) (hu : u < 7) (hp : g.st = 2 → g.prop.isSome = true) : Tri Tryd.prog 25 #[.pointer (some ⟨b, 0, none⟩), .int .i64 u] (ARepR b g r) (fun v => HP.and (v = .bool (askedA g u)) (ARepR b g r)) := by
  refine tri_of_tree (ρ := [.n b, .p (ARepR b g r), .i u]) mixed Tryd.func25 tree_aAsked ?_
  unfold t_aAsked
  simp only [T.den, E.prop, E.den, RX.look, F1.app, F2.app, Uni.int_i, Uni.nat_n, Uni.bool_c, Uni.str_s, Uni.adr_a, Uni.val_v, Uni.hp_p, hden, cden, V.den, W.den, A.den, BR.den, SA.den, FV.den, capV, exs, exP, allP, Cur.app, List.map_cons, List.map_nil, List.cons_append, List.nil_append, List.drop_succ_cons, List.drop_zero, List.length_cons, List.length_nil, Nat.zero_add, Nat.reduceAdd, Int.neg_neg, Bool.not_not, List.append_nil, Nat.add_zero, List.getElem?_cons_zero, List.getElem?_cons_succ, Decidable.not_not, semW_eq, semW_load, ne_eq, Nat.reduceEqDiff, not_false_eq_true, semW_ixS]
  refine ⟨g.st, aLdI rfl, fun h1 => ⟨g.units, aLdI rfl, fun h2 => ?_, fun h2 => ?_⟩, fun h1 => ⟨fun h2 => ?_, fun h2 => ⟨fun h3 => ?_, fun h3 => ?_⟩⟩⟩
  · refine ⟨.pointer (some ⟨b, 5 + u, none⟩), ixAt undA7 infBo szBo rfl hu, g.rep u, aLdRep hu, .of fun R h H => ⟨?_, H⟩⟩
    simp only [askedA, if_pos h1, decide_eq_true h2, Bool.true_and]
  · refine .of fun R h H => ⟨?_, H⟩
    simp only [askedA, if_pos h1, decide_eq_false h2, Bool.false_and]
  · obtain ⟨s, hs⟩ := Option.isSome_iff_exists.1 (hp h2)
    refine ⟨.pointer r.pv, aLdP, ?_⟩
    refine (aAskedP_ok hs u).weak (fun _ _ h => h) ?_
    rintro v R h ⟨rfl, H⟩
    refine ⟨_, rfl, .of fun R h H => ⟨?_, H⟩, H⟩
    simp only [askedA, if_neg h1, if_pos h2, hs]
  · refine ⟨.pointer (some ⟨b, 5 + u, none⟩), ixAt undA7 infBo szBo rfl hu, g.rep u, aLdRep hu, fun h4 => ?_, fun h4 => ?_⟩
    · refine (aPlanned_ok u).weak (fun _ _ h => h) ?_
      rintro v R h ⟨rfl, H⟩
      refine ⟨_, rfl, .of fun R h H => ⟨?_, H⟩, H⟩
      simp only [askedA, if_neg h1, if_neg h2, if_pos h3]
      have : g.rep u = false := by simpa using h4
      rw [this]; rfl
    · refine .of fun R h H => ⟨?_, H⟩
      simp only [askedA, if_neg h1, if_neg h2, if_pos h3]
      have : g.rep u = true := by simpa using h4
      rw [this]; rfl
  · refine .of fun R h H => ⟨?_, H⟩
    simp only [askedA, if_neg h1, if_neg h2, if_neg h3]
def askA (g : AdvS) (u : Nat) : MS :=
  if g.st = 2 then (match g.prop with
    | some s => ⟨0, u, 0, false, if s.phase = 2 then 7 else 6, g.old.ep + 1, g.old.ep + 1, zC, s.rnd, s.who, if s.phase = 2 then s.val else [], 0, 0, 0, 0⟩
    | none => ⟨0, u, 0, false, 4, g.old.ep + 1, 0, zC, 0, 0, [], 0, 0, 0, 0⟩)
  else ⟨0, u, 0, false, 4, g.old.ep + 1, 0, zC, 0, 0, [], 0, 0, 0, 0⟩
theorem aAsk_ok (u : Nat) (h0 : 0 ≤ g.old.ep) (h1 : g.old.ep ≤ 2147483647) (hp : g.st = 2 → g.prop.isSome = true) (hs : ∀ s, g.prop = some s → s.val.length ≤ 140737488355328) :
    Tri Tryd.prog 26 #[.pointer (some ⟨b, 0, none⟩), .int .i64 u] (ARepR b g r) (fun v => HP.ex fun va => HP.ex fun vc => HP.and (v = .agg ((askA g u).raw none 0 va vc).vals) (HP.sep ((askA g u).Vro va) (ARepR b g r))) := by
  refine tri_of_tree (ρ := [.n b, .p (ARepR b g r), .i u]) mixed Tryd.func26 tree_aAsk ?_
  unfold t_aAsk
  simp only [T.den, E.prop, E.den, RX.look, F1.app, F2.app, Uni.int_i, Uni.nat_n, Uni.bool_c, Uni.str_s, Uni.adr_a, Uni.val_v, Uni.hp_p, hden, cden, V.den, W.den, A.den, BR.den, SA.den, FV.den, capV, exs, exP, allP, Cur.app, List.map_cons, List.map_nil, List.cons_append, List.nil_append, List.drop_succ_cons, List.drop_zero, List.length_cons, List.length_nil, Nat.zero_add, Nat.reduceAdd, Int.neg_neg, Bool.not_not, List.append_nil, Nat.add_zero, List.getElem?_cons_zero, List.getElem?_cons_succ, Decidable.not_not, semW_eq, semW_load, ne_eq, Nat.reduceEqDiff, not_false_eq_true]
  intro _
  refine (aEpoch_ok h0 h1).weak (fun _ _ h => h) ?_
  rintro v R h ⟨rfl, H⟩
  refine ⟨_, rfl, fun _ => ⟨g.st, aLdI rfl, fun h2 => ⟨.pointer r.pv, aLdP, ?_⟩, fun h2 => .of fun R h H => ⟨none, 0, ?_, ?_⟩⟩, H⟩
  · obtain ⟨s, hsp⟩ := Option.isSome_iff_exists.1 (hp h2)
    have ea : askA g u = ⟨0, u, 0, false, if s.phase = 2 then 7 else 6, g.old.ep + 1, g.old.ep + 1, zC, s.rnd, s.who, if s.phase = 2 then s.val else [], 0, 0, 0, 0⟩ := by
      unfold askA; rw [if_pos h2, hsp]
    clear H
    refine (aEpoch_ok h0 h1).weak (fun _ _ h => h) ?_
    rintro v R h ⟨rfl, H⟩
    refine ⟨_, rfl, ?_, H⟩
    refine (aBallot_ok hsp).weak (fun _ _ h => h) ?_
    rintro v R h ⟨rfl, H⟩
    refine ⟨_, _, rfl, ⟨.pointer r.pv, aLdP, ?_⟩, H⟩
    refine (aPhase_ok hsp).weak (fun _ _ h => h) ?_
    rintro v R h ⟨rfl, H⟩
    refine ⟨_, rfl, ⟨fun h3 => ⟨.pointer r.pv, aLdP, ?_⟩, fun h3 => .of fun R h H => ⟨none, 0, ?_, ?_⟩⟩, H⟩
    · clear H
      refine (aValue_ok hsp).weak (fun _ _ h => h) ?_
      rintro v R h ⟨a1, c1, rfl, H⟩
      refine ⟨a1, _, c1, RoB a1 s.val.length s.val, rfl, ?_, H⟩
      clear H
      refine (cloneR_ok (RoB a1 s.val.length s.val) a1 s.val.length c1 s.val (RdL.ro _ _ _ _) rfl (hs s hsp)).weak (fun _ _ h => h) ?_
      rintro v R h ⟨a2, c2, rfl, H⟩
      refine ⟨a2, _, c2, RoB a2 s.val.length s.val, _, rfl, .of fun R h H => ⟨a2, c2, ?_, ?_⟩, H⟩
      · rw [ea]; simp only [if_pos h3]; rfl
      · rw [ea]; simp only [if_pos h3]
        exact HP.sep_comm H
    · rw [ea]; simp only [if_neg h3]; rfl
    · rw [ea]; simp only [if_neg h3]
      exact RoC.join (RoB0 none : (RoB none 0 []).p R h) H
  · unfold askA; rw [if_neg h2]; rfl
  · unfold askA; rw [if_neg h2]
    exact RoC.join (RoB0 none : (RoB none 0 []).p R h) H
end
end Go.Proofs.YtbmajijnjkicmaaDoor

