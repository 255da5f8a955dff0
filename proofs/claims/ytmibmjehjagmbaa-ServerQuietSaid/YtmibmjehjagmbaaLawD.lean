/- ServerAgain and ServerQuiet, over messages as assertions. No condition. -/
import Derived.Test.YtmibmjehjagmbaaLawC
namespace Go.Proofs.Ytmibmjehjagmbaa
set_option linter.unusedSimpArgs false
set_option linter.unusedVariables false
open Go.Proofs.Ytmibmjehjagmbaa RX

/-- What a unit keeps is no longer than memory is. -/
def Bnd (s : USt) : Prop := (∀ a c, s.cells a = some c → c.data.length ≤ 140737488355328) ∧ ∀ n x, s.inst n = some x → x.val.length ≤ 140737488355328
theorem UD.bnd {ub bd : Nat} {room : Int} {s : USt} {ps : List Pg} {R h : PH} (H : (UD ub bd room s ps).p R h) : Bnd s := by
  obtain ⟨mc, mi, H⟩ := H
  obtain ⟨lc, cc, HC⟩ := HP.sep_left (HP.sep_right (HP.sep_right H))
  obtain ⟨li, ci, HI⟩ := HP.sep_right (HP.sep_right (HP.sep_right H))
  refine ⟨fun a c e => ?_, fun n x e => ?_⟩
  · obtain ⟨v, _, _, _, ⟨_, hb⟩, _⟩ := MapH.yes HC cellV_pers e h
    exact hb
  · obtain ⟨v, _, _, _, ⟨_, hb⟩, _⟩ := MapH.yes HI instV_pers e h
    exact hb
theorem deedS_bnd {room : Int} {s : USt} {ps : List Pg} {m : MS} (hb : Bnd s) : ∀ x, deedS room s ps m (repS m) = x → x.2.1.cell.data.length ≤ 140737488355328 ∧ x.2.1.val.length ≤ 140737488355328 := fun x hx => by
  have z : (repS m).cell.data.length ≤ 140737488355328 := by simp [repS, zC]
  have zv : (repS m).val.length ≤ 140737488355328 := by simp [repS]
  unfold deedS at hx
  split at hx
  · subst hx
    refine ⟨?_, zv⟩
    generalize hy : writeS room s ps m.ep m.at' m.cell = y
    unfold writeS at hy
    split at hy
    · subst hy; exact z
    split at hy
    · subst hy; exact z
    split at hy
    · subst hy; exact z
    split at hy
    · rename_i c e; subst hy; exact hb.1 _ _ e
    · subst hy; exact z
  split at hx
  · subst hx
    refine ⟨?_, zv⟩
    generalize hy : readS s m.ep m.at' = y
    unfold readS at hy
    split at hy
    · subst hy; exact z
    split at hy
    · subst hy; exact z
    split at hy
    · rename_i c e; subst hy; exact hb.1 _ _ e
    · subst hy; exact z
  split at hx
  · subst hx; exact ⟨z, zv⟩
  split at hx
  · split at hx
    · subst hx; exact ⟨z, zv⟩
    split at hx
    · subst hx; exact ⟨z, zv⟩
    · subst hx; exact ⟨z, zv⟩
  split at hx
  · split at hx <;> (subst hx; exact ⟨z, zv⟩)
  split at hx
  · subst hx
    refine ⟨z, ?_⟩
    have hi : (instAt s m.at').val.length ≤ 140737488355328 := by
      unfold instAt
      cases e : s.inst m.at' with
      | none => simp [zI]
      | some x => exact hb.2 _ _ e
    generalize hy : promiseS room s ps m.at' m.br m.bw = y
    unfold promiseS at hy
    split at hy
    · subst hy; exact zv
    split at hy
    · subst hy; exact zv
    split at hy
    · subst hy; exact hi
    split at hy
    · subst hy; exact zv
    · subst hy; exact hi
  · subst hx; exact ⟨z, zv⟩
theorem answerS_bnd {room : Int} {s : USt} {ps : List Pg} {m : MS} (hb : Bnd s) : (answerS room s ps m).2.1.cell.data.length ≤ 140737488355328 ∧ (answerS room s ps m).2.1.val.length ≤ 140737488355328 := by
  have z : zC.data.length ≤ 140737488355328 := by simp [zC]
  have h := deedS_bnd (room := room) (ps := ps) (m := m) hb _ rfl
  unfold answerS
  split
  · exact ⟨z, by simp [zMS]⟩
  · simp only [finS]
    split
    · exact h
    · refine ⟨?_, by simp⟩
      simp only
      split
      · exact h.1
      · exact z
theorem ListM.rd {a : Option Addr} {n : Nat} {l : List RM} {k : Nat} {x : RM} (hk : l[k]? = some x) : RdL (ListM a n l) x.ca x.ms.cell.data.length (x.ms.cell.data.map u8v) := RdL.imp fun _ _ H => (H.2.2 x (List.mem_of_getElem? hk)).2.1
set_option maxRecDepth 100000 in
set_option maxHeartbeats 1000000 in
theorem again_ok (a : Option Addr) (n c : Nat) (l : List RM) (hn : n ≤ 140737488355328) : Tri Try.prog 7 #[.slice a n c] (ListM a n l) (fun v => HP.pure (v = .bool true)) := by
  refine Tri.fact (φ := (n ≠ 0 → a.isSome = true) ∧ l.length = n) (fun R h H => ⟨fun hn => RoC.some H.2.1 (by omega), H.1⟩) fun ⟨ha, hl⟩ => ?_
  refine tri_of_tree (ρ := [.a a, .n n, .n c, .p (ListM a n l)]) mixed Try.func7 tree_again ?_
  unfold t_again
  simp only [T.den, E.prop, E.den, RX.look, F1.app, F2.app, Uni.int_i, Uni.nat_n, Uni.bool_c, Uni.str_s, Uni.adr_a, Uni.val_v, Uni.hp_p, hden, cden, V.den, W.den, A.den, BR.den, SA.den, FV.den, capV, exs, exP, allP, Cur.app, List.map_cons, List.map_nil, List.cons_append, List.nil_append, List.drop_succ_cons, List.drop_zero, List.length_cons, List.length_nil, Nat.zero_add, Nat.reduceAdd, Int.neg_neg, Bool.not_not, List.append_nil, Nat.add_zero, List.getElem?_cons_zero, List.getElem?_cons_succ, Decidable.not_not]
  refine speaks14_ok.weak (fun _ _ h => h) ?_
  rintro v R h rfl
  refine ⟨true, rfl, ⟨fun h => absurd rfl h, fun _ => ?_⟩, trivial⟩
  refine (great14_ok a n c l hn).weak (fun _ _ h => h) ?_
  rintro v R h ⟨g, ⟨rfl, hg⟩, H⟩
  refine ⟨g, rfl, ⟨fun _ => .of fun R h H => trivial, fun hgf => ?_⟩, H⟩
  have h60 : n ≤ 60 := hg (by simpa using hgf)
  clear H
  refine (laid14_ok 400 (by decide) (by decide)).weak (fun _ _ h => h) ?_
  rintro v R h ⟨bd, ub, rfl, H⟩
  refine ⟨bd, HP.tt, ub, UD ub bd 400 s0 [], rfl, ?_, H⟩
  clear H
  refine ⟨fun _ i P => ∃ (k : Nat) (s : USt) (ps : List Pg), i = k ∧ k ≤ n ∧ P = UD ub bd 400 s ps ∧ ps.length ≤ 2 * k, fun _ i _ => n - i.toNat, ⟨0, s0, [], rfl, Nat.zero_le _, rfl, Nat.le_refl _⟩, ?_⟩
  rintro _ _ _ ⟨k, s, ps, rfl, hk, rfl, hps⟩
  refine ⟨fun hlt => ⟨by omega, fun _ => ⟨ha (by omega), fun _ => ?_⟩⟩, fun _ => .of fun R h H => trivial⟩
  have hkl : k < l.length := by omega
  have hgk : l[k]? = some l[k] := List.getElem?_eq_getElem hkl
  generalize hx : l[k] = x at hgk
  have hr := ListM.load (a := a) (n := n) hgk
  refine ⟨_, _, _, _, _, _, _, _, _, _, _, _, _, _, _, _, _, _, _, _, hr, fun y => ?_⟩
  refine Tri.fact (φ := Bnd s) (fun R h H => UD.bnd (HP.sep_left H)) fun hb1 => ?_
  obtain ⟨g1, g2, g3⟩ := answer_again (room := 400) (s := s) (ps := ps) (m := x.ms) (by omega)
  have l1 := answerS_len (room := 400) (s := s) (ps := ps) (m := x.ms)
  have l2 := answerS_len (room := 400) (s := (answerS 400 s ps x.ms).2.2.1) (ps := (answerS 400 s ps x.ms).2.2.2) (m := x.ms)
  have bb := answerS_bnd (room := 400) (ps := ps) (m := x.ms) hb1
  refine (answerM_ok ub bd 400 s ps a n l k x hgk).weak (fun _ _ h => h) ?_
  rintro v R h ⟨rca, rcc, rva, rvc, rfl, H⟩
  generalize hA1 : answerS 400 s ps x.ms = A1 at *
  refine ⟨_, _, _, _, _, _, _, _, rca, _, rcc, A1.2.1.Dro rca, _, _, rva, _, rvc, A1.2.1.Vro rva, _, _, _, _, A1.1, UD ub bd 400 A1.2.2.1 A1.2.2.2, rfl, fun y2 => ?_, H⟩
  clear H
  refine (answerM_ok ub bd 400 A1.2.2.1 A1.2.2.2 a n l k x hgk).weak (fun _ _ h => h) ?_
  rintro v R h ⟨rca2, rcc2, rva2, rvc2, rfl, H⟩
  generalize hA2 : answerS 400 A1.2.2.1 A1.2.2.2 x.ms = A2 at *
  refine ⟨_, _, _, _, _, _, _, _, rca2, _, rcc2, A2.2.1.Dro rca2, _, _, rva2, _, rvc2, A2.2.1.Vro rva2, _, _, _, _, A2.1, UD ub bd 400 A2.2.2.1 A2.2.2.2, rfl, fun y3 => ?_, H⟩
  clear H
  have hi : IntKind.i64.min ≤ (k : Int) + 1 ∧ (k : Int) + 1 ≤ IntKind.i64.max := inI64 _ (by omega) (by omega)
  have next : ∃ (k' : Nat) (s' : USt) (ps' : List Pg), (k : Int) + 1 = k' ∧ k' ≤ n ∧ UD ub bd 400 A2.2.2.1 A2.2.2.2 = UD ub bd 400 s' ps' ∧ ps'.length ≤ 2 * k' := ⟨k + 1, A2.2.2.1, A2.2.2.2, by omega, by omega, rfl, by omega⟩
  have meas : n - ((k : Int) + 1).toNat < n - (k : Int).toNat := by omega
  have same : ¬ (x.ms.kind = 1 ∧ A1.1 = true ∧ A1.2.1.err = 0) → A2.2.1 = A1.2.1 := g3
  have fin : ∀ (hne : ¬ (x.ms.kind = 1 ∧ A1.1 = true ∧ A1.2.1.err = 0)) (B : Value → HP),
      (∀ R h, (HP.sep (A1.2.1.Dro rca) (HP.sep (A1.2.1.Vro rva) (HP.sep (A2.2.1.Dro rca2) (A2.2.1.Vro rva2)))).p R h → (B (.bool true)).p R h) →
      Tri Try.prog 46 #[.agg (A1.2.1.raw rca rcc rva rvc).vals, .agg (A2.2.1.raw rca2 rcc2 rva2 rvc2).vals] (HP.sep (A1.2.1.Dro rca) (HP.sep (A1.2.1.Vro rva) (HP.sep (A2.2.1.Dro rca2) (A2.2.1.Vro rva2)))) B := fun hne B hB => by
    refine (same12_ok A1.2.1 A2.2.1 rca rcc rva rvc rca2 rcc2 rva2 rvc2 bb.1 bb.2).weak (fun _ _ h => h) ?_
    rintro v R h ⟨b, ⟨rfl, hb⟩, H⟩
    rw [hb (same hne).symm]
    exact hB R h H
  refine ⟨fun h => absurd (by rw [g1]; simp) h, fun _ => ⟨fun hk1 => ⟨fun hok => ⟨fun h0 => ⟨fun h => absurd (g2 hk1 hok h0).1 h, fun _ => ?_⟩, fun h0 => ?_⟩, fun hok => ?_⟩, fun hk1 => ?_⟩⟩
  · have hcell := (g2 hk1 hok h0).2
    have hxb : A2.2.1.cell.data.length ≤ 140737488355328 → True := fun _ => trivial
    refine Tri.fact (φ := x.ms.cell.data.length ≤ 140737488355328) (fun R h H => ((HP.sep_right H).2.2 x (List.mem_of_getElem? hgk)).1.1) fun hxb => ?_
    refine (sameCell_ok A2.2.1.cell.what rca2 _ rcc2 A2.2.1.cell.data x.ms.cell.what x.ca _ x.cc x.ms.cell.data (A2.2.1.Dro rca2) (ListM a n l) (RdL.ro _ _ _ _) (ListM.rd hgk) rfl rfl (by rw [hcell]; exact hxb)).weak (fun _ _ h => h) ?_
    rintro v R h ⟨rfl, H⟩
    refine ⟨true, by rw [hcell]; simp, ⟨fun h => absurd rfl h, fun _ => ⟨hi, fun _ => ⟨next, meas⟩⟩⟩, H⟩
  · exact fin (fun e => h0 e.2.2) _ fun R h H => ⟨true, rfl, ⟨fun h => absurd rfl h, fun _ => ⟨hi, fun _ => ⟨next, meas⟩⟩⟩, H⟩
  · exact fin (fun e => hok e.2.1) _ fun R h H => ⟨true, rfl, ⟨fun h => absurd rfl h, fun _ => ⟨hi, fun _ => ⟨next, meas⟩⟩⟩, H⟩
  · exact fin (fun e => hk1 e.1) _ fun R h H => ⟨true, rfl, ⟨fun h => absurd rfl h, fun _ => ⟨hi, fun _ => ⟨next, meas⟩⟩⟩, H⟩
set_option maxRecDepth 100000 in
set_option maxHeartbeats 1000000 in
theorem quiet_ok (a : Option Addr) (n c : Nat) (l : List RM) (hn : n ≤ 140737488355328) : Tri Try.prog 8 #[.slice a n c] (ListM a n l) (fun v => HP.pure (v = .bool true)) := by
  refine Tri.fact (φ := (n ≠ 0 → a.isSome = true) ∧ l.length = n) (fun R h H => ⟨fun hn => RoC.some H.2.1 (by omega), H.1⟩) fun ⟨ha, hl⟩ => ?_
  refine tri_of_tree (ρ := [.a a, .n n, .n c, .p (ListM a n l)]) mixed Try.func8 tree_quiet ?_
  unfold t_quiet
  simp only [T.den, E.prop, E.den, RX.look, F1.app, F2.app, Uni.int_i, Uni.nat_n, Uni.bool_c, Uni.str_s, Uni.adr_a, Uni.val_v, Uni.hp_p, hden, cden, V.den, W.den, A.den, BR.den, SA.den, FV.den, capV, exs, exP, allP, Cur.app, List.map_cons, List.map_nil, List.cons_append, List.nil_append, List.drop_succ_cons, List.drop_zero, List.length_cons, List.length_nil, Nat.zero_add, Nat.reduceAdd, Int.neg_neg, Bool.not_not, List.append_nil, Nat.add_zero, List.getElem?_cons_zero, List.getElem?_cons_succ, Decidable.not_not]
  refine speaks14_ok.weak (fun _ _ h => h) ?_
  rintro v R h rfl
  refine ⟨true, rfl, ⟨fun h => absurd rfl h, fun _ => ?_⟩, trivial⟩
  refine (great14_ok a n c l hn).weak (fun _ _ h => h) ?_
  rintro v R h ⟨g, ⟨rfl, hg⟩, H⟩
  refine ⟨g, rfl, ⟨fun _ => .of fun R h H => trivial, fun hgf => ?_⟩, H⟩
  clear H
  refine (laid14_ok 200 (by decide) (by decide)).weak (fun _ _ h => h) ?_
  rintro v R h ⟨bd, ub, rfl, H⟩
  refine ⟨bd, HP.tt, ub, UD ub bd 200 s0 [], rfl, ?_, H⟩
  clear H
  refine ⟨fun _ i P => ∃ (k : Nat) (s : USt) (ps : List Pg), i = k ∧ k ≤ n ∧ P = UD ub bd 200 s ps, fun _ i _ => n - i.toNat, ⟨0, s0, [], rfl, Nat.zero_le _, rfl⟩, ?_⟩
  rintro _ _ _ ⟨k, s, ps, rfl, hk, rfl⟩
  refine ⟨fun hlt => ⟨by omega, fun _ => ⟨ha (by omega), fun _ => ?_⟩⟩, fun _ => .of fun R h H => trivial⟩
  have hkl : k < l.length := by omega
  have hgk : l[k]? = some l[k] := List.getElem?_eq_getElem hkl
  generalize hx : l[k] = x at hgk
  have hr := ListM.load (a := a) (n := n) hgk
  refine ⟨_, _, _, _, _, _, _, _, _, _, _, _, _, _, _, _, _, _, _, _, hr, fun y => ?_⟩
  refine (dPagesU_ok ub bd 200 s ps).weak (fun _ _ h => h) ?_
  rintro v R h ⟨pa, pc, rfl, H⟩
  refine ⟨pa, _, pc, LL pa (wholes ps).length pc (wholes ps), rfl, ?_, H⟩
  clear H
  refine Tri.fact (φ := Bnd s) (fun R h H => UD.bnd (HP.sep_left H)) fun hb1 => ?_
  have bb := answerS_bnd (room := 200) (ps := ps) (m := x.ms) hb1
  have hq := answerS_quiet (room := 200) (s := s) (ps := ps) (m := x.ms)
  have hz := answerS_none (room := 200) (s := s) (ps := ps) (m := x.ms)
  have hs := answerS_some (room := 200) (s := s) (ps := ps) (m := x.ms)
  refine (answerM_ok ub bd 200 s ps a n l k x hgk).weak (fun _ _ h => h) ?_
  rintro v R h ⟨rca, rcc, rva, rvc, rfl, H⟩
  generalize hA1 : answerS 200 s ps x.ms = A1 at *
  refine ⟨_, _, _, _, _, _, _, _, rca, _, rcc, A1.2.1.Dro rca, _, _, rva, _, rvc, A1.2.1.Vro rva, _, _, _, _, A1.1, UD ub bd 200 A1.2.2.1 A1.2.2.2, rfl, fun y2 => ?_, H⟩
  clear H
  have hi : IntKind.i64.min ≤ (k : Int) + 1 ∧ (k : Int) + 1 ≤ IntKind.i64.max := inI64 _ (by omega) (by omega)
  have next : ∃ (k' : Nat) (s' : USt) (ps' : List Pg), (k : Int) + 1 = k' ∧ k' ≤ n ∧ UD ub bd 200 A1.2.2.1 A1.2.2.2 = UD ub bd 200 s' ps' := ⟨k + 1, A1.2.2.1, A1.2.2.2, by omega, by omega, rfl⟩
  have meas : n - ((k : Int) + 1).toNat < n - (k : Int).toNat := by omega
  refine ⟨fun hno => ?_, fun hyes => ⟨fun herr => ?_, fun h0 => ?_⟩⟩
  · have hf : A1.1 = false := by simpa using hno
    refine (dPagesU_ok ub bd 200 A1.2.2.1 A1.2.2.2).weak (fun _ _ h => h) ?_
    rintro v R h ⟨pa2, pc2, rfl, H⟩
    have e : A1.2.2.2 = ps := by rw [hq (.inl hf)]
    refine ⟨pa2, _, pc2, LL pa2 (wholes A1.2.2.2).length pc2 (wholes A1.2.2.2), rfl, ⟨fun h => absurd (by rw [e]) h, fun _ => ?_⟩, H⟩
    clear H
    refine (same12z_ok A1.2.1 rca rcc rva rvc bb.1 bb.2).weak (fun _ _ h => h) ?_
    rintro v R h ⟨b, ⟨rfl, hb⟩, H⟩
    rw [hb (hz hf)]
    exact ⟨true, rfl, ⟨fun h => absurd rfl h, fun _ => ⟨hi, fun _ => ⟨next, meas⟩⟩⟩, H⟩
  · obtain ⟨s1, s2, s3, s4, s5, s6, s7, s8, s9⟩ := hs (by simpa using hyes)
    refine (dPagesU_ok ub bd 200 A1.2.2.1 A1.2.2.2).weak (fun _ _ h => h) ?_
    rintro v R h ⟨pa2, pc2, rfl, H⟩
    have e : A1.2.2.2 = ps := by rw [hq (.inr herr)]
    refine ⟨pa2, _, pc2, LL pa2 (wholes A1.2.2.2).length pc2 (wholes A1.2.2.2), rfl, ⟨fun h => absurd (by rw [e]) h, fun _ => ?_⟩, H⟩
    clear H
    refine ⟨fun h => absurd s1 h, fun _ => ⟨fun h => absurd s2 h, fun _ => ⟨fun h => absurd s3 h, fun _ => ⟨fun h => absurd s4 h, fun _ => ⟨fun h => absurd s5 h, fun _ => ⟨fun h => absurd s6 h, fun _ => ⟨fun h => absurd s7 h, fun _ => ?_⟩⟩⟩⟩⟩⟩⟩
    refine (uLow_ok ub bd _ A1.2.2.1).weak (fun _ _ h => h) ?_
    rintro v R h ⟨rfl, H⟩
    refine ⟨_, rfl, ⟨fun h => absurd s8 h, fun _ => ?_⟩, H⟩
    clear H
    refine (uEpoch_ok ub bd _ A1.2.2.1).weak (fun _ _ h => h) ?_
    rintro v R h ⟨rfl, H⟩
    exact ⟨_, rfl, ⟨fun h => absurd s9 h, fun _ => ⟨hi, fun _ => ⟨next, meas⟩⟩⟩, H⟩
  · obtain ⟨s1, s2, s3, s4, s5, s6, s7, s8, s9⟩ := hs (by simpa using hyes)
    refine ⟨fun h => absurd s1 h, fun _ => ⟨fun h => absurd s2 h, fun _ => ⟨fun h => absurd s3 h, fun _ => ⟨fun h => absurd s4 h, fun _ => ⟨fun h => absurd s5 h, fun _ => ⟨fun h => absurd s6 h, fun _ => ⟨fun h => absurd s7 h, fun _ => ?_⟩⟩⟩⟩⟩⟩⟩
    refine (uLow_ok ub bd _ A1.2.2.1).weak (fun _ _ h => h) ?_
    rintro v R h ⟨rfl, H⟩
    refine ⟨_, rfl, ⟨fun h => absurd s8 h, fun _ => ?_⟩, H⟩
    clear H
    refine (uEpoch_ok ub bd _ A1.2.2.1).weak (fun _ _ h => h) ?_
    rintro v R h ⟨rfl, H⟩
    exact ⟨_, rfl, ⟨fun h => absurd s9 h, fun _ => ⟨hi, fun _ => ⟨next, meas⟩⟩⟩, H⟩
end Go.Proofs.Ytmibmjehjagmbaa
