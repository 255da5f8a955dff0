/- Contracts of a proposer's Asked, ahead, take, Value. No condition. -/
import Derived.Test.YtlkfejnjdlebbaaBalA
namespace Go.Proofs.Ytlkfejnjdlebbaa
open Go.RowKit

/-- A proposer at block b: its cells, and its answers. -/
structure PAt (w : World) (b : Nat) (p : PSt) (M : List (Int × Ans × Nat)) (c : Nat) : Prop where
  cel : Cel w b p.cells 67
  map : w.heap[p.mp]? = some (mapObj intE (encL M) c)

theorem PAt.mod {w w' : World} {b c : Nat} {p : PSt} {M : List (Int × Ans × Nat)} {fp : List Nat} (h : PAt w b p M c) (hm : Mod fp w w') (h1 : b ∉ fp) (h2 : p.mp ∉ fp) : PAt w' b p M c :=
  ⟨h.cel.mod hm h1, (hm.block _ (lt_of_block h.map) h2).trans h.map⟩
theorem PAt.below2 {w w' : World} {b c : Nat} {p : PSt} {M : List (Int × Ans × Nat)} (h : PAt w b p M c) (hm : Mod [] w w') : PAt w' b p M c := h.mod hm (by simp) (by simp)
theorem PAt.ne {w : World} {b c : Nat} {p : PSt} {M : List (Int × Ans × Nat)} (h : PAt w b p M c) : b ≠ p.mp := fun e => by
  have h1 := h.cel
  unfold Cel at h1
  rw [e, h.map] at h1
  cases h1
theorem PAt.noBytes {w : World} {b c : Nat} {p : PSt} {M : List (Int × Ans × Nat)} (h : PAt w b p M c) : NoBytes w [b, p.mp] := fun x hx => by
  simp at hx
  rcases hx with rfl | rfl
  · exact h.cel.noBytes (by decide)
  · exact map_noBytes h.map

set_option maxHeartbeats 1000000 in
theorem asked_any (b : Nat) (p : PSt) (M : List (Int × Ans × Nat)) (c : Nat) (f : Int) (w : World) (h : PAt w b p M c) :
    Calls Try.prog 15 #[.pointer (some ⟨b, 0, none⟩), .int .i64 f] w fun e w' => e = .returned (.bool (askedB p M f)) ∧ Mod [] w w' := by
  have h0 : w.cell? ⟨b, 0, none⟩ = some (.int .i64 p.acc) := h.cel.cell 0
  have h4 : w.cell? ⟨b, 4, none⟩ = some (.int .i64 p.phase) := h.cel.cell 4
  have h5 : w.cell? ⟨b, 5, none⟩ = some (.map (some p.mp)) := h.cel.cell 5
  have hmap := h.map
  have HB := Lib.hid (show askedB p M f = (decide ((p.phase = 1 ∨ p.phase = 2) ∧ 0 ≤ f ∧ f < p.acc) && !(alFind f (encL M)).isSome) from rfl)
  generalize p.acc = acc at *
  generalize p.phase = ph at *
  generalize p.mp = mp at *
  generalize askedB p M f = AB at *
  have HM := Lib.hid hmap
  clear hmap h
  by_cases c1 : ph = 1 ∨ ph = 2
  case neg =>
    have hAB := HB.out
    rw [decide_eq_false (fun hh => c1 hh.1), Bool.false_and] at hAB
    subst hAB
    have g1 : (ph != 1) = true := by rw [bne_iff_ne]; omega
    have g2 : (ph != 2) = true := by rw [bne_iff_ne]; omega
    clear c1 HB
    go_enter Try.func15, Try.ntmps15
    go_wp2
    go_ret
    exact ⟨rfl, Mod.refl _ _⟩
  case pos =>
    by_cases c2 : f < 0
    · have hAB := HB.out
      rw [decide_eq_false (fun hh => by omega), Bool.false_and] at hAB
      subst hAB
      clear HB
      rcases c1 with rfl | rfl
      all_goals
        go_enter Try.func15, Try.ntmps15
        go_wp2
        go_ret
        exact ⟨rfl, Mod.refl _ _⟩
    have c2' : 0 ≤ f := by omega
    clear c2
    by_cases c3 : acc ≤ f
    · have hAB := HB.out
      rw [decide_eq_false (fun hh => by omega), Bool.false_and] at hAB
      subst hAB
      clear HB
      rcases c1 with rfl | rfl
      all_goals
        go_enter Try.func15, Try.ntmps15
        go_wp2
        go_ret
        exact ⟨rfl, Mod.refl _ _⟩
    have c3' : f < acc := by omega
    clear c3
    have hAB := HB.out
    rw [decide_eq_true (show (ph = 1 ∨ ph = 2) ∧ 0 ≤ f ∧ f < acc from ⟨c1, c2', c3'⟩), Bool.true_and] at hAB
    obtain ⟨v, hv⟩ : ∃ v, v = (alFind f (encL M)).getD (.agg Ans.zero.cells) := ⟨_, rfl⟩
    have hvs : ∃ a : Ans, v = .agg a.cells := by
      cases hf : alFind f (encL M) with
      | none => exact ⟨Ans.zero, by rw [hv, hf]; rfl⟩
      | some u =>
        obtain ⟨bb, hb⟩ := alFind_some_mem _ _ _ hf
        unfold encL at hb
        obtain ⟨x, _, hx⟩ := List.mem_map.1 hb
        simp only [Prod.mk.injEq] at hx
        exact ⟨x.2.1, by rw [hv, hf, ← hx.2.1]; rfl⟩
    obtain ⟨av, hav⟩ := hvs
    have K : KeyEnc Try.prog 3 intE := int_enc Try.underlying3
    have hz : ∀ W : World, (zeroValue 69).run Try.prog W = .ok (.agg Ans.zero.cells) W := fun _ => by kernel_rfl
    have HZ := Lib.hid hz
    have HV := Lib.hid (hv.symm.trans hav)
    have HAB := Lib.hid hAB
    clear hz hv hav HB hAB
    rcases c1 with rfl | rfl
    all_goals
      obtain ⟨fnd, hfnd⟩ : ∃ q, q = (alFind f (encL M)).isSome := ⟨_, rfl⟩
      have HF := Lib.hid hfnd.symm
      clear hfnd
      go_enter Try.func15, Try.ntmps15
      go_wp2_with (first
        | (refine wpList_lookup_raw K rfl _ _ 65 true rfl Try.underlying65 mp f (encL M) c (.agg Ans.zero.cells) (HZ.out _) rfl rfl HM.out ?_; rw [HV.out, HF.out]; simp only [if_true])
        | (refine wpList_store_row rfl 69 _ _ rfl _ rfl av.cells rfl 69 _ (Cel.new _ _ _) (by kernel_rfl) rfl rfl ?_; rw [setRow_alloc _ _ _ _ _ rfl])
        | fail)
      go_ret
      refine ⟨?_, (Mod.refl _ _).alloc _⟩
      rw [HAB.out, HF.out]
      rfl

set_option maxHeartbeats 1000000 in
theorem ahead_any (a b : Ans) (w : World) : Calls Try.prog 30 #[.agg a.cells, .agg b.cells] w fun e w' => e = .returned (.bool (aheadB a b)) ∧ Mod [] w w' := by
  unfold Ans.cells
  have HB := Lib.hid (show aheadB a b = if a.r = b.r ∧ a.w = b.w then decide (a.turn < b.turn) else decide (b.r < a.r ∨ (a.r = b.r ∧ b.w < a.w)) from rfl)
  generalize aheadB a b = AB at *
  obtain ⟨t1, o1, r1, w1, v1⟩ := a
  obtain ⟨t2, o2, r2, w2, v2⟩ := b
  simp only at HB ⊢
  by_cases h : r1 = r2 ∧ w1 = w2
  · obtain ⟨rfl, rfl⟩ := h
    have hAB := HB.out
    rw [if_pos ⟨rfl, rfl⟩] at hAB
    subst hAB
    clear HB
    go_enter Try.func30, Try.ntmps30
    go_wp2
    go_ret
    exact ⟨rfl, ((Mod.refl _ _).alloc _).alloc _⟩
  · have hAB := HB.out
    rw [if_neg h] at hAB
    have hres : decide (0 < orI (cmpI r1 r2) (cmpI w1 w2)) = AB := by
      rw [hAB, decide_eq_decide]
      unfold orI cmpI
      by_cases e1 : r1 < r2
      · simp [e1]; omega
      · by_cases e2 : r2 < r1
        · simp [e1, e2]
        · have : r1 = r2 := by omega
          subst this
          by_cases e3 : w1 < w2
          · simp [e3]; omega
          · by_cases e4 : w2 < w1
            · simp [e3, e4]
            · exact absurd ⟨rfl, by omega⟩ h
    have hc : ∃ c1 c2, ((r1 == r2) = c1) ∧ ((w1 == w2) = c2) ∧ (c1 && c2) = false := ⟨_, _, rfl, rfl, by simp; omega⟩
    have HR := Lib.hid hres
    clear HB hAB hres
    generalize hA : cmpI r1 r2 = A at *
    generalize hB : cmpI w1 w2 = B at *
    have HA := Lib.hid hA
    have HBB := Lib.hid hB
    clear hA hB
    have hne : ¬ (r1 = r2 ∧ w1 = w2) := h
    by_cases h1 : r1 = r2
    · subst h1
      have h2 : (w1 == w2) = false := by rw [beq_eq_false_iff_ne]; exact fun e => h ⟨rfl, e⟩
      clear h hne hc
      go_enter Try.func30, Try.ntmps30
      go_wp2_with (first
        | (go_at_call_of 31 (Value.int .i64 w1); refine (compare_any w1 w2 _).mono ?_; rw [HBB.out]; rintro e w' ⟨rfl, rfl⟩)
        | (go_at_call 31; refine (compare_any r1 r1 _).mono ?_; rw [HA.out]; rintro e w' ⟨rfl, rfl⟩)
        | fail)
      refine (or_any _ A B _ (by first | rfl | (rw [(Cel.new _ _ _).cell]; rfl) | (have := (Cel.new ((w.alloc (.cells (⟨t1, o1, r1, w1, v1⟩ : Ans).cells 69)).alloc (.cells (⟨t2, o2, r1, w2, v2⟩ : Ans).cells 69)) #[.int .i64 A, .int .i64 B] 3).cell 0; simpa using this)) (by first | rfl | (have := (Cel.new ((w.alloc (.cells (⟨t1, o1, r1, w1, v1⟩ : Ans).cells 69)).alloc (.cells (⟨t2, o2, r1, w2, v2⟩ : Ans).cells 69)) #[.int .i64 A, .int .i64 B] 3).cell 1; simpa using this))).mono ?_
      rintro e w' ⟨rfl, rfl⟩
      go_wp2
      go_ret
      rw [HR.out]
      exact ⟨rfl, (((Mod.refl _ _).alloc _).alloc _).alloc _⟩
    · have h2 : (r1 == r2) = false := by rw [beq_eq_false_iff_ne]; exact h1
      clear h hne hc h1
      go_enter Try.func30, Try.ntmps30
      go_wp2_with (first
        | (go_at_call_of 31 (Value.int .i64 w1); refine (compare_any w1 w2 _).mono ?_; rw [HBB.out]; rintro e w' ⟨rfl, rfl⟩)
        | (go_at_call_of 31 (Value.int .i64 r1); refine (compare_any r1 r2 _).mono ?_; rw [HA.out]; rintro e w' ⟨rfl, rfl⟩)
        | fail)
      refine (or_any _ A B _ (by first | rfl | (rw [(Cel.new _ _ _).cell]; rfl) | (have := (Cel.new ((w.alloc (.cells (⟨t1, o1, r1, w1, v1⟩ : Ans).cells 69)).alloc (.cells (⟨t2, o2, r2, w2, v2⟩ : Ans).cells 69)) #[.int .i64 A, .int .i64 B] 3).cell 0; simpa using this)) (by first | rfl | (have := (Cel.new ((w.alloc (.cells (⟨t1, o1, r1, w1, v1⟩ : Ans).cells 69)).alloc (.cells (⟨t2, o2, r2, w2, v2⟩ : Ans).cells 69)) #[.int .i64 A, .int .i64 B] 3).cell 1; simpa using this))).mono ?_
      rintro e w' ⟨rfl, rfl⟩
      go_wp2
      go_ret
      rw [HR.out]
      exact ⟨rfl, (((Mod.refl _ _).alloc _).alloc _).alloc _⟩

end Go.Proofs.Ytlkfejnjdlebbaa
