/- Promised with empty ballots and no values; the conversion of bytes; the ballot's example answers true. No condition. -/
import Derived.Test.YtlkfejnjdlebbaaBalH
import Derived.Lib.BufferRead
import Derived.Lib.SlBytesConst
namespace Go.Proofs.Ytlkfejnjdlebbaa
open Go.RowKit

theorem conv8 {w : World} {s : Slc} {l : List UInt8} (h : Rd8 w s l) : (convert 26 9 (.slice s.a s.len s.cap)).run Try.prog w = .ok (.string ⟨l.toArray⟩) w := by
  obtain ⟨a, n, c⟩ := s
  obtain ⟨h1, h2, h3⟩ := h
  simp only at h1 h2 h3 ⊢
  subst h1
  cases a with
  | none =>
    obtain ⟨h4, rfl⟩ := h2 rfl
    rw [h4, List.length_eq_zero_iff.1 h4]
    exact Lib.run_convert_nil_bytes w _ _ 5 0 Try.underlying26 Try.underlying5 Try.underlying9
  | some x =>
    refine run_convert_bytes_back w _ _ 5 x c l Try.underlying26 Try.underlying5 Try.underlying9 (fun j hj => ?_)
    rw [h3 x rfl j hj, List.getD_eq_getElem?_getD, List.getElem?_eq_getElem hj]
    rfl

/-- The bytes of a constant text: a row that bears the run-time's mark. -/
theorem rd8_const (w : World) (l : List UInt8) : Rd8 (w.alloc (.cells (l.map u8v).toArray 5 (l.length, l.length + 1))) ⟨some ⟨w.heap.size, 0, none⟩, l.length, l.length⟩ l := by
  refine ⟨rfl, (fun hx => by cases hx), fun x hx i hi => ?_⟩
  simp only [Option.some.injEq] at hx
  subst hx
  simp only at hi
  have hadd : (⟨w.heap.size, 0, none⟩ : Addr).add i = ⟨w.heap.size, i, none⟩ := by unfold Addr.add; split <;> simp_all
  rw [hadd]
  unfold World.cell? World.alloc
  simp only [Array.getElem?_push_size]
  simp [List.getElem?_eq_getElem hi, List.getD_eq_getElem?_getD]

def gPromE (g : GSt) (f : Int) : GSt :=
  if g.phase = 1 ∧ gAsked g f = true then
    if (gTake g f ⟨true, 0, 0, []⟩).2 = true then { (gTake g f ⟨true, 0, 0, []⟩).1 with phase := 2, ans := [], agreed := 0 } else (gTake g f ⟨true, 0, 0, []⟩).1
  else g
def NoCand (g : GSt) : Prop := ∀ x ∈ g.ans, ¬ gCand x.2
theorem gTake_ans (g : GSt) (f : Int) (a : GA) : (gTake g f a).1.ans = g.ans ++ [(f, a)] := by
  unfold gTake; split <;> (try split) <;> rfl
theorem gProm_empty {g g' : GSt} {f : Int} (hn : NoCand g) (h : GProm g f 0 0 [] 0 g') : g' = gPromE g f := by
  unfold GProm at h
  unfold gPromE
  have e : gAns 0 0 0 [] = ⟨true, 0, 0, []⟩ := rfl
  rw [e] at h
  split
  · rename_i h1
    rw [if_pos h1] at h
    split
    · rename_i h2
      rw [if_pos h2] at h
      obtain ⟨v, hv, rfl⟩ := h
      rcases hv with ⟨_, rfl⟩ | ⟨i, x, hx, hc, _, _⟩
      · simp only [gTake_vb]
      · rw [gTake_ans] at hx
        rcases List.mem_append.1 (List.mem_of_getElem? hx) with h3 | h3
        · exact absurd hc (hn x h3)
        · simp at h3; subst h3; exact absurd ⟨rfl, rfl⟩ hc.2
    · rename_i h2
      rw [if_neg h2] at h
      exact h
  · rename_i h1
    rw [if_neg h1] at h
    exact h
theorem promisedE_rep (b mp : Nat) (g : GSt) (f : Int) (w : World) (h : PRep w b mp g) (hk : GOk g) (hn : NoCand g) :
    Calls Try.prog 16 #[.pointer (some ⟨b, 0, none⟩), .int .i64 f, .agg #[.int .i64 0, .int .i64 0], .slice none 0 0, .int .i64 0] w fun en w' => en = .returned (.tuple #[]) ∧
      ∃ mp', (mp' = mp ∨ w.heap.size ≤ mp') ∧ PRep w' b mp' (gPromE g f) ∧ Mod [b, mp] w w' := by
  refine (promised_rep b mp g f 0 0 ⟨none, 0, 0⟩ [] 0 w h hk (Own8.nil w).rd (by simp)).mono ?_
  rintro e w' ⟨rfl, g', mp', hg, hmp, hP, hM⟩
  rw [gProm_empty hn hg] at hP
  exact ⟨rfl, mp', hmp, hP, hM⟩

def vg0 : GSt := ⟨3, 1, 0, [118], 1, [], 0⟩
def vg1 : GSt := ⟨3, 1, 0, [118], 1, [(0, ⟨true, 0, 0, []⟩)], 1⟩
def vg2 : GSt := ⟨3, 1, 0, [118], 2, [], 0⟩
def vg3 : GSt := ⟨3, 1, 0, [118], 2, [(1, ⟨true, 0, 0, []⟩)], 1⟩
def vg4 : GSt := ⟨3, 1, 0, [118], 3, [(1, ⟨true, 0, 0, []⟩), (0, ⟨true, 0, 0, []⟩)], 2⟩
theorem vp1 : gPromE vg0 0 = vg1 := by rfl
theorem vp2 : gPromE vg1 2 = vg2 := by rfl
theorem vp3 : gAccepted vg2 1 0 = vg3 := by rfl
theorem vp4 : gAccepted vg3 1 0 = vg3 := by rfl
theorem vp5 : gAccepted vg3 0 0 = vg4 := by rfl

set_option maxHeartbeats 2000000 in
theorem bspeaks_any (w : World) : Calls Try.prog 12 #[] w fun en w' => en = .returned (.bool true) ∧ Mod [] w w' := by
  have hr : Rd8 (w.alloc (.cells #[.int .u8 118] 5 (1, 2))) ⟨some ⟨w.heap.size, 0, none⟩, 1, 1⟩ [118] := rd8_const w [118]
  have hM0 := (Mod.refl [] w).alloc (.cells #[.int .u8 118] 5 (1, 2))
  have hci : (convert 26 26 (.slice (some ⟨w.heap.size, 0, none⟩) 1 1)).run Try.prog (w.alloc (.cells #[.int .u8 118] 5)) = .ok (.slice (some ⟨w.heap.size, 0, none⟩) 1 1) (w.alloc (.cells #[.int .u8 118] 5 (1, 2))) :=
    Lib.run_convert_bytes_const w _ 5 #[.int .u8 118] 1 1 Try.underlying26 Try.underlying5
  have HST := Lib.hid (start_bal 3 1 0 _ [118] _ hr (by simp) (by decide))
  have HM0 := Lib.hid hM0
  clear hr hM0
  go_enter Try.func12, Try.ntmps12
  go_wp2_with fail
  refine HST.out.mono ?_
  rintro e w1 ⟨b, m0, rfl, hb, hm0, hP1, hM1⟩
  have hz1 := hM1.size
  have hb' : w.heap.size ≤ b := by have := HM0.out.size; omega
  have hm0' : w.heap.size ≤ m0 := by have := HM0.out.size; omega
  have hMa : Mod [] w w1 := HM0.out.trans hM1
  clear hb hm0 hM1 HST
  go_wp2_with fail
  refine (promisedE_rep b m0 vg0 0 w1 hP1 ⟨by decide, by decide, by decide, by decide, by decide, by decide⟩ (fun x hx => by cases hx)).mono ?_
  rintro e w2 ⟨rfl, m1, hm1, hP2, hM2⟩
  rw [vp1] at hP2
  have hMb : Mod [] w w2 := hMa.then hM2 (by simp; omega)
  have hm1' : w.heap.size ≤ m1 := by have := hMa.size; omega
  clear hP1 hM2
  go_wp2_with fail
  refine (promisedE_rep b m1 vg1 2 w2 hP2 ⟨by decide, by decide, by decide, by decide, by decide, by decide⟩ (fun x hx => by simp [vg1] at hx; subst hx; simp [gCand])).mono ?_
  rintro e w3 ⟨rfl, m2, hm2, hP3, hM3⟩
  rw [vp2] at hP3
  have hMc : Mod [] w w3 := hMb.then hM3 (by simp; omega)
  have hm2' : w.heap.size ≤ m2 := by have := hMb.size; omega
  clear hP2 hM3
  go_wp2_with fail
  refine (accepted_rep b m2 vg2 1 0 w3 hP3 ⟨by decide, by decide, by decide, by decide, by decide, by decide⟩).mono ?_
  rintro e w4 ⟨rfl, hP4, hM4⟩
  rw [vp3] at hP4
  have hMd : Mod [] w w4 := hMc.then hM4 (by simp; omega)
  clear hP3 hM4
  go_wp2_with fail
  refine (accepted_rep b m2 vg3 1 0 w4 hP4 ⟨by decide, by decide, by decide, by decide, by decide, by decide⟩).mono ?_
  rintro e w5 ⟨rfl, hP5, hM5⟩
  rw [vp4] at hP5
  have hMe : Mod [] w w5 := hMd.then hM5 (by simp; omega)
  clear hP4 hM5
  go_wp2_with fail
  refine (phase_rep b m2 vg3 w5 hP5).mono ?_
  rintro e w6 ⟨rfl, rfl⟩
  go_wp2_with fail
  refine (accepted_rep b m2 vg3 0 0 w5 hP5 ⟨by decide, by decide, by decide, by decide, by decide, by decide⟩).mono ?_
  rintro e w6 ⟨rfl, hP6, hM6⟩
  rw [vp5] at hP6
  have hMf : Mod [] w w6 := hMe.then hM6 (by simp; omega)
  have e2 : vg3.phase = 2 := rfl
  rw [e2]
  have hph := phase_rep b m2 vg4 w6 hP6
  have e4 : vg4.phase = 3 := rfl
  rw [e4] at hph
  have hva := value_rep b m2 vg4 w6 hP6 (by decide)
  have HPH := Lib.hid hph
  have HVA := Lib.hid hva
  clear hP5 hM6 hph hva
  go_wp2_with (first
    | (go_at_call 14; refine HPH.out.mono ?_; rintro e w7 ⟨rfl, rfl⟩)
    | (go_at_call 18; refine HVA.out.mono ?_; rintro e w7 ⟨s', rfl, ho, _, hm7⟩; have hcv := conv8 ho.rd; have e5 : vg4.vb = [118] := rfl; rw [e5] at hcv)
    | fail)
  go_ret
  exact ⟨rfl, hMf.trans hm7⟩
end Go.Proofs.Ytlkfejnjdlebbaa
