/- The sequencer's example answers true. No condition. -/
import Derived.Test.YtlkfejnjdlebbaaTokD
namespace Go.Proofs.Ytlkfejnjdlebbaa
open Go.RowKit

def msgTok (ep at_ : Int) : Msg := { Msg.none with kind := 8, ep := ep, at_ := at_ }
def msgStart (ep at_ : Int) : Msg := { Msg.none with kind := 9, ep := ep, at_ := at_ }

theorem ans1 : answerS (-1) 0 (List.replicate 8 (-1)) (msgTok 0 0) = (({ Msg.none with kind := 8, rep := true, err := 8 }, true), -1, 0, List.replicate 8 (-1)) := by rfl
theorem ans2 : answerS (-1) 0 (List.replicate 8 (-1)) (msgStart 0 5) = (({ Msg.none with kind := 9, at_ := 5, rep := true, tail := 5, back := 0 }, true), 0, 5, List.replicate 8 (-1)) := by rfl
theorem ans3 : answerS 0 5 (List.replicate 8 (-1)) (msgTok 0 2) = (({ Msg.none with kind := 8, at_ := 2, rep := true, tail := 5, back := -1 }, true), 0, 6, [-1, -1, 5, -1, -1, -1, -1, -1]) := by rfl

set_option maxHeartbeats 2000000 in
theorem speaks_any (w : World) : Calls Try.prog 7 #[] w fun en w' => en = .returned (.bool true) ∧ Mod [] w w' := by
  go_enter Try.func7, Try.ntmps7
  go_wp2_with fail
  refine (new_any _).mono ?_
  rintro e w1 ⟨rfl, hc, hm⟩
  have hz := hm.size
  obtain ⟨s, hs⟩ : ∃ s, s = w.heap.size := ⟨_, rfl⟩
  rw [← hs] at hc ⊢
  have HS := Lib.hid hs
  clear hs
  go_wp2_with fail
  have h1 := answer_any s (msgTok 0 0) (-1) 0 (List.replicate 8 (-1)) rfl (by decide) w1 hc
  rw [ans1] at h1
  refine h1.mono ?_
  rintro e w2 ⟨rfl, hc2, hm2⟩
  clear h1 hc
  go_wp2_with fail
  have h1 := answer_any s (msgStart 0 5) (-1) 0 (List.replicate 8 (-1)) rfl (by decide) _ (hc2.alloc (.cells { Msg.none with kind := 8, rep := true, err := 8 : Msg }.cells 33))
  rw [ans2] at h1
  refine h1.mono ?_
  rintro e w3 ⟨rfl, hc3, hm3⟩
  clear h1
  go_wp2_with fail
  have h1 := answer_any s (msgTok 0 2) 0 5 (List.replicate 8 (-1)) rfl (by decide) _ (hc3.alloc (.cells { Msg.none with kind := 9, at_ := 5, rep := true, tail := 5, back := 0 : Msg }.cells 33))
  rw [ans3] at h1
  refine h1.mono ?_
  rintro e w4 ⟨rfl, hc4, hm4⟩
  clear h1
  have l2 := hc2.lt
  have l3 := hc3.lt
  have z3 := hm3.size
  have z4 := hm4.size
  simp only [World.size_alloc] at z3 z4
  have a3 := (Cel.new w2 { Msg.none with kind := 8, rep := true, err := 8 : Msg }.cells 33).mod hm3 (by simp; omega)
  have a4 := (a3.alloc (.cells { Msg.none with kind := 9, at_ := 5, rep := true, tail := 5, back := 0 : Msg }.cells 33)).mod hm4 (by simp; omega)
  have b4 := (Cel.new w3 { Msg.none with kind := 9, at_ := 5, rep := true, tail := 5, back := 0 : Msg }.cells 33).mod hm4 (by simp; omega)
  have ca : w4.cell? ⟨w2.heap.size, 12, none⟩ = some (.int .i64 8) := a4.cell 12
  have cb : w4.cell? ⟨w3.heap.size, 12, none⟩ = some (.int .i64 0) := b4.cell 12
  have g2 : w2.heap.size < w4.heap.size := by omega
  have g3 : w3.heap.size < w4.heap.size := by omega
  have hmm : Mod [] w w4 := by
    have e := HS.out
    have t1 : Mod [] w w2 := hm.then hm2 (by simp; omega)
    have t2 : Mod [] w w3 := (t1.alloc _).then hm3 (by simp; omega)
    exact (t2.alloc _).then hm4 (by simp; omega)
  clear a3 a4 b4 hm hm2 hm3 hm4 hc2 hc3
  go_wp2_with fail
  refine (next_any s 0 6 _ _ (hc4.alloc _)).mono ?_
  rintro e w5 ⟨rfl, rfl⟩
  go_wp2
  go_ret
  exact ⟨rfl, hmm.alloc _⟩
end Go.Proofs.Ytlkfejnjdlebbaa
