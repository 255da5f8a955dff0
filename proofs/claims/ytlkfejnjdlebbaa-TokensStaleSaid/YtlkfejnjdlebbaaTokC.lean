/- Contracts of the sequencer's table of deeds, of its closures, and of Answer. No condition. -/
import Derived.Test.YtlkfejnjdlebbaaTokB
namespace Go.Proofs.Ytlkfejnjdlebbaa
open Go.RowKit

def deedMap (N : Nat) : Obj := .map #[{ key := .int .i64 9, val := .func (.func 25) #[] #[.pointer (some ⟨N, 0, none⟩), .pointer (some ⟨N + 1, 0, none⟩), .pointer (some ⟨N + 2, 0, none⟩)], born := 0 },
  { key := .int .i64 8, val := .func (.func 27) #[] #[.pointer (some ⟨N, 0, none⟩), .pointer (some ⟨N + 1, 0, none⟩), .pointer (some ⟨N + 2, 0, none⟩)], born := 1 }] 2

theorem hp_alloc_new (w : World) (o : Obj) (n : Nat) (h : n = w.heap.size) : (w.alloc o).heap[n]? = some o := by rw [hp_alloc, if_pos h]
theorem hp_alloc_old (w : World) (o : Obj) (n : Nat) (h : n < w.heap.size) : (w.alloc o).heap[n]? = w.heap[n]? := by rw [hp_alloc, if_neg (by omega)]

set_option maxHeartbeats 1000000 in
theorem deeds_any (s r : Nat) (mc : Array Value) (w : World) :
    Calls Try.prog 21 #[.pointer (some ⟨s, 0, none⟩), .agg mc, .pointer (some ⟨r, 0, none⟩)] w fun en w' => en = .returned (.map (some (w.heap.size + 3))) ∧
      Cel w' w.heap.size #[.pointer (some ⟨s, 0, none⟩)] 24 ∧ Cel w' (w.heap.size + 1) mc 33 ∧ Cel w' (w.heap.size + 2) #[.pointer (some ⟨r, 0, none⟩)] 63 ∧
      w'.heap[w.heap.size + 3]? = some (deedMap w.heap.size) ∧ Mod [] w w' ∧ w.heap.size + 4 ≤ w'.heap.size := by
  have hmm := @run_makeMap Try.prog
  have K : KeyEnc Try.prog 3 (fun n : Int => Value.int .i64 n) := int_enc Try.underlying3
  go_enter Try.func21, Try.ntmps21
  go_wp2_with (first
    | (refine wpList_insert_raw K rfl _ _ _ 61 rfl Try.underlying61 _ 9 _ [] 0 rfl rfl rfl (by rw [hp_alloc, if_pos (by simp)]; rfl) ?_; rw [setObj_alloc _ _ _ _ (by simp)])
    | (refine wpList_insert_raw K rfl _ _ _ 61 rfl Try.underlying61 _ 8 _ _ _ rfl rfl rfl (by rw [hp_alloc, if_pos (by simp)]) ?_; rw [setObj_alloc _ _ _ _ (by simp)]))
  go_ret
  refine ⟨rfl, (((Cel.new _ _ _).alloc _).alloc _).alloc _, ?_, ?_, ?_, (((((Mod.refl [] w).alloc _).alloc _).alloc _).alloc _), by simp⟩
  · have := ((Cel.new (w.alloc (.cells #[.pointer (some ⟨s, 0, none⟩)] 24)) mc 33).alloc (.cells #[.pointer (some ⟨r, 0, none⟩)] 63))
    simp only [World.size_alloc] at this
    exact this.alloc _
  · have := Cel.new ((w.alloc (.cells #[.pointer (some ⟨s, 0, none⟩)] 24)).alloc (.cells mc 33)) #[.pointer (some ⟨r, 0, none⟩)] 63
    simp only [World.size_alloc] at this
    exact this.alloc _
  · rw [hp_alloc, if_pos (by simp)]; rfl


set_option maxHeartbeats 1000000 in
theorem deed1_any (N s r : Nat) (m rm : Msg) (e n : Int) (l : List Int) (hl : l.length = 8) (w : World) (h0 : Cel w N #[.pointer (some ⟨s, 0, none⟩)] 24) (h1 : Cel w (N + 1) m.cells 33)
    (h2 : Cel w (N + 2) #[.pointer (some ⟨r, 0, none⟩)] 63) (hs : Cel w s (Seqc e n l) 58) (hr : Cel w r rm.cells 33)
    (n0 : N ≠ s) (n1 : N + 1 ≠ s) (n2 : N + 2 ≠ s) (n3 : r ≠ s) (n4 : N ≠ r) (n5 : N + 1 ≠ r) (n6 : N + 2 ≠ r) :
    Calls Try.prog 25 #[.pointer (some ⟨N, 0, none⟩), .pointer (some ⟨N + 1, 0, none⟩), .pointer (some ⟨N + 2, 0, none⟩)] w fun en w' => en = .returned (.tuple #[]) ∧
      Cel w' s (Seqc (startS e n l m.ep m.at_).2.1 (startS e n l m.ep m.at_).2.2.1 (startS e n l m.ep m.at_).2.2.2) 58 ∧
      Cel w' r { rm with err := (startS e n l m.ep m.at_).1, tail := if (startS e n l m.ep m.at_).1 = 0 then (startS e n l m.ep m.at_).2.2.1 else rm.tail, back := (startS e n l m.ep m.at_).2.1 : Msg }.cells 33 ∧ Mod [s, r] w w' := by
  have c0 : w.cell? ⟨N, 0, none⟩ = some (.pointer (some ⟨s, 0, none⟩)) := h0.cell 0
  have c2 : w.cell? ⟨N + 2, 0, none⟩ = some (.pointer (some ⟨r, 0, none⟩)) := h2.cell 0
  have c15 : w.cell? ⟨N + 1, 5, none⟩ = some (.int .i64 m.ep) := h1.cell 5
  have c16 : w.cell? ⟨N + 1, 6, none⟩ = some (.int .i64 m.at_) := h1.cell 6
  have hst := start_any s e n l m.ep m.at_ hl w.drew hs.drew
  generalize startS e n l m.ep m.at_ = S at hst ⊢
  obtain ⟨E, e', n', l'⟩ := S
  simp only at hst ⊢
  have HST := Lib.hid hst
  clear hst
  go_enter Try.func25, Try.ntmps25
  go_wp2_with fail
  go_region_held3 (fun w' => w'.cell? ⟨N, 0, none⟩ = some (.pointer (some ⟨s, 0, none⟩)) ∧ w'.cell? ⟨N + 2, 0, none⟩ = some (.pointer (some ⟨r, 0, none⟩)) ∧ w'.cell? ⟨N + 1, 5, none⟩ = some (.int .i64 m.ep) ∧ w'.cell? ⟨N + 1, 6, none⟩ = some (.int .i64 m.at_))
    (first | exact ⟨c0, c2, c15, c16⟩ | exact ⟨(h0.drew.mod hm (by simp [n0])).cell 0, (h2.drew.mod hm (by simp [n2])).cell 0, (h1.drew.mod hm (by simp [n1])).cell 5, (h1.drew.mod hm (by simp [n1])).cell 6⟩ | exact ⟨((h0.drew.mod hm (by simp [n0])).setOther (Ne.symm n4) _).cell 0, ((h2.drew.mod hm (by simp [n2])).setOther (Ne.symm n6) _).cell 0, ((h1.drew.mod hm (by simp [n1])).setOther (Ne.symm n5) _).cell 5, ((h1.drew.mod hm (by simp [n1])).setOther (Ne.symm n5) _).cell 6⟩)
    (first | (go_at_call 26; refine HST.out.mono ?_; rintro e1 w1 ⟨rfl, hc, hm⟩; have hr1 := hr.drew.mod hm (by simp [n3]); have c12 : w1.cell? ⟨r, 12, none⟩ = some (.int .i64 rm.err) := hr1.cell 12; have f12 := hr1.frozen 12))
  have g0 := (h0.drew.mod hm (by simp [n0])).setOther (a := ⟨r, 12, none⟩) (Ne.symm n4) (.int .i64 E)
  have g2 := (h2.drew.mod hm (by simp [n2])).setOther (a := ⟨r, 12, none⟩) (Ne.symm n6) (.int .i64 E)
  have hc' := hc.setOther (a := ⟨r, 12, none⟩) n3 (.int .i64 E)
  have hr' : Cel (w1.setCell ⟨r, 12, none⟩ (.int .i64 E)) r ({ rm with err := E } : Msg).cells 33 := hr1.set 12 _
  have hm' : Mod [s, r] w (w1.setCell ⟨r, 12, none⟩ (.int .i64 E)) := (((Mod.refl [s, r] w).drew).then hm (by simp)).setCell (.inl (by simp)) _
  generalize w1.setCell ⟨r, 12, none⟩ (.int .i64 E) = w2 at *
  clear c0 c2 c15 c16 c12 f12 hr1 hm hc hr hs h0 h1 h2 HST
  have c0 : w2.cell? ⟨N, 0, none⟩ = some (.pointer (some ⟨s, 0, none⟩)) := g0.cell 0
  have c2 : w2.cell? ⟨N + 2, 0, none⟩ = some (.pointer (some ⟨r, 0, none⟩)) := g2.cell 0
  have c12 : w2.cell? ⟨r, 12, none⟩ = some (.int .i64 E) := hr'.cell 12
  have c1 : w2.cell? ⟨s, 1, none⟩ = some (.int .i64 n') := hc'.cell 1
  have cs0 : w2.cell? ⟨s, 0, none⟩ = some (.int .i64 e') := hc'.cell 0
  have c13 : w2.cell? ⟨r, 13, none⟩ = some (.int .i64 rm.tail) := hr'.cell 13
  have f13 := hr'.frozen 13
  have c15 : w2.cell? ⟨r, 15, none⟩ = some (.int .i64 rm.back) := hr'.cell 15
  have f15 := hr'.frozen 15
  have G0 := Lib.hid g0
  have G2 := Lib.hid g2
  have HC := Lib.hid hc'
  have HR := Lib.hid hr'
  have HM := Lib.hid hm'
  clear g0 g2 hc' hr' hm'
  by_cases hE : E = 0
  · subst hE
    go_wp2
    go_region
    all_goals go_wp2
    all_goals go_region
    all_goals go_end0
    exact ⟨rfl, (HC.out.setOther n3 _).setOther n3 _, (HR.out.set 13 (.int .i64 n')).set 15 (.int .i64 e'), ((HM.out.setCell (.inl (by simp)) _).setCell (.inl (by simp)) _).drew.drew⟩
  · have hE' : (E == 0) = false := by simpa using hE
    have HE := Lib.hid hE
    clear hE
    go_wp2
    go_region
    all_goals go_end0
    refine ⟨rfl, HC.out.setOther n3 _, ?_, (HM.out.setCell (.inl (by simp)) _).drew⟩
    rw [if_neg HE.out]
    exact HR.out.set 15 (.int .i64 e')

set_option maxHeartbeats 1000000 in
theorem deed2_any (N s r : Nat) (m rm : Msg) (e n : Int) (l : List Int) (hl : l.length = 8) (hn : 0 ≤ n) (w : World) (h0 : Cel w N #[.pointer (some ⟨s, 0, none⟩)] 24) (h1 : Cel w (N + 1) m.cells 33)
    (h2 : Cel w (N + 2) #[.pointer (some ⟨r, 0, none⟩)] 63) (hs : Cel w s (Seqc e n l) 58) (hr : Cel w r rm.cells 33)
    (n0 : N ≠ s) (n1 : N + 1 ≠ s) (n2 : N + 2 ≠ s) (n3 : r ≠ s) (n4 : N ≠ r) (n5 : N + 1 ≠ r) (n6 : N + 2 ≠ r) :
    Calls Try.prog 27 #[.pointer (some ⟨N, 0, none⟩), .pointer (some ⟨N + 1, 0, none⟩), .pointer (some ⟨N + 2, 0, none⟩)] w fun en w' => en = .returned (.tuple #[]) ∧
      Cel w' s (Seqc e (tokenS e n l m.ep m.at_).2.1 (tokenS e n l m.ep m.at_).2.2) 58 ∧
      Cel w' r { rm with err := (tokenS e n l m.ep m.at_).1.2.2, tail := (tokenS e n l m.ep m.at_).1.1, back := (tokenS e n l m.ep m.at_).1.2.1 : Msg }.cells 33 ∧ Mod [s, r] w w' := by
  have m4 := Ne.symm n4
  have m5 := Ne.symm n5
  have m6 := Ne.symm n6
  have c0 : w.cell? ⟨N, 0, none⟩ = some (.pointer (some ⟨s, 0, none⟩)) := h0.cell 0
  have c2 : w.cell? ⟨N + 2, 0, none⟩ = some (.pointer (some ⟨r, 0, none⟩)) := h2.cell 0
  have c15 : w.cell? ⟨N + 1, 5, none⟩ = some (.int .i64 m.ep) := h1.cell 5
  have c16 : w.cell? ⟨N + 1, 6, none⟩ = some (.int .i64 m.at_) := h1.cell 6
  have hst := token_any s e n l m.ep m.at_ hl hn w.drew hs.drew
  generalize tokenS e n l m.ep m.at_ = S at hst ⊢
  obtain ⟨⟨A, B, E⟩, n', l'⟩ := S
  simp only at hst ⊢
  have HST := Lib.hid hst
  clear hst
  go_enter Try.func27, Try.ntmps27
  go_wp2_with fail
  go_region_held3 (fun w' => w'.cell? ⟨N, 0, none⟩ = some (.pointer (some ⟨s, 0, none⟩)) ∧ w'.cell? ⟨N + 2, 0, none⟩ = some (.pointer (some ⟨r, 0, none⟩)) ∧ w'.cell? ⟨N + 1, 5, none⟩ = some (.int .i64 m.ep) ∧ w'.cell? ⟨N + 1, 6, none⟩ = some (.int .i64 m.at_))
    (first | exact ⟨c0, c2, c15, c16⟩ | exact ⟨k0, k2, k15, k16⟩ | (refine ⟨?_, ?_, ?_, ?_⟩ <;> simp only [World.cell?_setCell_far, k0, k2, k15, k16, m4, m5, m6, ne_eq, not_false_eq_true]))
    (first | (go_at_call 28; refine HST.out.mono ?_; rintro e1 w1 ⟨rfl, hc, hm⟩; have k0 : w1.cell? ⟨N, 0, none⟩ = some (.pointer (some ⟨s, 0, none⟩)) := (h0.drew.mod hm (by simp [n0])).cell 0; have k2 : w1.cell? ⟨N + 2, 0, none⟩ = some (.pointer (some ⟨r, 0, none⟩)) := (h2.drew.mod hm (by simp [n2])).cell 0; have k15 : w1.cell? ⟨N + 1, 5, none⟩ = some (.int .i64 m.ep) := (h1.drew.mod hm (by simp [n1])).cell 5; have k16 : w1.cell? ⟨N + 1, 6, none⟩ = some (.int .i64 m.at_) := (h1.drew.mod hm (by simp [n1])).cell 6; have hr1 := hr.drew.mod hm (by simp [n3]); have c12 : w1.cell? ⟨r, 12, none⟩ = some (.int .i64 rm.err) := hr1.cell 12; have f12 := hr1.frozen 12; have c13 : w1.cell? ⟨r, 13, none⟩ = some (.int .i64 rm.tail) := hr1.cell 13; have f13 := hr1.frozen 13; have c115 : w1.cell? ⟨r, 15, none⟩ = some (.int .i64 rm.back) := hr1.cell 15; have f115 := hr1.frozen 15))
  go_end0
  exact ⟨rfl, ((hc.setOther n3 _).setOther n3 _).setOther n3 _, ((hr1.set 13 (.int .i64 A)).set 15 (.int .i64 B)).set 12 (.int .i64 E),
    ((((((Mod.refl [s, r] w).drew).then hm (by simp)).setCell (.inl (by simp)) _).setCell (.inl (by simp)) _).setCell (.inl (by simp)) _)⟩
end Go.Proofs.Ytlkfejnjdlebbaa
