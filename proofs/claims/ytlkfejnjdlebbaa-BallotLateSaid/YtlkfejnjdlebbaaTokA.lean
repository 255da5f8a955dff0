/- Contracts of the sequencer's small functions. No condition. -/
import Derived.Test.YtlkfejnjdlebbaaBase
namespace Go.Proofs.Ytlkfejnjdlebbaa
open Go.RowKit

def Seqc (e n : Int) (l : List Int) : Array Value := (Value.int .i64 e :: Value.int .i64 n :: l.map (Value.int .i64)).toArray

theorem Seqc_get (e n : Int) (l : List Int) (k : Nat) (h : k < l.length) : (Seqc e n l)[2 + k]? = some (.int .i64 (l.getD k 0)) := by
  obtain ⟨j, rfl⟩ : ∃ j, j = k := ⟨k, rfl⟩
  have e : (Seqc e n l)[2 + j]? = (l.map (Value.int .i64))[j]? := by
    unfold Seqc
    rw [List.getElem?_toArray, Nat.add_comm 2 j, List.getElem?_cons_succ, List.getElem?_cons_succ]
  rw [e, List.getElem?_map, List.getD_eq_getElem?_getD, List.getElem?_eq_getElem h]
  rfl
theorem Seqc_set (e n : Int) (l : List Int) (k : Nat) (v : Int) : (Seqc e n l).setIfInBounds (2 + k) (.int .i64 v) = Seqc e n (l.set k v) := by
  unfold Seqc
  rw [List.setIfInBounds_toArray, Nat.add_comm 2 k, List.set_cons_succ, List.set_cons_succ, List.map_set]
theorem Seqc_set0 (e n : Int) (l : List Int) (v : Int) : (Seqc e n l).setIfInBounds 0 (.int .i64 v) = Seqc v n l := by simp [Seqc]
theorem Seqc_set1 (e n : Int) (l : List Int) (v : Int) : (Seqc e n l).setIfInBounds 1 (.int .i64 v) = Seqc e v l := by simp [Seqc]

theorem forget_rel (l : List Int) (k : Nat) (h : k < l.length) : (List.replicate k (-1 : Int) ++ l.drop k).set k (-1) = List.replicate (k + 1) (-1 : Int) ++ l.drop (k + 1) := by
  rw [List.set_append_right _ _ (by simp), List.length_replicate, Nat.sub_self, List.drop_eq_getElem_cons h, List.replicate_succ', List.set_cons_zero, List.append_assoc]
  rfl

set_option maxHeartbeats 400000 in
theorem forget_any (b : Nat) (e n : Int) (l : List Int) (hl : l.length = 8) (w : World) (h : Cel w b (Seqc e n l) 58) :
    Calls Try.prog 19 #[.pointer (some ⟨b, 0, none⟩)] w fun en w' => en = .returned (.tuple #[]) ∧ Cel w' b (Seqc e n (List.replicate 8 (-1))) 58 ∧ Mod [b] w w' := by
  go_enter Try.func19, Try.ntmps19
  go_wp2
  go_loopw [3] (fun i wr => ∃ k : Nat, k ≤ 8 ∧ i = .int .i64 k ∧ Cel wr b (Seqc e n (List.replicate k (-1) ++ l.drop k)) 58 ∧ Mod [b] w wr) (fun i _ => 8 - (intOf i).toNat)
  case atStart => exact ⟨0, by omega, rfl, by simpa using h, Mod.refl _ _⟩
  case round =>
    obtain ⟨k, hk, rfl, hc, hm⟩ := hrel
    by_cases hlt : k < 8
    · have h2 := hc.cell (2 + k)
      rw [Seqc_get _ _ _ _ (by simp; omega)] at h2
      have f2 := hc.frozen (2 + k)
      go_wp2
      go_roundw
      case rel =>
        refine ⟨k + 1, by omega, by go_num, ?_, hm.setCell (.inl (by simp)) _⟩
        have := hc.set (2 + k) (.int .i64 (-1))
        rw [Seqc_set, forget_rel _ _ (by omega)] at this
        exact this
      case measure => simp [intOf]; omega
    · obtain rfl : k = 8 := by omega
      go_wp2
      go_end0
      refine ⟨rfl, ?_, hm⟩
      rw [List.drop_of_length_le (by omega), List.append_nil] at hc
      exact hc

theorem epoch_any (b : Nat) (e n : Int) (l : List Int) (w : World) (h : Cel w b (Seqc e n l) 58) :
    Calls Try.prog 11 #[.pointer (some ⟨b, 0, none⟩)] w fun en w' => en = .returned (.int .i64 e) ∧ w' = w := by
  have h0 : w.cell? ⟨b, 0, none⟩ = some (.int .i64 e) := h.cell 0
  go_enter Try.func11, Try.ntmps11
  go_wp2
  go_ret
  exact ⟨rfl, rfl⟩

theorem next_any (b : Nat) (e n : Int) (l : List Int) (w : World) (h : Cel w b (Seqc e n l) 58) :
    Calls Try.prog 10 #[.pointer (some ⟨b, 0, none⟩)] w fun en w' => en = .returned (.int .i64 n) ∧ w' = w := by
  have h1 : w.cell? ⟨b, 1, none⟩ = some (.int .i64 n) := h.cell 1
  go_enter Try.func10, Try.ntmps10
  go_wp2
  go_ret
  exact ⟨rfl, rfl⟩

theorem Seqc_zero : Seqc (-1) 0 (List.replicate 8 0) = #[.int .i64 (-1), .int .i64 0, .int .i64 0, .int .i64 0, .int .i64 0, .int .i64 0, .int .i64 0, .int .i64 0, .int .i64 0, .int .i64 0] := by kernel_rfl

theorem new_any (w : World) : Calls Try.prog 8 #[] w fun en w' => en = .returned (.pointer (some ⟨w.heap.size, 0, none⟩)) ∧ Cel w' w.heap.size (Seqc (-1) 0 (List.replicate 8 (-1))) 58 ∧ Mod [] w w' := by
  go_enter Try.func8, Try.ntmps8
  go_wp2_with fail
  refine (forget_any w.heap.size (-1) 0 (List.replicate 8 0) rfl _ (by rw [Seqc_zero]; exact Cel.new _ _ _)).mono ?_
  rintro e w1 ⟨rfl, hc, hm⟩
  go_wp2
  go_ret
  exact ⟨rfl, hc, ((Mod.refl [] w).alloc _).then hm (by simp)⟩

/-- What 'start' makes of a sequencer: the error; epoch, next, last. -/
def startS (e n : Int) (l : List Int) (ep a : Int) : Int × Int × Int × List Int :=
  if ep < e then (8, e, n, l) else if ep < 0 ∨ a < 0 ∨ 4294967296 < a then (1, e, n, l)
  else if e < ep then (0, ep, a, List.replicate 8 (-1)) else (0, e, max n a, l)

set_option maxHeartbeats 1000000 in
theorem start_any (b : Nat) (e n : Int) (l : List Int) (ep a : Int) (hl : l.length = 8) (w : World) (h : Cel w b (Seqc e n l) 58) :
    Calls Try.prog 26 #[.pointer (some ⟨b, 0, none⟩), .int .i64 ep, .int .i64 a] w fun en w' => en = .returned (.int .i64 (startS e n l ep a).1) ∧
      Cel w' b (Seqc (startS e n l ep a).2.1 (startS e n l ep a).2.2.1 (startS e n l ep a).2.2.2) 58 ∧ Mod [b] w w' := by
  have h0 : w.cell? ⟨b, 0, none⟩ = some (.int .i64 e) := h.cell 0
  have h1 : w.cell? ⟨b, 1, none⟩ = some (.int .i64 n) := h.cell 1
  have f0 := h.frozen 0
  have f1 := h.frozen 1
  unfold startS
  by_cases c1 : ep < e
  · rw [if_pos c1]
    go_enter Try.func26, Try.ntmps26
    go_wp2
    go_ret
    exact ⟨rfl, h, Mod.refl _ _⟩
  rw [if_neg c1]
  have d1 : e ≤ ep := by omega
  clear c1
  by_cases c2 : ep < 0 ∨ a < 0 ∨ 4294967296 < a
  · rw [if_pos c2]
    by_cases c3 : ep < 0
    · go_enter Try.func26, Try.ntmps26
      go_wp2
      go_ret
      exact ⟨rfl, h, Mod.refl _ _⟩
    · have d2 : 0 ≤ ep := by omega
      clear c3
      by_cases c4 : a < 0
      · go_enter Try.func26, Try.ntmps26
        go_wp2
        go_ret
        exact ⟨rfl, h, Mod.refl _ _⟩
      · have d3 : 0 ≤ a := by omega
        have d4 : 4294967296 < a := by omega
        clear c4 c2
        go_enter Try.func26, Try.ntmps26
        go_wp2
        go_ret
        exact ⟨rfl, h, Mod.refl _ _⟩
  rw [if_neg c2]
  have d2 : 0 ≤ ep := by omega
  have d3 : 0 ≤ a := by omega
  have d4 : a ≤ 4294967296 := by omega
  clear c2
  by_cases c3 : e < ep
  · rw [if_pos c3]
    go_enter Try.func26, Try.ntmps26
    go_wp2_with fail
    have h' := (h.set 0 (.int .i64 ep)).set 1 (.int .i64 a)
    rw [Seqc_set0, Seqc_set1] at h'
    refine (forget_any b ep a l hl _ h').mono ?_
    rintro e w1 ⟨rfl, hc, hm⟩
    go_wp2
    go_ret
    exact ⟨rfl, hc, (((Mod.refl [b] w).setCell (.inl (by simp)) _).setCell (.inl (by simp)) _).trans hm⟩
  · rw [if_neg c3]
    have d5 : ep ≤ e := by omega
    clear c3
    by_cases c6 : n < a
    · rw [show max n a = a from by omega]
      have h' := h.set 1 (.int .i64 a)
      rw [Seqc_set1] at h'
      have H' := Lib.hid h'
      clear h'
      go_enter Try.func26, Try.ntmps26
      go_wp2
      go_ret
      exact ⟨rfl, H'.out, (Mod.refl [b] w).setCell (.inl (by simp)) _⟩
    · rw [show max n a = n from by omega]
      have h' := h.set 1 (.int .i64 n)
      rw [Seqc_set1] at h'
      have H' := Lib.hid h'
      clear h'
      have c7 : a ≤ n := by omega
      clear c6
      go_enter Try.func26, Try.ntmps26
      go_wp2
      go_ret
      exact ⟨rfl, H'.out, (Mod.refl [b] w).setCell (.inl (by simp)) _⟩

/-- What 'token' makes of a sequencer: what it answers (address, the one ahead, error); next, last. -/
def tokenS (e n : Int) (l : List Int) (ep s : Int) : (Int × Int × Int) × Int × List Int :=
  if e < 0 ∨ ep ≠ e then ((0, 0, 8), n, l) else if s < 0 ∨ 8 ≤ s then ((0, 0, 1), n, l)
  else if 4294967296 < n then ((0, 0, 2), n, l) else ((n, l.getD s.toNat 0, 0), n + 1, l.set s.toNat n)

set_option maxHeartbeats 1000000 in
theorem token_any (b : Nat) (e n : Int) (l : List Int) (ep s : Int) (hl : l.length = 8) (hn : 0 ≤ n) (w : World) (h : Cel w b (Seqc e n l) 58) :
    Calls Try.prog 28 #[.pointer (some ⟨b, 0, none⟩), .int .i64 ep, .int .i64 s] w fun en w' =>
      en = .returned (.tuple #[.int .i64 (tokenS e n l ep s).1.1, .int .i64 (tokenS e n l ep s).1.2.1, .int .i64 (tokenS e n l ep s).1.2.2]) ∧
      Cel w' b (Seqc e (tokenS e n l ep s).2.1 (tokenS e n l ep s).2.2) 58 ∧ Mod [b] w w' := by
  have h0 : w.cell? ⟨b, 0, none⟩ = some (.int .i64 e) := h.cell 0
  have h1 : w.cell? ⟨b, 1, none⟩ = some (.int .i64 n) := h.cell 1
  have f1 := h.frozen 1
  unfold tokenS
  by_cases c1 : e < 0 ∨ ep ≠ e
  · rw [if_pos c1]
    by_cases c2 : e < 0
    · go_enter Try.func28, Try.ntmps28
      go_wp2
      go_ret3
      exact ⟨rfl, h, Mod.refl _ _⟩
    · have d1 : 0 ≤ e := by omega
      have d2 : (ep != e) = true := by rw [bne_iff_ne]; omega
      clear c1 c2
      go_enter Try.func28, Try.ntmps28
      go_wp2
      go_ret3
      exact ⟨rfl, h, Mod.refl _ _⟩
  rw [if_neg c1]
  have d1 : 0 ≤ e := by omega
  obtain rfl : ep = e := by omega
  have d2 : (ep != ep) = false := by simp
  clear c1
  by_cases c2 : s < 0 ∨ 8 ≤ s
  · rw [if_pos c2]
    by_cases c3 : s < 0
    · go_enter Try.func28, Try.ntmps28
      go_wp2
      go_ret3
      exact ⟨rfl, h, Mod.refl _ _⟩
    · have d3 : 0 ≤ s := by omega
      have d4 : 8 ≤ s := by omega
      clear c2 c3
      go_enter Try.func28, Try.ntmps28
      go_wp2
      go_ret3
      exact ⟨rfl, h, Mod.refl _ _⟩
  rw [if_neg c2]
  have d3 : 0 ≤ s := by omega
  have d4 : s < 8 := by omega
  clear c2
  by_cases c3 : 4294967296 < n
  · rw [if_pos c3]
    go_enter Try.func28, Try.ntmps28
    go_wp2
    go_ret3
    exact ⟨rfl, h, Mod.refl _ _⟩
  rw [if_neg c3]
  have d5 : n ≤ 4294967296 := by omega
  clear c3
  have h2 := h.cell (2 + s.toNat)
  rw [Seqc_get _ _ _ _ (by omega)] at h2
  have f2 := h.frozen (2 + s.toNat)
  have h' := (h.set (2 + s.toNat) (.int .i64 n)).set 1 (.int .i64 (n + 1))
  rw [Seqc_set, Seqc_set1] at h'
  have H' := Lib.hid h'
  have H := Lib.hid h
  clear h h'
  obtain ⟨x, hx⟩ : ∃ x, x = l.getD s.toNat 0 := ⟨_, rfl⟩
  rw [← hx] at h2 ⊢
  clear hx
  go_enter Try.func28, Try.ntmps28
  go_wp2
  go_quiet (fail)
  go_wp2
  go_ret3
  exact ⟨rfl, H'.out, (((Mod.refl [b] w).setCell (.inl (by simp)) _).setCell (.inl (by simp)) _).drewN _⟩
end Go.Proofs.Ytlkfejnjdlebbaa
