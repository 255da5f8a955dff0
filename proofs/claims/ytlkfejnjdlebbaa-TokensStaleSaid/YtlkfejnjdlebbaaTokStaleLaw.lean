/- What a sequencer's answer does to its epoch and its next address, as plain laws. No condition. -/
import Derived.Test.YtlkfejnjdlebbaaTokD
namespace Go.Proofs.Ytlkfejnjdlebbaa
open Go.RowKit

/-- A sequencer as it may stand. -/
structure SeqOk (e n : Int) (l : List Int) : Prop where
  len : l.length = 8
  epoch : -1 ≤ e
  low : 0 ≤ n
  high : n ≤ 4294967297
  last : ∀ x ∈ l, x < n

theorem SeqOk.start : SeqOk (-1) 0 (List.replicate 8 (-1)) := ⟨rfl, by decide, by decide, by decide, by decide⟩

theorem startS_ok {e n : Int} {l : List Int} (h : SeqOk e n l) (ep a : Int) : SeqOk (startS e n l ep a).2.1 (startS e n l ep a).2.2.1 (startS e n l ep a).2.2.2 ∧
    (((startS e n l ep a).1 ≠ 0 ∧ (startS e n l ep a).2.1 = e ∧ (startS e n l ep a).2.2.1 = n) ∨ ((startS e n l ep a).1 = 0 ∧ (e < (startS e n l ep a).2.1 ∨ ((startS e n l ep a).2.1 = e ∧ n ≤ (startS e n l ep a).2.2.1)))) := by
  obtain ⟨h1, h2, h3, h4, h5⟩ := h
  unfold startS
  by_cases c1 : ep < e
  · rw [if_pos c1]; exact ⟨⟨h1, h2, h3, h4, h5⟩, .inl ⟨by simp, rfl, rfl⟩⟩
  rw [if_neg c1]
  by_cases c2 : ep < 0 ∨ a < 0 ∨ 4294967296 < a
  · rw [if_pos c2]; exact ⟨⟨h1, h2, h3, h4, h5⟩, .inl ⟨by simp, rfl, rfl⟩⟩
  rw [if_neg c2]
  by_cases c3 : e < ep
  · rw [if_pos c3]
    refine ⟨⟨rfl, by simp only; omega, by simp only; omega, by simp only; omega, fun x hx => ?_⟩, .inr ⟨rfl, .inl c3⟩⟩
    rw [List.eq_of_mem_replicate hx]
    simp only
    omega
  · rw [if_neg c3]
    refine ⟨⟨h1, h2, by simp only; omega, by simp only; omega, fun x hx => ?_⟩, .inr ⟨rfl, .inr ⟨rfl, by simp only; omega⟩⟩⟩
    have := h5 x hx
    simp only
    omega

theorem tokenS_ok {e n : Int} {l : List Int} (h : SeqOk e n l) (ep s : Int) : SeqOk e (tokenS e n l ep s).2.1 (tokenS e n l ep s).2.2 ∧
    (((tokenS e n l ep s).1.2.2 ≠ 0 ∧ (tokenS e n l ep s).2.1 = n) ∨ ((tokenS e n l ep s).1.2.2 = 0 ∧ (tokenS e n l ep s).2.1 = n + 1 ∧ (tokenS e n l ep s).1.1 = n ∧ (tokenS e n l ep s).1.2.1 < n)) := by
  obtain ⟨h1, h2, h3, h4, h5⟩ := h
  unfold tokenS
  by_cases c1 : e < 0 ∨ ep ≠ e
  · rw [if_pos c1]; exact ⟨⟨h1, h2, h3, h4, h5⟩, .inl ⟨by simp, rfl⟩⟩
  rw [if_neg c1]
  by_cases c2 : s < 0 ∨ 8 ≤ s
  · rw [if_pos c2]; exact ⟨⟨h1, h2, h3, h4, h5⟩, .inl ⟨by simp, rfl⟩⟩
  rw [if_neg c2]
  by_cases c3 : 4294967296 < n
  · rw [if_pos c3]; exact ⟨⟨h1, h2, h3, h4, h5⟩, .inl ⟨by simp, rfl⟩⟩
  rw [if_neg c3]
  have hlt : s.toNat < l.length := by omega
  refine ⟨⟨by simp only [List.length_set]; exact h1, h2, by simp only; omega, by simp only; omega, fun x hx => ?_⟩, .inr ⟨rfl, rfl, rfl, ?_⟩⟩
  · rcases List.mem_or_eq_of_mem_set hx with h | h
    · have := h5 x h
      simp only
      omega
    · subst h
      simp only
      omega
  · simp only
    rw [List.getD_eq_getElem?_getD, List.getElem?_eq_getElem hlt]
    exact h5 _ (List.getElem_mem hlt)

/-- Four ways an answer goes: nothing or an error, and nothing has moved; a start; a token. -/
theorem answerS_ok {e n : Int} {l : List Int} (h : SeqOk e n l) (m : Msg) : SeqOk (answerS e n l m).2.1 (answerS e n l m).2.2.1 (answerS e n l m).2.2.2 ∧
    (((answerS e n l m).1.2 = false ∧ (answerS e n l m).2.1 = e ∧ (answerS e n l m).2.2.1 = n) ∨
     ((answerS e n l m).1.2 = true ∧ (answerS e n l m).1.1.err ≠ 0 ∧ (answerS e n l m).2.1 = e ∧ (answerS e n l m).2.2.1 = n) ∨
     ((answerS e n l m).1.2 = true ∧ (answerS e n l m).1.1.err = 0 ∧ m.kind ≠ 8 ∧ (e < (answerS e n l m).2.1 ∨ ((answerS e n l m).2.1 = e ∧ n ≤ (answerS e n l m).2.2.1))) ∨
     ((answerS e n l m).1.2 = true ∧ (answerS e n l m).1.1.err = 0 ∧ m.kind = 8 ∧ (answerS e n l m).2.1 = e ∧ (answerS e n l m).2.2.1 = n + 1 ∧ (answerS e n l m).1.1.tail = n ∧ (answerS e n l m).1.1.back < n)) := by
  unfold answerS
  by_cases c1 : m.rep = true ∨ (m.kind ≠ 9 ∧ m.kind ≠ 8)
  · rw [if_pos c1]; exact ⟨h, .inl ⟨rfl, rfl, rfl⟩⟩
  rw [if_neg c1]
  by_cases c2 : m.kind = 9
  · rw [if_pos c2]
    obtain ⟨h1, h2⟩ := startS_ok h m.ep m.at_
    refine ⟨h1, ?_⟩
    rcases h2 with ⟨g1, g2, g3⟩ | ⟨g1, g2⟩
    · exact .inr (.inl ⟨rfl, g1, g2, g3⟩)
    · exact .inr (.inr (.inl ⟨rfl, g1, by omega, g2⟩))
  · rw [if_neg c2]
    obtain ⟨h1, h2⟩ := tokenS_ok h m.ep m.at_
    have h8 : m.kind = 8 := by
      rw [not_or] at c1
      omega
    refine ⟨h1, ?_⟩
    rcases h2 with ⟨g1, g2⟩ | ⟨g1, g2, g3, g4⟩
    · exact .inr (.inl ⟨rfl, g1, rfl, g2⟩)
    · exact .inr (.inr (.inr ⟨rfl, g1, h8, rfl, g2, g3, g4⟩))

/-- The law's map of what was given out: of no epoch above, and below the next address in this one. -/
def GivenOk (e n : Int) (l : AL (Int × Int)) : Prop := ∀ k, (alFind k l).isSome = true → k.1 < e ∨ (k.1 = e ∧ k.2 < n)

theorem GivenOk.start (e n : Int) : GivenOk e n [] := fun _ h => by cases h
theorem GivenOk.up {e n e' n' : Int} {l : AL (Int × Int)} (h : GivenOk e n l) (he : e < e' ∨ (e' = e ∧ n ≤ n')) : GivenOk e' n' l := fun k hk => by
  have := h k hk
  omega
theorem GivenOk.none {e n : Int} {l : AL (Int × Int)} (h : GivenOk e n l) : alFind (e, n) l = none := by
  cases hf : alFind (e, n) l with
  | none => rfl
  | some v => have := h (e, n) (by rw [hf]; rfl); simp at this
theorem GivenOk.put {e n : Int} {l : AL (Int × Int)} (h : GivenOk e n l) (v : Value) (c : Nat) : GivenOk e (n + 1) (alPut (e, n) v c l) := fun k hk => by
  rw [alFind_put] at hk
  by_cases e1 : k = (e, n)
  · subst e1; exact .inr ⟨rfl, by simp only; omega⟩
  · rw [if_neg e1] at hk
    have := h k hk
    omega

end Go.Proofs.Ytlkfejnjdlebbaa
