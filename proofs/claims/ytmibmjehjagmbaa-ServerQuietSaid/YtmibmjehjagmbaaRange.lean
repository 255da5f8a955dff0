/- Laws on ranging over a map that is not written meanwhile, on blocks that are known whole. No condition. -/
import Derived.Test.YtmibmjehjagmbaaMap
import Derived.Laws.IdiomRangeMap
namespace Go.Proofs.Ytmibmjehjagmbaa
open Go.RowKit

set_option linter.unusedSectionVars false
section
variable {P : Program} {κ : Type} [DecidableEq κ] {enc : κ → Value}

/-- Every entry's stamp is below the clock, and no two have one. -/
structure Stamps (l : AL κ) (c : Nat) : Prop where
  low : ∀ x ∈ l, x.2.2 < c
  nodup : (l.map (·.2.2)).Nodup

theorem Stamps.nil (c : Nat) : Stamps ([] : AL κ) c := ⟨(fun x h => by cases h), List.nodup_nil⟩
theorem Stamps.snoc {l : AL κ} {c : Nat} (h : Stamps l c) (k : κ) (v : Value) : Stamps (l ++ [(k, v, c)]) (c + 1) := by
  refine ⟨fun x hx => ?_, ?_⟩
  · rcases List.mem_append.1 hx with hx | hx
    · have := h.low x hx; omega
    · simp at hx; subst hx; simp
  · rw [List.map_append, List.nodup_append]
    refine ⟨h.nodup, by simp, fun a ha b hb => ?_⟩
    simp at hb
    subst hb
    obtain ⟨x, hx, rfl⟩ := List.mem_map.1 ha
    have := h.low x hx
    omega

theorem run_next_raw {w : World} {it m c : Nat} {S : Array Nat} {l : AL κ} (ty : TypeId) (hit : w.heap[it]? = some (.mapIter (some m) c S c)) (hm : w.heap[m]? = some (mapObj enc l c)) (hs : Stamps l c) :
    ((∀ x ∈ l, x.2.2 ∈ S) ∧ (Instr.next (.pointer (some ⟨it, 0, none⟩)) false ty).run P w = .ok (.tuple #[.bool false]) w) ∨
    ∃ x ∈ l, x.2.2 ∉ S ∧ ∃ w1, (w1 = w ∨ w1 = w.drew) ∧ (Instr.next (.pointer (some ⟨it, 0, none⟩)) false ty).run P w = .ok (.tuple #[.bool true, enc x.1, x.2.1]) (World.setObj w1 it (.mapIter (some m) c (S.push x.2.2) c)) := by
  unfold mapObj at hm
  have hold : ∀ x ∈ (l.map (toE enc)).toArray.toList, x.born < c := fun x hx => by
    simp only at hx
    obtain ⟨y, hy, rfl⟩ := List.mem_map.1 hx
    exact hs.low y hy
  have htest := next_test_false S (l.map (toE enc)).toArray c c hold (Nat.le_refl _)
  have hset : ∀ (w1 : World) (o : Obj), (w1 = w ∨ w1 = w.drew) → (setObj it o).run P w1 = .ok () (World.setObj w1 it o) := fun w1 o hw => by
    rcases hw with rfl | rfl <;> simp [Go.setObj, Sem.run, hit, World.setObj, hp_drew]
  have hmemL : ∀ x ∈ (Array.filter (fun e => !S.contains e.born) (l.map (toE enc)).toArray).toList, ∃ y ∈ l, x = toE enc y ∧ y.2.2 ∉ S := fun x hx => by
    simp at hx
    obtain ⟨⟨a, b, d, hy, rfl⟩, h2⟩ := hx
    exact ⟨(a, b, d), hy, rfl, by simpa [toE] using h2⟩
  have hallL : (Array.filter (fun e => !S.contains e.born) (l.map (toE enc)).toArray).size = 0 → ∀ y ∈ l, y.2.2 ∈ S := fun h0 y hy => by
    have h1 := Array.eq_empty_of_size_eq_zero h0
    rw [Array.filter_eq_empty_iff] at h1
    have := h1 (a := toE enc y) (by simp; exact ⟨_, _, _, hy, rfl⟩)
    simpa [toE] using this
  simp only [Instr.next, getObj, Sem.run_bind, Sem.run, hit, hm, Result.andThen, htest, Bool.false_eq_true, if_false]
  have hmem : ∀ x ∈ (Array.filter (fun e => !S.contains e.born) (l.map (toE enc)).toArray).toList, x.born < c := fun x hx => hold x (by simp at hx ⊢; exact hx.1)
  generalize Array.filter (fun e => !S.contains e.born) (l.map (toE enc)).toArray = L at hmem hmemL hallL ⊢
  have e1 : L.filter (fun x => decide (x.born < c)) = L := Array.filter_eq_self.2 (fun x hx => by simpa using hmem x (by simpa using hx))
  have e2 : L.filter (fun x => decide (x.born ≥ c)) = #[] := by
    rw [Array.filter_eq_empty_iff]
    intro x hx
    have := hmem x (by simpa using hx)
    simp
    omega
  simp only [e1, e2, Array.append_empty]
  by_cases h0 : L.size = 0
  · left
    refine ⟨hallL h0, ?_⟩
    have : L = #[] := Array.eq_empty_of_size_eq_zero h0
    subst this
    simp [choose, Sem.run, Question.forced]
  · right
    have hne : L.isEmpty = false := by simp [Array.isEmpty, h0]
    simp only [hne, Bool.false_eq_true, if_false, Array.empty_append, Array.size_map]
    have hch : ∃ (j : Nat) (w1 : World), j < L.size ∧ (w1 = w ∨ w1 = w.drew) ∧ (choose (Question.mapNext L.size)).run P w = .ok j w1 := by
      by_cases hf : L.size ≤ 1
      · exact ⟨0, w, by omega, .inl rfl, by simp [choose, Sem.run, Question.forced, hf]⟩
      · exact ⟨_, w.drew, Nat.mod_lt _ (by omega), .inr rfl, by
          simp only [choose, Sem.run, Question.forced, decide_eq_true_eq, hf, if_false, Question.cut]
          rfl⟩
    obtain ⟨j, w1, hj, hal, hrun⟩ := hch
    obtain ⟨y, hy, hLj, hyS⟩ := hmemL L[j] (by simp)
    refine ⟨y, hy, hyS, w1, hal, ?_⟩
    simp only [hrun, Array.getElem?_map, Array.getElem?_eq_getElem hj, Option.map_some, Sem.run_bind, hLj, toE]
    rw [hset w1 _ hal]
    rfl

theorem run_entry_raw {w : World} {it m c : Nat} {S : Array Nat} {l : AL κ} {x : κ × Value × Nat} (hit : w.heap[it]? = some (.mapIter (some m) c (S.push x.2.2) c)) (hm : w.heap[m]? = some (mapObj enc l c)) (hs : Stamps l c) (hx : x ∈ l) :
    (Instr.entry (.pointer (some ⟨it, 0, none⟩))).run P w = .ok (.tuple #[enc x.1, x.2.1]) w := by
  unfold mapObj at hm
  have hf : (l.map (toE enc)).toArray.find? (·.born == x.2.2) = some (toE enc x) := by
    rw [← Array.find?_toList]
    exact find_born (toE enc x) (l.map (toE enc)) (by rw [List.map_map]; exact hs.nodup) (List.mem_map.2 ⟨x, hx, rfl⟩)
  simp only [Instr.entry, getObj, Sem.run_bind, Sem.run, hit, hm, Result.andThen, Array.back?_push, bne_self_eq_false, Bool.false_eq_true, if_false, hf]
  rfl

theorem run_range_raw {w : World} {t k e : TypeId} {m c : Nat} {l : AL κ} (ht : P.underlying t = some (.map k e)) (hb : w.heap[m]? = some (mapObj enc l c)) :
    (Instr.range t (.map (some m))).run P w = .ok (.pointer (some ⟨w.heap.size, 0, none⟩)) (w.alloc (.mapIter (some m) c #[] c)) :=
  run_range_map w t k e m _ c ht hb
end

/-- How many entries are still to come. -/
def leftN {κ : Type} (l : AL κ) (S : Array Nat) : Nat := (l.filter fun x => !S.contains x.2.2).length
theorem leftN_push {κ : Type} {l : AL κ} {S : Array Nat} {x : κ × Value × Nat} (hx : x ∈ l) (hS : x.2.2 ∉ S) : leftN l (S.push x.2.2) < leftN l S := by
  unfold leftN
  refine filter_lt (fun y : κ × Value × Nat => !S.contains y.2.2) (fun y => !(S.push x.2.2).contains y.2.2) ?_ x ?_ ?_ l hx
  · intro y hy
    simp only [Array.contains_push, Bool.not_or, Bool.and_eq_true] at hy
    exact hy.1
  · simpa using hS
  · simp
theorem iterSeen_of {w : World} {it m c : Nat} {S : Array Nat} (h : w.heap[it]? = some (.mapIter (some m) c S c)) : w.iterSeen it = S := by
  unfold World.iterSeen; rw [h]

section
variable {P : Program} {ops : Array Oper} {rest : List Oper} {o : Oper} {a : Act} {w : World} {Q : Exit → Act → World → Prop} {κ : Type} [DecidableEq κ] {enc : κ → Value}
theorem wpList_next_raw (hg : o.guard = none) (x : Operand) (hop : o.op = .next x false) (it m c : Nat) (S : Array Nat) (l : AL κ) (hx : a.eval x = .pointer (some ⟨it, 0, none⟩))
    (hit : w.heap[it]? = some (.mapIter (some m) c S c)) (hm : w.heap[m]? = some (mapObj enc l c)) (hs : Stamps l c)
    (h1 : (∀ y ∈ l, y.2.2 ∈ S) → wpList P ops Q rest (a.put o.dst (.tuple #[.bool false])) w)
    (h2 : ∀ y w', y ∈ l → y.2.2 ∉ S → w'.heap[it]? = some (.mapIter (some m) c (S.push y.2.2) c) → Mod [it] w w' → wpList P ops Q rest (a.put o.dst (.tuple #[.bool true, enc y.1, y.2.1])) w') : wpList P ops Q (o :: rest) a w := by
  have hlt : it < w.heap.size := lt_of_block hit
  rcases run_next_raw (P := P) o.type hit hm hs with ⟨g1, g2⟩ | ⟨y, hy, hyS, w1, hw, g2⟩
  · refine wpList_value hg ?_ (h1 g1)
    simp [execOp, hop, hx, g2]
  · refine wpList_value hg ?_ (h2 y (World.setObj w1 it (.mapIter (some m) c (S.push y.2.2) c)) hy hyS ?_ ?_)
    · simp [execOp, hop, hx, g2]
    · rw [hp_setObj _ _ _ _ (by rcases hw with rfl | rfl <;> simpa using hlt), if_pos rfl]
    · rcases hw with rfl | rfl
      · exact (Mod.refl _ _).setObj (.inl (by simp)) _
      · exact ((Mod.refl _ _).drew).setObj (.inl (by simp)) _
end
end Go.Proofs.Ytmibmjehjagmbaa
