/- A run's steps mean what they say: every operation. No condition. -/
import Derived.Test.YtmibmjehjagmbaaSndG
namespace Go.Proofs.Ytmibmjehjagmbaa.RX
open Go.Proofs.Ytmibmjehjagmbaa

theorem ofVals_list {v : Value} {x : W} (h : ofVal v = some x) (ρ : Env) : v.cells = (x.list.map (A.den ρ)).toArray := by
  rw [← ofVal_den h ρ, W.cells]
theorem run_zero {P : Program} {w : World} {t : TypeId} {l : List A} (h : zeroL P t = some l) (ρ : Env) : ∃ v, (zeroValue t).run P w = .ok v w ∧ v.cells = (l.map (A.den ρ)).toArray := by
  unfold zeroL at h
  split at h
  · rename_i i hi
    split at h
    · rename_i v hv
      simp only [Option.map_eq_some_iff] at h
      obtain ⟨x, hx, rfl⟩ := h
      exact ⟨v, by simp only [zeroValue, Sem.run_bind, run_typeInfo hi, Result.andThen_ok, hv, Sem.run_pure], ofVals_list hx ρ⟩
    · cases h
  · cases h
theorem run_newVar {P : Program} {w : World} (t : TypeId) (v : Value) : (newVar t v).run P w = .ok ⟨w.heap.size, 0, none⟩ (w.alloc (.cells v.cells t)) := by
  simp only [newVar, newRow, newObj, Sem.run_bind, Sem.run, Result.andThen_ok, Sem.run_pure]
  rfl
theorem As.eq_app {ρ : Env} {l : List A} {n : Nat} (hn : ρ.length = n) (h : l.all (A.bel n) = true) (x : Env) : (l.map (A.den (ρ ++ x))).toArray = (l.map (A.den ρ)).toArray := by
  subst hn; rw [As.app h]

/-- Filling in the parts of a struct. -/
theorem fold_set (vs : List Value) : ∀ (k off : Nat) (cs : Array Value), off + k + vs.length ≤ cs.size →
    ((vs.zipIdx k).foldl (fun cs (x : Value × Nat) => cs.setIfInBounds (off + x.2) x.1) cs).toList = cs.toList.take (off + k) ++ vs ++ cs.toList.drop (off + k + vs.length) := by
  induction vs with
  | nil => intro k off cs _; simp
  | cons v r ih =>
    intro k off cs h
    simp only [List.length_cons] at h
    rw [List.zipIdx_cons, List.foldl_cons, ih (k + 1) off _ (by simp; omega)]
    apply List.ext_getElem?
    intro i
    simp only [Array.toList_setIfInBounds, List.getElem?_append, List.length_append, List.length_take, List.length_set, Array.length_toList, List.getElem?_take, List.getElem?_drop, List.length_cons, List.getElem?_set]
    have e1 : min (off + (k + 1)) cs.size = off + k + 1 := by omega
    have e2 : min (off + k) cs.size = off + k := by omega
    rw [e1, e2]
    by_cases c1 : i < off + k
    · simp only [show i < off + k + 1 from by omega, show i < off + k + 1 + r.length from by omega, show i < off + k + (r.length + 1) from by omega, show i < off + (k + 1) from by omega, c1, if_true, show ¬ off + k = i from by omega, if_false]
    · by_cases c2 : i = off + k
      · subst c2
        simp [show off + k < cs.size from by omega]
        omega
      · by_cases c3 : i < off + k + 1 + r.length
        · simp only [show ¬ i < off + k + 1 from by omega, c3, show i < off + k + (r.length + 1) from by omega, c1, if_true, if_false]
          rw [show i - (off + k) = (i - (off + k + 1)) + 1 from by omega, List.getElem?_cons_succ]
        · simp only [c3, show ¬ i < off + k + (r.length + 1) from by omega, if_false]
          rw [if_neg (by omega)]
          congr 1
          omega
theorem fillA_eq {ρ : Env} {place : Nat → Option (Nat × Nat)} : ∀ {ps : List (Nat × W)} {cells l : List A}, fillA place cells ps = some l →
    Instr.fill place (cells.map (A.den ρ)).toArray (ps.map fun x => (x.1, x.2.den ρ)) = some (l.map (A.den ρ)).toArray
  | [], cells, l, h => by cases h; rfl
  | (i, x) :: r, cells, l, h => by
    simp only [fillA] at h
    simp only [List.map_cons, Instr.fill]
    split at h
    · cases h
    · rename_i off size hp
      rw [hp]
      simp only
      split at h
      · cases h
      · rename_i hc
        simp only [ne_eq, Bool.or_eq_true, decide_eq_true_eq, not_or, Decidable.not_not, Nat.not_lt] at hc
        have hs : (x.den ρ).cells.size = size := by rw [W.cells]; simp [hc.1]
        rw [if_neg (by rw [hs]; simp only [ne_eq, not_true_eq_false, decide_false, Bool.false_or, decide_eq_true_eq, List.size_toArray, List.length_map, Nat.not_lt]; rw [hc.1] at hc; exact hc.2)]
        rw [← fillA_eq h]
        congr 1
        rw [W.cells]
        apply Array.toList_inj.1
        have hz : ((x.list.map (A.den ρ)).toArray.zipIdx).toList = (x.list.map (A.den ρ)).zipIdx := by simp
        rw [← Array.foldl_toList, hz]
        rw [fold_set _ 0 off _ (by simp; exact hc.2)]
        simp [List.map_take, List.map_drop]
theorem partsOf_den {ρ : Env} {s : S} {a : Act} (tm : Tm ρ s.t a) : ∀ {l : List (Nat × Operand)} {ps : List (Nat × W)}, partsOf s l = some ps → l.map (fun x => (x.1, a.eval x.2)) = ps.map fun x => (x.1, x.2.den ρ)
  | [], ps, h => by cases h; rfl
  | (i, x) :: r, ps, h => by
    unfold partsOf at h
    simp only [mapM'] at h
    split at h
    · rename_i y hy
      split at h
      · rename_i q hq
        cases h
        simp only [Option.map_eq_some_iff] at hy
        obtain ⟨u, hu, rfl⟩ := hy
        simp only [List.map_cons, evW_den tm hu]
        rw [partsOf_den tm (show partsOf s r = some q from hq)]
      · cases h
    · cases h
end Go.Proofs.Ytmibmjehjagmbaa.RX
