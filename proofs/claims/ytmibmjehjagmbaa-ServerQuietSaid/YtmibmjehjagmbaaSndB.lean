/- The terms of a run mean what they say: each operation that changes nothing. No condition. -/
import Derived.Test.YtmibmjehjagmbaaSndA
import Derived.IntWalk
namespace Go.Proofs.Ytmibmjehjagmbaa.RX
open Go.Proofs.Ytmibmjehjagmbaa

section
variable {P : Program} {w : World}
theorem run_underlying {t : TypeId} {d : TypeDesc} (h : P.underlying t = some d) : (underlying t).run P w = .ok d w := by
  simp [underlying, program, h, Sem.run]
theorem underlying_info {t : TypeId} {d : TypeDesc} (h : P.underlying t = some d) : ∃ i, P.info? t = some i := by
  unfold Program.underlying at h
  split at h
  · rename_i hh; exact ⟨_, hh⟩
  · rename_i hh; exact ⟨_, hh⟩
  · cases h
theorem run_typeInfo {t : TypeId} {i : TypeInfo} (h : P.info? t = some i) : (typeInfo t).run P w = .ok i w := by
  simp [typeInfo, program, h, Sem.run]
theorem run_sizeOf {t : TypeId} {i : TypeInfo} (h : P.info? t = some i) : (sizeOf t).run P w = .ok (szT P t) w := by
  simp only [sizeOf, Sem.run_bind, run_typeInfo h, Result.andThen_ok, szT, h, Sem.run_pure]
theorem run_isAgg {t : TypeId} {d : TypeDesc} (h : P.underlying t = some d) : (isAgg t).run P w = .ok (aggT P t) w := by
  simp only [isAgg, Sem.run_bind, run_underlying h, Result.andThen_ok, aggT, h]
  cases d <;> rfl
theorem run_load {a : Addr} {v : Value} (h : w.cell? a = some v) : (load a).run P w = .ok v w := by
  simp [load, Sem.run, h]
theorem addr_add (b off n : Nat) : (⟨b, off, none⟩ : Addr).add n = ⟨b, off + n, none⟩ := by
  unfold Addr.add; split <;> simp_all
theorem run_loadCellsFrom {b off : Nat} (vs : List Value) : ∀ (i : Nat) (acc : Array Value), (∀ j v, vs[j]? = some v → w.cell? ⟨b, off + (i + j), none⟩ = some v) →
    (loadCellsFrom ⟨b, off, none⟩ i vs.length acc).run P w = .ok (acc ++ vs.toArray) w := by
  induction vs with
  | nil => intro i acc _; simp [loadCellsFrom]
  | cons x r ih =>
    intro i acc h
    have h0 := h 0 x rfl
    rw [Nat.add_zero] at h0
    simp only [List.length_cons, loadCellsFrom, addr_add, Sem.run_bind, run_load h0, Result.andThen_ok]
    rw [ih (i + 1) (acc.push x) (fun j v hj => by have := h (j + 1) v (by simpa using hj); rw [show i + 1 + j = i + (j + 1) by omega]; exact this)]
    simp
theorem run_loadCells {b off : Nat} (vs : List Value) (h : ∀ j v, vs[j]? = some v → w.cell? ⟨b, off + j, none⟩ = some v) :
    (loadCells ⟨b, off, none⟩ vs.length).run P w = .ok vs.toArray w := by
  unfold loadCells
  rw [run_loadCellsFrom vs 0 #[] (fun j v hj => by simpa using h j v hj)]
  simp
theorem run_part {ρ : Env} {t : TypeId} {l : List A} {off : Nat} {x : W} (h : partA P t l off = some x) : (part t (l.map (A.den ρ)).toArray off).run P w = .ok (x.den ρ) w := by
  unfold partA at h
  split at h
  · cases h
  · rename_i d hd
    obtain ⟨i, hi⟩ := underlying_info hd
    split at h
    · rename_i ha
      split at h
      · cases h
        simp only [part, Sem.run_bind, run_isAgg hd, Result.andThen_ok, ha, if_true, run_sizeOf hi, Sem.run_pure, W.den]
        congr 3
        rw [List.map_take, List.map_drop]
        simp [List.extract_toArray]
      · cases h
    · rename_i ha
      simp only [Option.map_eq_some_iff] at h
      obtain ⟨y, hy, rfl⟩ := h
      have ha' : aggT P t = false := by simpa using ha
      simp only [part, Sem.run_bind, run_isAgg hd, Result.andThen_ok, ha', Bool.false_eq_true, if_false, List.getElem?_toArray, List.getElem?_map, hy, Option.map_some, Sem.run_pure, W.den]
end

/-- The cells of a block are there. -/
theorem cells_at {w : World} {R h F : PH} (s : Sat w R h F) {b : Nat} {c : Array Value} {ty : TypeId} (e : h b = some (.cells c ty (0, 0))) (k : Nat) : w.cell? ⟨b, k, none⟩ = c[k]? := by
  unfold World.cell?; rw [s.oh b _ e]; rfl
theorem cells_free {w : World} {R h F : PH} (s : Sat w R h F) {b : Nat} {c : Array Value} {ty : TypeId} (e : h b = some (.cells c ty (0, 0))) (k : Nat) : w.frozen? ⟨b, k, none⟩ = false := by
  unfold World.frozen?; rw [s.oh b _ e]; simp
theorem cden_cells {ρ : Env} {r : BR} {l : List A} {ty : TypeId} {R h : PH} (H : (cden ρ (.b r, .cells l ty)).p R h) : h (r.den ρ) = some (.cells (l.map (A.den ρ)).toArray ty (0, 0)) := H

theorem wrap_in {k : IntKind} {x : Int} (h : k.min ≤ x ∧ x ≤ k.max) : k.wrap x = x := by
  obtain ⟨h1, h2⟩ := h
  cases k <;> simp [IntKind.min, IntKind.max, IntKind.signed, IntKind.bits, IntKind.wrap] at * <;> omega
theorem prop_bool {ρ : Env} {e : E} (h : e.prop ρ) : (e.den ρ).bool = true := (E.prop_iff ρ e).1 h
theorem rng_prop {ρ : Env} {k : IntKind} {e : E} (h : (rng k e).prop ρ) : k.min ≤ (e.den ρ).int ∧ (e.den ρ).int ≤ k.max := by
  unfold rng at h
  split at h
  · split at h
    · rename_i hh; exact hh
    · exact h
  · exact h
theorem need1_mem {e : E} {l : List E} {ρ : Env} (h : ∀ y ∈ need1 e l, y.prop ρ) : e.prop ρ ∧ ∀ y ∈ l, y.prop ρ := by
  unfold need1 at h
  split at h
  · exact ⟨rfl, h⟩
  · exact ⟨h _ (List.mem_cons_self ..), fun y hy => h y (List.mem_cons_of_mem _ hy)⟩
theorem arith_den {op : BinOp} {a b e : E} (h : arith op a b = some e) (ρ : Env) (k : IntKind) : Op.intArith op k (a.den ρ).int (b.den ρ).int = pure (.int k (k.wrap (e.den ρ).int)) := by
  unfold arith at h
  split at h <;> cases h <;> rfl
theorem cmpE_den (ρ : Env) (f : F2) (a b : E) : ((cmpE f a b).den ρ).bool = ((E.o2 f a b).den ρ).bool := by
  unfold cmpE
  split <;> rfl
theorem cmpE_prop (ρ : Env) (f : F2) (a b : E) : (cmpE f a b).prop ρ ↔ (E.o2 f a b).prop ρ := by
  rw [E.prop_iff, E.prop_iff, cmpE_den]
theorem noT_prop (ρ : Env) (e : E) : (noT e).prop ρ ↔ ¬ e.prop ρ := by
  rw [E.prop_iff, E.prop_iff, noT_den]; simp
theorem binInt_run {P : Program} {w : World} {ρ : Env} {op : BinOp} {k : IntKind} {a b : E} {es : List E} {r : A} (h : binInt op k a b = some (es, r)) (hn : ∀ e ∈ es, e.prop ρ) (t : TypeId) :
    (binOp op t (.int k (a.den ρ).int) (.int k (b.den ρ).int)).run P w = .ok (r.den ρ) w := by
  have ht : ∀ x y : Int, (x == y) = decide (x = y) := fun x y => rfl
  cases op <;> simp only [binInt] at h <;> try (cases h; done)
  case add | sub | mul =>
    split at h
    · rename_i e he
      have hd := arith_den he ρ k
      split at h
      · cases h
        have := rng_prop (need1_mem hn).1
        simp [binOp, hd, A.den, wrap_in this]
      · cases h
        simp [binOp, hd, A.den, E.den, F1.app]
    · cases h
  case quo =>
    split at h
    · rename_i x y
      split at h
      · rename_i hy
        cases h
        simp [binOp, Op.intDiv, E.den, hy.1, A.den, wrap_in hy.2]
      · cases h
    · cases h
      obtain ⟨h1, h2⟩ := need1_mem hn
      obtain ⟨h3, _⟩ := need1_mem h2
      have h4 := rng_prop h3
      rw [noT_prop, cmpE_prop] at h1
      have h5 : ¬ (b.den ρ).int = 0 := h1
      simp only [E.den, F2.app, Uni.int_i] at h4
      simp [binOp, Op.intDiv, h5, A.den, E.den, F2.app, wrap_in h4]
  case rem =>
    split at h
    · rename_i x y
      split at h
      · rename_i hy
        cases h
        simp [binOp, Op.intDiv, E.den, hy, A.den]
      · cases h
    · cases h
      obtain ⟨h1, h2⟩ := need1_mem hn
      rw [noT_prop, cmpE_prop] at h1
      have h5 : ¬ (b.den ρ).int = 0 := h1
      simp [binOp, Op.intDiv, h5, A.den, E.den, F2.app]
  case and | or | xor | andNot =>
    cases h
    simp [binOp, Op.intBits, A.den, E.den, F2.app, Uni.int, bits]
  case eql | lss | leq | gtr | geq =>
    cases h
    simp [binOp, Op.intCmp, A.den, cmpE_den, E.den, F2.app, ht]
  case neq =>
    cases h
    simp [binOp, Op.intCmp, A.den, noT_den, cmpE_den, E.den, F2.app, bne, ht]
end Go.Proofs.Ytmibmjehjagmbaa.RX
