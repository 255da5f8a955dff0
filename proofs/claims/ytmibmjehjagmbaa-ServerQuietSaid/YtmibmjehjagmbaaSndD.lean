/- The terms of a run mean what they say: two operands; then each operation that changes nothing. No condition. -/
import Derived.Test.YtmibmjehjagmbaaSndC
namespace Go.Proofs.Ytmibmjehjagmbaa.RX
open Go.Proofs.Ytmibmjehjagmbaa

theorem nilKind_not {P : Program} {t : TypeId} {a : A} (h : nilKind P t a = true) (ρ : Env) : a.den ρ ≠ .nilIface ∧ ∀ c, a.den ρ ≠ .agg c := by
  unfold nilKind at h
  split at h <;> first | (cases h; done) | simp [A.den]
theorem binOp_equal {P : Program} {w : World} {t : TypeId} {x y : Value} {b : Bool} (hx : (∃ o, x = .pointer o) ∨ (∃ o l c, x = .slice o l c) ∨ (∃ o, x = .map o) ∨ x = .nilFunc ∨ (∃ f g c, x = .func f g c))
    (h : (Op.equal t x y).run P w = .ok b w) : (binOp .eql t x y).run P w = .ok (.bool b) w ∧ (binOp .neq t x y).run P w = .ok (.bool (!b)) w := by
  rcases hx with ⟨o, rfl⟩ | ⟨o, l, c, rfl⟩ | ⟨o, rfl⟩ | rfl | ⟨f, g, c, rfl⟩ <;>
    refine ⟨?_, ?_⟩ <;> simp only [binOp, Sem.run_bind, h, Result.andThen_ok, Sem.run_pure]
theorem nilKind_form {P : Program} {t : TypeId} {a : A} (h : nilKind P t a = true) (ρ : Env) :
    (∃ o, a.den ρ = .pointer o) ∨ (∃ o l c, a.den ρ = .slice o l c) ∨ (∃ o, a.den ρ = .map o) ∨ a.den ρ = .nilFunc ∨ (∃ f g c, a.den ρ = .func f g c) := by
  unfold nilKind at h
  split at h <;> first | (cases h; done) | simp [A.den]

theorem binA_run {P : Program} {w : World} {ρ : Env} {op : BinOp} {t : TypeId} {a b : A} {es : List E} {r : A} (h : binA P op t a b = some (es, r)) (hn : ∀ e ∈ es, e.prop ρ) (x y : Operand) :
    (do eqGuard op t x y (a.den ρ) (b.den ρ); binOp op t (a.den ρ) (b.den ρ) : Sem Value).run P w = .ok (r.den ρ) w := by
  rw [Sem.run_bind]
  have guard : (∀ k, a ≠ .val k) → a ≠ .nili → (eqGuard op t x y (a.den ρ) (b.den ρ)).run P w = .ok () w := fun h1 h2 =>
    eqGuard_not (fun h => by cases a <;> simp_all [A.den]) (fun c d h => by cases a <;> simp_all [A.den])
  unfold binA at h
  split at h
  · cases h
    rw [guard (by simp) (by simp)]
    have h1 := (need1_mem hn).1
    rw [cmpE_prop] at h1
    have h2 : ¬ (E.den ρ _).int < 0 := Int.not_lt.2 (show (0 : Int) ≤ _ from h1)
    simp [binOp, Op.shift, A.den, E.den, F2.app, h2]
  · cases h
    rw [guard (by simp) (by simp)]
    have h1 := (need1_mem hn).1
    rw [cmpE_prop] at h1
    have h2 : ¬ (E.den ρ _).int < 0 := Int.not_lt.2 (show (0 : Int) ≤ _ from h1)
    simp [binOp, Op.shift, A.den, E.den, F2.app, h2]
  · split at h
    · rename_i hk
      subst hk
      rw [guard (by simp) (by simp)]
      exact binInt_run h hn t
    · cases h
  · split at h
    · rename_i hb
      cases h
      rw [guard (by simp) (by simp)]
      simp only [Result.andThen_ok, binOp, A.den, Sem.run_bind, run_equal_bool hb, Sem.run_pure, E.den, F2.app, Uni.bool_c]
    · cases h
  · split at h
    · rename_i hb
      cases h
      rw [guard (by simp) (by simp)]
      simp only [Result.andThen_ok, binOp, A.den, Sem.run_bind, run_equal_bool hb, Sem.run_pure, noT_den, E.den, F2.app, Uni.bool_c]
    · cases h
  · cases h
    rw [guard (by simp) (by simp)]
    simp only [Result.andThen_ok, A.den, binOp_string_eql, str_eq, Sem.run_pure, E.den, F2.app, Uni.bool_c]
  · cases h
    rw [guard (by simp) (by simp)]
    simp only [Result.andThen_ok, A.den, binOp_string_neq, str_eq, Sem.run_pure, noT_den, E.den, F2.app, Uni.bool_c]
  · cases h
    rw [guard (by simp) (by simp)]
    have h1 := hn _ (List.mem_cons_self ..)
    simp only [E.prop, E.den, F1.app, F2.app, Uni.int_i, Uni.nat_n] at h1
    rename_i sa sb
    have h2 : ¬ ((((⟨(sa.den ρ).str.toArray⟩ : ByteArray).size + (⟨(sb.den ρ).str.toArray⟩ : ByteArray).size : Nat) : Int) > IntKind.i64.max) := by
      simp only [ByteArray.size, List.size_toArray, IntKind.max, IntKind.signed, IntKind.bits]
      simp only [if_true]
      omega
    simp only [Result.andThen_ok, A.den, binOp, Op.stringOp, h2, if_false, Sem.run_pure, E.den, F2.app, Uni.str_s]
    congr 3
  · cases h
    rw [guard (by simp) (by simp)]
    simp only [Result.andThen_ok, A.den, binOp_string_lss, ByteArray.toList_mk, Sem.run_pure, E.den, F2.app, Uni.bool_c]
  · split at h
    · rename_i hc
      simp only [Bool.and_eq_true] at hc
      simp only [Option.map_eq_some_iff] at h
      obtain ⟨e, he, h⟩ := h
      cases h
      obtain ⟨n1, n2⟩ := nilKind_not hc.1.2 ρ
      rw [eqGuard_not (fun h => n1 h.1) (fun c d h => n2 c h.1)]
      exact (binOp_equal (nilKind_form hc.1.2 ρ) (isNilT_den hc.1.1 hc.1.2 hc.2 he).1).1
    · split at h
      · rename_i hc
        simp only [Bool.and_eq_true] at hc
        simp only [Option.map_eq_some_iff] at h
        obtain ⟨e, he, h⟩ := h
        cases h
        obtain ⟨n1, n2⟩ := nilKind_not hc.1.2 ρ
        rw [eqGuard_not (fun h => n1 h.1) (fun c d h => n2 c h.1)]
        exact (binOp_equal (nilKind_form hc.1.2 ρ) (isNilT_den hc.1.1 hc.2 hc.1.2 he).2).1
      · cases h
  · split at h
    · rename_i hc
      simp only [Bool.and_eq_true] at hc
      simp only [Option.map_eq_some_iff] at h
      obtain ⟨e, he, h⟩ := h
      cases h
      obtain ⟨n1, n2⟩ := nilKind_not hc.1.2 ρ
      rw [eqGuard_not (fun h => n1 h.1) (fun c d h => n2 c h.1)]
      simp only [A.den, noT_den]
      exact (binOp_equal (nilKind_form hc.1.2 ρ) (isNilT_den hc.1.1 hc.1.2 hc.2 he).1).2
    · split at h
      · rename_i hc
        simp only [Bool.and_eq_true] at hc
        simp only [Option.map_eq_some_iff] at h
        obtain ⟨e, he, h⟩ := h
        cases h
        obtain ⟨n1, n2⟩ := nilKind_not hc.1.2 ρ
        rw [eqGuard_not (fun h => n1 h.1) (fun c d h => n2 c h.1)]
        simp only [A.den, noT_den]
        exact (binOp_equal (nilKind_form hc.1.2 ρ) (isNilT_den hc.1.1 hc.2 hc.1.2 he).2).2
      · cases h
  · cases h
end Go.Proofs.Ytmibmjehjagmbaa.RX
