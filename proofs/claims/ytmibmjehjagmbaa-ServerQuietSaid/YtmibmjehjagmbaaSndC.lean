/- The terms of a run mean what they say: comparisons. No condition. -/
import Derived.Test.YtmibmjehjagmbaaSndB
namespace Go.Proofs.Ytmibmjehjagmbaa.RX
open Go.Proofs.Ytmibmjehjagmbaa

theorem eqGuard_not {P : Program} {w : World} {op : BinOp} {t : TypeId} {x y : Operand} {a b : Value} (h1 : ¬ (a = .nilIface ∧ b = .nilIface)) (h2 : ∀ c d, ¬ (a = .agg c ∧ b = .agg d)) :
    (eqGuard op t x y a b).run P w = .ok () w := by
  unfold eqGuard
  cases op <;> first | rfl | skip
  all_goals
    simp only [Bool.not_true, Bool.false_eq_true, if_false]
    split
    · exact absurd ⟨rfl, rfl⟩ h1
    · exact absurd ⟨rfl, rfl⟩ (h2 _ _)
    · rfl
theorem run_equal {P : Program} {w : World} {t : TypeId} {x y : Value} {b : Bool}
    (e : ∀ n, (Op.equalIn (n + 1) t x y).run P w = .ok b w) : (Op.equal t x y).run P w = .ok b w := e 9999
theorem isNilT_den {P : Program} {w : World} {ρ : Env} {t : TypeId} {a b : A} {e : E} (hb : isNilC b = true) (ka : nilKind P t a = true) (kb : nilKind P t b = true) (he : isNilT a = some e) :
    (Op.equal t (a.den ρ) (b.den ρ)).run P w = .ok (e.den ρ).bool w ∧ (Op.equal t (b.den ρ) (a.den ρ)).run P w = .ok (e.den ρ).bool w := by
  unfold nilKind at ka
  split at ka <;> first | (cases ka; done) | skip
  case h_1 h | h_2 h | h_3 h | h_4 h | h_6 h | h_7 h =>
    cases b <;> simp only [isNilC, nilKind, h] at hb kb <;> first | (cases hb; done) | (cases kb; done) | skip
    cases he
    refine ⟨run_equal fun n => ?_, run_equal fun n => ?_⟩ <;> simp [Op.equalIn, run_underlying h, A.den, E.den]
  case h_5 s l c h =>
    cases b with
    | sl s' l' c' =>
      have : s' = .nil := by
        unfold isNilC at hb
        split at hb <;> first | (cases hb; done) | skip
        all_goals rename_i hh; first | (cases hh; done) | (cases hh; rfl)
      subst this
      cases s with
      | nil => cases he; refine ⟨run_equal fun n => ?_, run_equal fun n => ?_⟩ <;> simp [Op.equalIn, run_underlying h, A.den, SA.den, E.den]
      | v k =>
        cases he
        refine ⟨run_equal fun n => ?_, run_equal fun n => ?_⟩ <;> simp only [Op.equalIn, Sem.run_bind, run_underlying h, Result.andThen_ok, A.den, SA.den, noT, E.den, F1.app, Uni.bool_c] <;> cases (look ρ k).adr <;> rfl
      | b r o => cases he; refine ⟨run_equal fun n => ?_, run_equal fun n => ?_⟩ <;> simp [Op.equalIn, run_underlying h, A.den, SA.den, E.den]
    | _ => simp only [isNilC, nilKind, h] at hb kb <;> first | (cases hb; done) | (cases kb; done)
theorem run_equal_bool {P : Program} {w : World} {t : TypeId} (h : boolT P t = true) (a b : Bool) : (Op.equal t (.bool a) (.bool b)).run P w = .ok (a == b) w := by
  unfold boolT at h
  split at h
  · rename_i hd
    exact run_equal fun n => by simp only [Op.equalIn, Sem.run_bind, run_underlying hd, Result.andThen_ok, Sem.run_pure]
  · cases h
theorem str_eq (a b : List UInt8) : ((⟨a.toArray⟩ : ByteArray).toList == (⟨b.toArray⟩ : ByteArray).toList) = decide (a = b) := by
  rw [ByteArray.toList_mk, ByteArray.toList_mk]
  exact Bool.eq_iff_iff.2 (by simp)
end Go.Proofs.Ytmibmjehjagmbaa.RX
