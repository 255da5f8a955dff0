/- BallotLate over whatever came in. No condition. -/
import Derived.Test.YtlkfejnjdlebbaaBalLateWalk
namespace Go.Proofs.Ytlkfejnjdlebbaa
open Go.RowKit Go.ChangeShapes Go.WideShapes Go.Deep

theorem late_great (acc : Int) (ob : Option Addr) (olen ocap : Nat) (lt : Ra) (w : World) (h : ¬ olen ≤ 60) :
    Calls Try.prog 6 #[.int .i64 acc, .slice ob olen ocap, .agg lt.cells] w fun e w' => e = .returned (.bool true) ∧ Mod [] w w' := by
  have g : (60 : Int) < (olen : Int) := by omega
  clear h
  have hM0 := (Mod.refl [] w).alloc (.cells lt.cells 54)
  unfold Ra.cells at hM0 ⊢
  go_enter Try.func6, Try.ntmps6
  go_wp2_with fail
  refine (bspeaks_any _).mono ?_
  rintro e w0 ⟨rfl, hm0⟩
  go_wp2
  go_ret
  exact ⟨rfl, hM0.trans hm0⟩

theorem ballotLate_walk {H : Type} (enc : TypeId × Value → H) (base : Nat) (v0 v1 v2 : Value) (w : World) (k0 : Value.okWide Try.prog w .any base 3 v0)
    (k1 : Value.okWide Try.prog w .any base 52 v1) (h1 : ∃ d p, DataW.Trod enc Try.prog w 0 (fun _ => true) true 52 v1 d p ∧ Small Try.prog 52 d)
    (k2 : Value.okWide Try.prog w .any base 54 v2) (h2 : ∃ d p, DataW.Trod enc Try.prog w 0 (fun _ => true) true 54 v2 d p ∧ Small Try.prog 54 d) :
    Calls Try.prog 6 #[v0, v1, v2] w fun e w' => e = .returned (.bool true) ∧ Below w.heap.size w w' := by
  obtain ⟨n, rfl⟩ := int_open enc base v0 w k0
  obtain ⟨b, len, cap, ra, rfl, hz⟩ := answers_open enc base v1 w k1 h1
  obtain ⟨m, l, rfl, hm, hb⟩ := answer_open enc base v2 w k2 h2
  by_cases hl : len ≤ 60
  · exact (late_true n b len cap ra m l w hl hz hm hb).mono fun e w' ⟨he, hmm⟩ => ⟨he, hmm.below⟩
  · exact (late_great n b len cap m w hl).mono fun e w' ⟨he, hmm⟩ => ⟨he, hmm.below⟩
end Go.Proofs.Ytlkfejnjdlebbaa
