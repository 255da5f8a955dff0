/- BallotMany over whatever came in. No condition. -/
import Derived.Test.YtlkfejnjdlebbaaBalManyWalk
namespace Go.Proofs.Ytlkfejnjdlebbaa
open Go.RowKit Go.ChangeShapes Go.WideShapes Go.Deep

theorem many_great (acc : Int) (ob : Option Addr) (olen ocap : Nat) (vs : Slc) (w : World) (h : ¬ (olen ≤ 100 ∧ vs.len ≤ 100)) :
    Calls Try.prog 5 #[.int .i64 acc, .slice ob olen ocap, .slice vs.a vs.len vs.cap] w fun e w' => e = .returned (.bool true) ∧ Mod [] w w' := by
  by_cases g : (100 : Int) < (olen : Int)
  · go_enter Try.func5, Try.ntmps5
    go_wp2_with fail
    refine (bspeaks_any _).mono ?_
    rintro e w0 ⟨rfl, hm0⟩
    go_wp2
    go_ret
    exact ⟨rfl, hm0⟩
  · have g1 : (olen : Int) ≤ 100 := by omega
    have g2 : (100 : Int) < (vs.len : Int) := by omega
    clear g h
    go_enter Try.func5, Try.ntmps5
    go_wp2_with fail
    refine (bspeaks_any _).mono ?_
    rintro e w0 ⟨rfl, hm0⟩
    go_wp2
    go_ret
    exact ⟨rfl, hm0⟩

theorem ballotMany_walk {H : Type} (enc : TypeId × Value → H) (base : Nat) (v0 v1 v2 : Value) (w : World) (k0 : Value.okWide Try.prog w .any base 3 v0) (_h0 : ∃ d p, DataW.Trod enc Try.prog w 0 (fun _ => true) true 3 v0 d p)
    (k1 : Value.okWide Try.prog w .any base 22 v1) (h1 : ∃ d p, DataW.Trod enc Try.prog w 0 (fun _ => true) true 22 v1 d p)
    (k2 : Value.okWide Try.prog w .any base 26 v2) (h2 : ∃ d p, DataW.Trod enc Try.prog w 0 (fun _ => true) true 26 v2 d p) :
    Calls Try.prog 5 #[v0, v1, v2] w fun e w' => e = .returned (.bool true) ∧ Below w.heap.size w w' := by
  obtain ⟨n, rfl⟩ := int_open enc base v0 w k0
  obtain ⟨b, len, cap, z, rfl, hz⟩ := ints_open enc base v1 w k1 h1
  obtain ⟨s, l, rfl, hs⟩ := bytes_open enc base v2 w k2 h2
  by_cases hl : len ≤ 100 ∧ s.len ≤ 100
  · exact (many_true n b len cap z s l w hl.1 hl.2 hz hs).mono fun e w' ⟨he, hm⟩ => ⟨he, hm.below⟩
  · exact (many_great n b len cap s w hl).mono fun e w' ⟨he, hm⟩ => ⟨he, hm.below⟩
end Go.Proofs.Ytlkfejnjdlebbaa
