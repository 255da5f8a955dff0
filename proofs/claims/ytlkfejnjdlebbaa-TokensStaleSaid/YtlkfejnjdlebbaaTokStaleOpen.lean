/- TokensStale over whatever slice of messages came in. No condition. -/
import Derived.Test.YtlkfejnjdlebbaaTokStaleWalk
import Derived.Test.YtlkfejnjdlebbaaOpen
namespace Go.Proofs.Ytlkfejnjdlebbaa
open Go.RowKit Go.ChangeShapes Go.WideShapes Go.Deep

/-- A slice of messages that came in: each element's cells are a message's. -/
theorem msgs_open {H : Type} (enc : TypeId × Value → H) (base : Nat) (v : Value) (w : World) (hv : Value.okWide Try.prog w .any base 40 v)
    (h : ∃ d p, DataW.Trod enc Try.prog w 0 (fun _ => true) true 40 v d p) : ∃ b len cap ms, v = .slice b len cap ∧ MsgsAt w b len ms := by
  obtain ⟨b, len, cap, rfl⟩ := okWide_slice Try.underlying40 hv
  obtain ⟨d, p, fuel, hf⟩ := h
  rcases open_slice Try.underlying40 hf with ⟨hcs, _⟩ | ⟨a, len', cap', m, n, D, Pl, hcs, _, hl, _, hm, _, hx⟩
  · simp [Value.cells] at hcs
    obtain ⟨rfl, rfl, rfl⟩ := hcs
    exact ⟨_, _, _, fun _ => Msg.none, rfl, fun i hi => absurd hi (Nat.not_lt_zero _)⟩
  · simp [Value.cells] at hcs
    obtain ⟨rfl, rfl, rfl⟩ := hcs
    have h16 : Try.prog.cellsOf 33 = 16 := by kernel_rfl
    rw [h16] at hx
    have hlm : len ≤ m := by rw [hm]; simp only [if_true]; exact hl
    have hx' : ∀ i, i < len → ∃ q : Msg, ∀ j, j < 16 → w.cell? (a.add (i * 16 + j)) = q.cells[j]? := fun i hi => by
      obtain ⟨cs', h1, h2⟩ := hx i (by omega)
      obtain ⟨q, rfl⟩ := msg_of_trod h2
      obtain ⟨_, _, hc⟩ := World.cells?_some h1
      refine ⟨q, fun j hj => ?_⟩
      rw [← add_add, hc j hj, Array.getElem?_toList]
    haveI : Inhabited Msg := ⟨Msg.none⟩
    obtain ⟨ms, hms⟩ := choose_lt (p := fun i q => ∀ j, j < 16 → w.cell? (a.add (i * 16 + j)) = (q : Msg).cells[j]?) hx'
    refine ⟨_, _, _, ms, rfl, fun i hi => ?_⟩
    have hsp : a.spot = none := by
      have h0 := hms 0 (by omega) 0 (by omega)
      rw [Nat.zero_mul, Nat.add_zero, Addr.add_zero'] at h0
      exact add_spot (i := 0) (v := .int .i64 (ms 0).frm) (by rw [Addr.add_zero']; exact h0) ⟨_, h0⟩
    have hall : ∀ j, j < 16 → a.add (i * 16 + j) = ⟨a.block, a.off + (i * 16 + j), none⟩ := fun j hj => by
      obtain ⟨b, o, s⟩ := a
      simp only at hsp
      subst hsp
      unfold Addr.add
      split
      · rename_i e; rw [e]; rfl
      · rfl
    refine ⟨a, rfl, hsp, ?_, fun j hj => ?_⟩
    · have h0 := hms i hi 0 (by omega)
      rw [hall 0 (by omega)] at h0
      exact block_lt_of_cell (a := ⟨a.block, a.off + (i * 16 + 0), none⟩) h0
    · have h0 := hms i hi j hj
      rw [hall j hj, ← Nat.add_assoc] at h0
      exact h0

theorem stale_great (b : Option Addr) (len cap : Nat) (w : World) (h : ¬ len ≤ 100) :
    Calls Try.prog 4 #[.slice b len cap] w fun e w' => e = .returned (.bool true) ∧ Mod [] w w' := by
  have g : (100 : Int) < (len : Int) := by omega
  clear h
  go_enter Try.func4, Try.ntmps4
  go_wp2_with fail
  refine (speaks_any _).mono ?_
  rintro e w0 ⟨rfl, hm0⟩
  go_wp2
  go_ret
  exact ⟨rfl, hm0⟩

theorem tokensStale_walk {H : Type} (enc : TypeId × Value → H) (base : Nat) (v : Value) (w : World) (hv : Value.okWide Try.prog w .any base 40 v)
    (h : ∃ d p, DataW.Trod enc Try.prog w 0 (fun _ => true) true 40 v d p) :
    Calls Try.prog 4 #[v] w fun e w' => e = .returned (.bool true) ∧ Below w.heap.size w w' := by
  obtain ⟨b, len, cap, ms, rfl, hms⟩ := msgs_open enc base v w hv h
  by_cases hl : len ≤ 100
  · exact (stale_true b len cap ms w hl hms).mono fun e w' ⟨he, hm⟩ => ⟨he, hm.below⟩
  · exact (stale_great b len cap w hl).mono fun e w' ⟨he, hm⟩ => ⟨he, hm.below⟩
end Go.Proofs.Ytlkfejnjdlebbaa
