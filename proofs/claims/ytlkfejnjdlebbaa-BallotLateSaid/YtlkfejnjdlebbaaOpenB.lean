/- Lists of ints and of bytes that came in. No condition. -/
import Derived.Test.YtlkfejnjdlebbaaBytes
import Derived.Test.YtlkfejnjdlebbaaOpen
namespace Go.Proofs.Ytlkfejnjdlebbaa
open Go.RowKit Go.ChangeShapes Go.WideShapes Go.Deep

/-- A list of ints that came in. -/
def IntsAt (w : World) (ob : Option Addr) (len : Nat) (z : Nat → Int) : Prop :=
  ∀ i, i < len → ∃ x, ob = some x ∧ x.spot = none ∧ x.block < w.heap.size ∧ w.cell? ⟨x.block, x.off + i, none⟩ = some (.int .i64 (z i))

theorem ints_open {H : Type} (enc : TypeId × Value → H) (base : Nat) (v : Value) (w : World) (hv : Value.okWide Try.prog w .any base 22 v)
    (h : ∃ d p, DataW.Trod enc Try.prog w 0 (fun _ => true) true 22 v d p) : ∃ b len cap z, v = .slice b len cap ∧ IntsAt w b len z := by
  obtain ⟨b, len, cap, rfl⟩ := okWide_slice Try.underlying22 hv
  obtain ⟨d, p, fuel, hf⟩ := h
  rcases open_slice1 Try.underlying22 (by kernel_rfl) hf with ⟨hcs, _⟩ | ⟨a, len', cap', m, n, V, D, Pl, hcs, _, hl, _, hm, _, hx⟩
  · simp [Value.cells] at hcs
    obtain ⟨rfl, rfl, rfl⟩ := hcs
    exact ⟨_, _, _, fun _ => 0, rfl, fun i hi => absurd hi (Nat.not_lt_zero _)⟩
  · simp [Value.cells] at hcs
    obtain ⟨rfl, rfl, rfl⟩ := hcs
    have hlm : len ≤ m := by rw [hm]; simp only [if_true]; exact hl
    have hx' : ∀ i, i < len → ∃ q : Int, w.cell? (a.add i) = some (.int .i64 q) := fun i hi => by
      obtain ⟨h1, h2⟩ := hx i (by omega)
      obtain ⟨q, hq, _, _⟩ := DataW.trod_int Try.underlying3 h2
      simp at hq
      exact ⟨q, by rw [h1, hq]⟩
    obtain ⟨z, hz⟩ := choose_lt (p := fun i q => w.cell? (a.add i) = some (.int .i64 q)) hx'
    refine ⟨_, _, _, z, rfl, fun i hi => ?_⟩
    have h0 := hz 0 (by omega)
    have hsp : a.spot = none := add_spot h0 ⟨_, by rw [Addr.add_zero'] at h0; exact h0⟩
    obtain ⟨h1, h2, h3⟩ := addr_plain (hz i hi)
    exact ⟨a, rfl, hsp, h3, h2⟩

/-- The bytes of a slice that came in, by the cells' reading. -/
theorem rd8_of_trod {H : Type} {enc : TypeId × Value → H} {w : World} {fuel : Nat} {v : Value} {x : DataW H × List MemPlace} (h : DataW.trod enc Try.prog w 0 (fun _ => true) true fuel 26 [v] = some x) :
    ∃ (s : Slc) (l : List UInt8), v = .slice s.a s.len s.cap ∧ Rd8 w s l ∧ (x.1 = .nil ∧ s.len = 0 ∨ ∃ e r, x.1 = .slice e r ∧ e.length = s.len) := by
  rcases open_slice1 Try.underlying26 (by kernel_rfl) h with ⟨hcs, hx⟩ | ⟨a, len, cap, m, n, V, D, Pl, hcs, _, hl, _, hm, hx0, hx⟩
  · simp at hcs
    subst hcs
    exact ⟨⟨none, 0, 0⟩, [], rfl, ⟨rfl, (fun _ => ⟨rfl, rfl⟩), (fun y hy => by cases hy)⟩, .inl ⟨by rw [hx], rfl⟩⟩
  · simp at hcs
    subst hcs
    have hlm : len ≤ m := by rw [hm]; simp only [if_true]; exact hl
    have hx' : ∀ i, i < len → ∃ q : UInt8, w.cell? (a.add i) = some (u8v q) := fun i hi => by
      obtain ⟨h1, h2⟩ := hx i (by omega)
      obtain ⟨q, hq, _, hw⟩ := DataW.trod_int Try.underlying5 h2
      simp at hq
      simp only [Lit.wf, Bool.and_eq_true, decide_eq_true_eq] at hw
      have h0 : (0 : Int) ≤ q := hw.1
      have h255 : q ≤ 255 := hw.2
      refine ⟨UInt8.ofNat q.toNat, ?_⟩
      rw [h1, hq]
      have e : ((UInt8.ofNat q.toNat).toNat : Int) = q := by
        rw [UInt8.toNat_ofNat']
        omega
      unfold u8v
      rw [e]
    obtain ⟨z, hz⟩ := choose_lt (p := fun i q => w.cell? (a.add i) = some (u8v q)) hx'
    refine ⟨⟨some a, len, cap⟩, (List.range len).map z, rfl, ⟨by simp, (fun hx => by cases hx), fun y hy i hi => ?_⟩, .inr ⟨_, _, by rw [hx0], by simp⟩⟩
    simp only [Option.some.injEq] at hy
    subst hy
    simp only at hi
    rw [hz i hi]
    simp [List.getD_eq_getElem?_getD, hi]

theorem bytes_open {H : Type} (enc : TypeId × Value → H) (base : Nat) (v : Value) (w : World) (hv : Value.okWide Try.prog w .any base 26 v)
    (h : ∃ d p, DataW.Trod enc Try.prog w 0 (fun _ => true) true 26 v d p) : ∃ (s : Slc) (l : List UInt8), v = .slice s.a s.len s.cap ∧ Rd8 w s l := by
  obtain ⟨b, len, cap, rfl⟩ := okWide_slice Try.underlying26 hv
  obtain ⟨d, p, fuel, hf⟩ := h
  obtain ⟨s, l, h1, h2, _⟩ := rd8_of_trod (v := .slice b len cap) hf
  exact ⟨s, l, h1, h2⟩
theorem int_open {H : Type} (_enc : TypeId × Value → H) (base : Nat) (v : Value) (w : World) (hv : Value.okWide Try.prog w .any base 3 v) : ∃ n, v = .int .i64 n := by
  simp only [Value.okWide, Try.underlying3, Cell.okWide] at hv
  unfold Cell.ok at hv
  rw [Try.underlying3] at hv
  cases v <;> first | exact hv.elim | exact ⟨_, by rw [hv.1]⟩
end Go.Proofs.Ytlkfejnjdlebbaa
