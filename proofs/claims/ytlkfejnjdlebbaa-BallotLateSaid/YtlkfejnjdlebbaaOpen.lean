/- What the walks are told of an argument that came in: each shape that the laws take, opened once. No condition. -/
import Derived.Test.YtlkfejnjdlebbaaTokB
import Derived.ProofKit
import Derived.OpenShut
import Derived.Deep.Slices
import Derived.Lib.SmallJoins
namespace Go.Proofs.Ytlkfejnjdlebbaa
open Go.RowKit Go.ChangeShapes Go.WideShapes Go.Deep

section
variable {H : Type} {enc : TypeId × Value → H} {P : Program} {w : World} {base : Nat} {spare : Nat → Bool} {held : Bool}

theorem addr_plain {w : World} {a : Addr} {i : Nat} {v : Value} (h : w.cell? (a.add i) = some v) : a.add i = ⟨a.block, a.off + i, none⟩ ∧ w.cell? ⟨a.block, a.off + i, none⟩ = some v ∧ a.block < w.heap.size := by
  have key : a.add i = ⟨a.block, a.off + i, none⟩ := by
    unfold Addr.add
    split
    · rename_i e; subst e
      rw [Addr.add_zero'] at h
      obtain ⟨b, o, s⟩ := a
      cases s with
      | none => rfl
      | some s => simp [World.cell?] at h; split at h <;> simp_all
    · rfl
  rw [key] at h
  exact ⟨key, h, block_lt_of_cell (a := ⟨a.block, a.off + i, none⟩) h⟩

theorem add_spot {a : Addr} {i : Nat} {v : Value} (_h : w.cell? (a.add i) = some v) (h0 : ∃ u, w.cell? a = some u) : a.spot = none := by
  obtain ⟨u, hu⟩ := h0
  unfold World.cell? at hu
  split at hu
  · split at hu
    · cases hu
    · rename_i hh; simpa using hh
  · cases hu

theorem take1 {cs : List Value} {i : Nat} {v : Value} (h : (cs.drop i).take 1 = [v]) : cs[i]? = some v := by
  have := congrArg List.head? h
  rw [List.head?_take, if_neg (by decide), List.head?_drop] at this
  simpa using this

/-- An int field of a struct's cells. -/
theorem field_int {t : TypeId} {k : IntKind} {cs : List Value} {n i c : Nat} {xs : List (DataW H × List MemPlace)} {j : Nat} (hu : P.underlying t = some (.int k)) (hj : j < xs.length) (hc : c = 1)
    (h : DataW.trod enc P w base spare held n t ((cs.drop i).take c) = xs[j]?) : ∃ x, cs[i]? = some (.int k x) ∧ (Lit.int k x).wf = true := by
  subst hc
  rw [List.getElem?_eq_getElem hj] at h
  obtain ⟨x, h1, _, h2⟩ := DataW.trod_int hu h
  exact ⟨x, take1 h1, h2⟩
theorem field_bool {t : TypeId} {cs : List Value} {n i c : Nat} {xs : List (DataW H × List MemPlace)} {j : Nat} (hu : P.underlying t = some .bool) (hj : j < xs.length) (hc : c = 1)
    (h : DataW.trod enc P w base spare held n t ((cs.drop i).take c) = xs[j]?) : ∃ x, cs[i]? = some (.bool x) := by
  subst hc
  rw [List.getElem?_eq_getElem hj] at h
  obtain ⟨x, h1, _⟩ := DataW.trod_bool hu h
  exact ⟨x, take1 h1⟩
theorem field_slice {t e : TypeId} {cs : List Value} {n i c : Nat} {xs : List (DataW H × List MemPlace)} {j : Nat} (hu : P.underlying t = some (.slice e)) (hj : j < xs.length) (hc : c = 1)
    (h : DataW.trod enc P w base spare held n t ((cs.drop i).take c) = xs[j]?) : ∃ a l k, cs[i]? = some (.slice a l k) := by
  subst hc
  rw [List.getElem?_eq_getElem hj] at h
  obtain ⟨a, l, k, h1⟩ := Go.Joins.slice_form hu h
  exact ⟨a, l, k, take1 h1⟩
end

section
variable {H : Type} {enc : TypeId × Value → H} {w : World} {base : Nat} {spare : Nat → Bool} {held : Bool}
set_option maxRecDepth 100000 in
theorem msg_of_trod {cs : List Value} {n : Nat} {x : DataW H × List MemPlace} (h : DataW.trod enc Try.prog w base spare held n 33 cs = some x) : ∃ m : Msg, cs = m.cells.toList := by
  obtain ⟨xs0, n0, _, _, hl0, hxl0, hf0⟩ := DataW.trod_struct Try.underlying33 h
  replace hxl0 : xs0.length = 14 := hxl0
  obtain ⟨c0, e0, w0⟩ := field_int Try.underlying3 (show 0 < xs0.length by omega) (by kernel_rfl) (hf0 0 _ rfl)
  obtain ⟨c1, e1, w1⟩ := field_int Try.underlying3 (show 1 < xs0.length by omega) (by kernel_rfl) (hf0 1 _ rfl)
  obtain ⟨c2, e2, w2⟩ := field_int Try.underlying3 (show 2 < xs0.length by omega) (by kernel_rfl) (hf0 2 _ rfl)
  obtain ⟨c3, e3⟩ := field_bool Try.underlying4 (show 3 < xs0.length by omega) (by kernel_rfl) (hf0 3 _ rfl)
  obtain ⟨c4, e4, w4⟩ := field_int Try.underlying3 (show 4 < xs0.length by omega) (by kernel_rfl) (hf0 4 _ rfl)
  obtain ⟨c5, e5, w5⟩ := field_int Try.underlying3 (show 5 < xs0.length by omega) (by kernel_rfl) (hf0 5 _ rfl)
  obtain ⟨c6, e6, w6⟩ := field_int Try.underlying3 (show 6 < xs0.length by omega) (by kernel_rfl) (hf0 6 _ rfl)
  have g0_7 := hf0 7 _ rfl
  rw [List.getElem?_eq_getElem (show 7 < xs0.length by omega)] at g0_7
  obtain ⟨xs1, n1, _, _, hl1, hxl1, hf1⟩ := DataW.trod_struct Try.underlying28 g0_7
  replace hxl1 : xs1.length = 2 := hxl1
  obtain ⟨c7, e7, w7⟩ := field_int Try.underlying3 (show 0 < xs1.length by omega) (by kernel_rfl) (hf1 0 _ rfl)
  rw [List.getElem?_take_of_lt (of_decide_eq_true (by kernel_rfl)), List.getElem?_drop] at e7
  obtain ⟨c8a, c8l, c8c, e8⟩ := field_slice Try.underlying26 (show 1 < xs1.length by omega) (by kernel_rfl) (hf1 1 _ rfl)
  rw [List.getElem?_take_of_lt (of_decide_eq_true (by kernel_rfl)), List.getElem?_drop] at e8
  have g0_8 := hf0 8 _ rfl
  rw [List.getElem?_eq_getElem (show 8 < xs0.length by omega)] at g0_8
  obtain ⟨xs2, n2, _, _, hl2, hxl2, hf2⟩ := DataW.trod_struct Try.underlying30 g0_8
  replace hxl2 : xs2.length = 2 := hxl2
  obtain ⟨c9, e9, w9⟩ := field_int Try.underlying3 (show 0 < xs2.length by omega) (by kernel_rfl) (hf2 0 _ rfl)
  rw [List.getElem?_take_of_lt (of_decide_eq_true (by kernel_rfl)), List.getElem?_drop] at e9
  obtain ⟨c10, e10, w10⟩ := field_int Try.underlying3 (show 1 < xs2.length by omega) (by kernel_rfl) (hf2 1 _ rfl)
  rw [List.getElem?_take_of_lt (of_decide_eq_true (by kernel_rfl)), List.getElem?_drop] at e10
  obtain ⟨c11a, c11l, c11c, e11⟩ := field_slice Try.underlying26 (show 9 < xs0.length by omega) (by kernel_rfl) (hf0 9 _ rfl)
  obtain ⟨c12, e12, w12⟩ := field_int Try.underlying31 (show 10 < xs0.length by omega) (by kernel_rfl) (hf0 10 _ rfl)
  obtain ⟨c13, e13, w13⟩ := field_int Try.underlying3 (show 11 < xs0.length by omega) (by kernel_rfl) (hf0 11 _ rfl)
  obtain ⟨c14, e14, w14⟩ := field_int Try.underlying3 (show 12 < xs0.length by omega) (by kernel_rfl) (hf0 12 _ rfl)
  obtain ⟨c15, e15, w15⟩ := field_int Try.underlying3 (show 13 < xs0.length by omega) (by kernel_rfl) (hf0 13 _ rfl)
  have hlen : cs.length = 16 := hl0.trans (by kernel_rfl)
  refine ⟨⟨c0, c1, c2, c3, c4, c5, c6, c7, ⟨c8a, c8l, c8c⟩, c9, c10, ⟨c11a, c11l, c11c⟩, c12, c13, c14, c15⟩, ?_⟩
  clear h hl0 hf0 hl1 hf1 hl2 hf2 g0_7 g0_8
  revert e0 e1 e2 e3 e4 e5 e6 e7 e8 e9 e10 e11 e12 e13 e14 e15
  match cs, hlen with
  | [u0, u1, u2, u3, u4, u5, u6, u7, u8, u9, u10, u11, u12, u13, u14, u15], _ =>
    intro e0
    obtain rfl : u0 = .int _ c0 := Option.some.inj e0
    intro e1
    obtain rfl : u1 = .int _ c1 := Option.some.inj e1
    intro e2
    obtain rfl : u2 = .int _ c2 := Option.some.inj e2
    intro e3
    obtain rfl : u3 = .bool c3 := Option.some.inj e3
    intro e4
    obtain rfl : u4 = .int _ c4 := Option.some.inj e4
    intro e5
    obtain rfl : u5 = .int _ c5 := Option.some.inj e5
    intro e6
    obtain rfl : u6 = .int _ c6 := Option.some.inj e6
    intro e7
    obtain rfl : u7 = .int _ c7 := Option.some.inj e7
    intro e8
    obtain rfl : u8 = .slice c8a c8l c8c := Option.some.inj e8
    intro e9
    obtain rfl : u9 = .int _ c9 := Option.some.inj e9
    intro e10
    obtain rfl : u10 = .int _ c10 := Option.some.inj e10
    intro e11
    obtain rfl : u11 = .slice c11a c11l c11c := Option.some.inj e11
    intro e12
    obtain rfl : u12 = .int _ c12 := Option.some.inj e12
    intro e13
    obtain rfl : u13 = .int _ c13 := Option.some.inj e13
    intro e14
    obtain rfl : u14 = .int _ c14 := Option.some.inj e14
    intro e15
    obtain rfl : u15 = .int _ c15 := Option.some.inj e15
    rfl

end
end Go.Proofs.Ytlkfejnjdlebbaa
