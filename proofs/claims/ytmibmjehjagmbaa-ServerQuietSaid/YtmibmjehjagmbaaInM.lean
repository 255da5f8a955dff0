/- Messages that came in. No condition. -/
import Derived.Test.YtmibmjehjagmbaaIn
import Derived.Test.YtmibmjehjagmbaaLawD
namespace Go.Proofs.Ytmibmjehjagmbaa
open Go.RowKit Go.ChangeShapes Go.WideShapes Go.Deep

section
variable {H : Type} {enc : TypeId × Value → H} {w : World}
set_option maxRecDepth 100000 in
theorem rm_of_trod {cs : List Value} {n : Nat} {x : DataW H × List MemPlace} (h : DataW.trod enc Try.prog w 0 (fun _ => true) true n 80 cs = some x) (hs : Small Try.prog 80 x.1) :
    ∃ m : RM, cs = m.vals.toList ∧ (m.ms.cell.data.length ≤ 140737488355328 ∧ m.ms.val.length ≤ 140737488355328) ∧ ∀ h, (m.ms.Dro m.ca).p (allOf w) h ∧ (m.ms.Vro m.va).p (allOf w) h := by
  obtain ⟨xs0, n0, _, hx0, hl0, hxl0, hf0⟩ := DataW.trod_struct Try.underlying80 h
  replace hxl0 : xs0.length = 14 := hxl0
  obtain ⟨c0, e0, w0⟩ := field_int Try.underlying3 (show 0 < xs0.length by omega) (by kernel_rfl) (hf0 0 _ rfl)
  obtain ⟨c1, e1, w1⟩ := field_int Try.underlying3 (show 1 < xs0.length by omega) (by kernel_rfl) (hf0 1 _ rfl)
  obtain ⟨c2, e2, w2⟩ := field_int Try.underlying3 (show 2 < xs0.length by omega) (by kernel_rfl) (hf0 2 _ rfl)
  obtain ⟨c3, e3⟩ := field_bool Try.underlying4 (show 3 < xs0.length by omega) (by kernel_rfl) (hf0 3 _ rfl)
  obtain ⟨c4, e4, w4⟩ := field_int Try.underlying3 (show 4 < xs0.length by omega) (by kernel_rfl) (hf0 4 _ rfl)
  obtain ⟨c5, e5, w5⟩ := field_int Try.underlying3 (show 5 < xs0.length by omega) (by kernel_rfl) (hf0 5 _ rfl)
  obtain ⟨c6, e6, w6⟩ := field_int Try.underlying3 (show 6 < xs0.length by omega) (by kernel_rfl) (hf0 6 _ rfl)
  have g0_7 := hf0 7 _ rfl
  rw [List.getElem?_eq_getElem (show 7 < xs0.length by omega)] at g0_7
  obtain ⟨xs1, n1, _, hx1, hl1, hxl1, hf1⟩ := DataW.trod_struct Try.underlying32 g0_7
  replace hxl1 : xs1.length = 2 := hxl1
  obtain ⟨c7, e7, w7⟩ := field_int Try.underlying3 (show 0 < xs1.length by omega) (by kernel_rfl) (hf1 0 _ rfl)
  rw [List.getElem?_take_of_lt (of_decide_eq_true (by kernel_rfl)), List.getElem?_drop] at e7
  obtain ⟨c8a, c8l, c8c, e8⟩ := field_slice Try.underlying30 (show 1 < xs1.length by omega) (by kernel_rfl) (hf1 1 _ rfl)
  have g1_1 := hf1 1 _ rfl
  rw [List.getElem?_eq_getElem (show 1 < xs1.length by omega)] at g1_1
  have g8 : DataW.trod enc Try.prog w 0 (fun _ => true) true n1 30 [.slice c8a c8l c8c] = some xs1[1] := by
    rw [← take1' e8]
    exact g1_1
  rw [List.getElem?_take_of_lt (of_decide_eq_true (by kernel_rfl)), List.getElem?_drop] at e8
  have g0_8 := hf0 8 _ rfl
  rw [List.getElem?_eq_getElem (show 8 < xs0.length by omega)] at g0_8
  obtain ⟨xs2, n2, _, _, hl2, hxl2, hf2⟩ := DataW.trod_struct Try.underlying34 g0_8
  replace hxl2 : xs2.length = 2 := hxl2
  obtain ⟨c9, e9, w9⟩ := field_int Try.underlying3 (show 0 < xs2.length by omega) (by kernel_rfl) (hf2 0 _ rfl)
  rw [List.getElem?_take_of_lt (of_decide_eq_true (by kernel_rfl)), List.getElem?_drop] at e9
  obtain ⟨c10, e10, w10⟩ := field_int Try.underlying3 (show 1 < xs2.length by omega) (by kernel_rfl) (hf2 1 _ rfl)
  rw [List.getElem?_take_of_lt (of_decide_eq_true (by kernel_rfl)), List.getElem?_drop] at e10
  obtain ⟨c11a, c11l, c11c, e11⟩ := field_slice Try.underlying30 (show 9 < xs0.length by omega) (by kernel_rfl) (hf0 9 _ rfl)
  have g0_9 := hf0 9 _ rfl
  rw [List.getElem?_eq_getElem (show 9 < xs0.length by omega)] at g0_9
  have g11 : DataW.trod enc Try.prog w 0 (fun _ => true) true n0 30 [.slice c11a c11l c11c] = some xs0[9] := by
    rw [← take1' e11]
    exact g0_9
  obtain ⟨c12, e12, w12⟩ := field_int Try.underlying38 (show 10 < xs0.length by omega) (by kernel_rfl) (hf0 10 _ rfl)
  obtain ⟨c13, e13, w13⟩ := field_int Try.underlying3 (show 11 < xs0.length by omega) (by kernel_rfl) (hf0 11 _ rfl)
  obtain ⟨c14, e14, w14⟩ := field_int Try.underlying3 (show 12 < xs0.length by omega) (by kernel_rfl) (hf0 12 _ rfl)
  obtain ⟨c15, e15, w15⟩ := field_int Try.underlying3 (show 13 < xs0.length by omega) (by kernel_rfl) (hf0 13 _ rfl)
  have hs7 : Small Try.prog 32 xs0[7].1 := by
    rw [hx0] at hs
    exact Small.part (i := 7) hs Try.underlying80 rfl (by rw [List.getElem?_map, List.getElem?_eq_getElem (show 7 < xs0.length by omega)]; rfl)
  have hs8 : Small Try.prog 30 xs1[1].1 := by
    have hx1' : xs0[7].1 = .agg (xs1.map (·.1)) := by rw [hx1]
    rw [hx1'] at hs7
    exact Small.part (i := 1) hs7 Try.underlying32 rfl (by rw [List.getElem?_map, List.getElem?_eq_getElem (show 1 < xs1.length by omega)]; rfl)
  have hs11 : Small Try.prog 30 xs0[9].1 := by
    rw [hx0] at hs
    exact Small.part (i := 9) hs Try.underlying80 rfl (by rw [List.getElem?_map, List.getElem?_eq_getElem (show 9 < xs0.length by omega)]; rfl)
  obtain ⟨ca, cd, cc, hce, hcb, hcr⟩ := bytes_of_trod g8 hs8
  obtain ⟨va, vd, vc, hve, hvb, hvr⟩ := bytes_of_trod g11 hs11
  simp only [Value.slice.injEq] at hce hve
  obtain ⟨rfl, rfl, rfl⟩ := hce
  obtain ⟨rfl, rfl, rfl⟩ := hve
  have hlen : cs.length = 16 := hl0.trans (by kernel_rfl)
  refine ⟨⟨⟨c0, c1, c2, c3, c4, c5, c6, ⟨c7, cd⟩, c9, c10, vd, c12, c13, c14, c15⟩, c8a, c8c, c11a, c11c⟩, ?_, ⟨hcb, hvb⟩, fun h => ⟨hcr h, hvr h⟩⟩
  clear h hl0 hf0 hl1 hf1 hl2 hf2 g0_7 g0_8 g0_9 g1_1 g8 g11 hs hs7 hs8 hs11 hx0 hx1 hcr hvr
  revert e0 e1 e2 e3 e4 e5 e6 e7 e8 e9 e10 e11 e12 e13 e14 e15
  match cs, hlen with
  | [u0, u1, u2, u3, u4, u5, u6, u7, u8, u9, u10, u11, u12, u13, u14, u15], _ =>
    intro e0
    obtain rfl : u0 = .int _ c0 := Option.some.inj e0
    intro e1
    obtain rfl : u1 = .int _ c1 := Option.some.inj e1
    intro e2
    obtain rfl : u2 = .int _ c2 := Option.some.inj e2
    intro e3
    obtain rfl : u3 = .bool c3 := Option.some.inj e3
    intro e4
    obtain rfl : u4 = .int _ c4 := Option.some.inj e4
    intro e5
    obtain rfl : u5 = .int _ c5 := Option.some.inj e5
    intro e6
    obtain rfl : u6 = .int _ c6 := Option.some.inj e6
    intro e7
    obtain rfl : u7 = .int _ c7 := Option.some.inj e7
    intro e9
    obtain rfl : u9 = .int _ c9 := Option.some.inj e9
    intro e10
    obtain rfl : u10 = .int _ c10 := Option.some.inj e10
    intro e12
    obtain rfl : u12 = .int _ c12 := Option.some.inj e12
    intro e13
    obtain rfl : u13 = .int _ c13 := Option.some.inj e13
    intro e14
    obtain rfl : u14 = .int _ c14 := Option.some.inj e14
    intro e15
    obtain rfl : u15 = .int _ c15 := Option.some.inj e15
    intro e8
    obtain rfl : u8 = .slice c8a cd.length c8c := Option.some.inj e8
    intro e11
    obtain rfl : u11 = .slice c11a vd.length c11c := Option.some.inj e11
    rfl
end
theorem msCells_len : ∀ l : List RM, (msCells l).length = l.length * 16
  | [] => rfl
  | x :: l => by
    have h := msCells_len l
    unfold msCells at h
    have e : (x.vals.toList ++ l.flatMap fun x => x.vals.toList).length = 16 + l.length * 16 := by rw [List.length_append, h]; rfl
    exact e.trans (by rw [List.length_cons]; omega)
set_option maxRecDepth 100000 in
theorem messages_open {H : Type} (enc : TypeId × Value → H) (base : Nat) (v : Value) (w : World) (hv : Value.okWide Try.prog w .any base 77 v)
    (h : ∃ d p, DataW.Trod enc Try.prog w 0 (fun _ => true) true 77 v d p ∧ Small Try.prog 77 d) : ∃ a n c l, v = .slice a n c ∧ n ≤ 140737488355328 ∧ (ListM a n l).p (allOf w) PH.none' := by
  obtain ⟨b, len, cap, rfl⟩ := okWide_slice Try.underlying77 hv
  obtain ⟨d, p, ⟨fuel, hf⟩, hsm⟩ := h
  rcases open_slice Try.underlying77 hf with ⟨hcs, _⟩ | ⟨a, len', cap', m, n, D, Pl, hcs, _, hl, hmax, hm, hxx, hx⟩
  · simp [Value.cells] at hcs
    obtain ⟨rfl, rfl, rfl⟩ := hcs
    exact ⟨_, _, _, [], rfl, by simp, rfl, RoC.nil _ _ _ _, fun x hx => by cases hx⟩
  · simp [Value.cells] at hcs
    obtain ⟨rfl, rfl, rfl⟩ := hcs
    have h16 : Try.prog.cellsOf 80 = 16 := by kernel_rfl
    rw [h16] at hx
    have hlm : len ≤ m := by rw [hm]; simp only [if_true]; exact hl
    injection hxx with hd _
    rw [hd] at hsm
    have hb : len ≤ 140737488355328 := by
      have := hsm.len Try.underlying77
      have hb : 1 ≤ Try.prog.bytesOf 80 := of_decide_eq_true (by kernel_rfl)
      unfold reachBytes at this
      simp at this
      have h2 : (len + (m - len)) * 1 ≤ (len + (m - len)) * Try.prog.bytesOf 80 := Nat.mul_le_mul_left _ hb
      omega
    have hx' : ∀ i, i < len → ∃ q : RM, (∀ j, j < 16 → w.cell? (a.add (i * 16 + j)) = q.vals[j]?) ∧ (q.ms.cell.data.length ≤ 140737488355328 ∧ q.ms.val.length ≤ 140737488355328) ∧ ∀ h, (q.ms.Dro q.ca).p (allOf w) h ∧ (q.ms.Vro q.va).p (allOf w) h := fun i hi => by
      obtain ⟨cs', h1, h2⟩ := hx i (by omega)
      obtain ⟨q, rfl, hr, hb⟩ := rm_of_trod h2 (hsm.elem Try.underlying77 (List.mem_map.2 ⟨i, List.mem_range.2 hi, rfl⟩))
      obtain ⟨_, _, hc⟩ := World.cells?_some h1
      refine ⟨q, fun j hj => ?_, hr, hb⟩
      rw [← add_add, hc j hj, Array.getElem?_toList]
    haveI : Inhabited RM := ⟨⟨zMS, none, 0, none, 0⟩⟩
    obtain ⟨ra, hra⟩ := choose_lt (p := fun i q => (∀ j, j < 16 → w.cell? (a.add (i * 16 + j)) = (q : RM).vals[j]?) ∧ (q.ms.cell.data.length ≤ 140737488355328 ∧ q.ms.val.length ≤ 140737488355328) ∧ ∀ h, (q.ms.Dro q.ca).p (allOf w) h ∧ (q.ms.Vro q.va).p (allOf w) h) hx'
    refine ⟨_, _, _, (List.range len).map ra, rfl, hb, by simp, ?_, fun x hx => ?_⟩
    · by_cases h0 : len = 0
      · subst h0; exact RoC.nil _ _ _ _
      · have hsp : a.spot = none := by
          have := (hra 0 (by omega)).1 0 (by omega)
          rw [Nat.zero_mul, Nat.add_zero, Addr.add_zero'] at this
          exact spot_none (v := .int .i64 (ra 0).ms.fr) this
        obtain ⟨g, off, sp⟩ := a
        simp only at hsp
        subst hsp
        have hlen : (msCells ((List.range len).map ra)).length = len * 16 := by
          rw [msCells_len, List.length_map, List.length_range]
        refine roC_of (by decide) hlen fun i v hv => ?_
        have hi : i < len * 16 := by have := (List.getElem?_eq_some_iff.1 hv).1; rw [hlen] at this; exact this
        have e : i = (i / 16) * 16 + i % 16 := by omega
        have hk : i / 16 < len := by omega
        have hj : i % 16 < 16 := Nat.mod_lt _ (by decide)
        have hg : ((List.range len).map ra)[i / 16]? = some (ra (i / 16)) := by simp [hk]
        have h1 := flat_get (fun x : RM => x.vals.toList) 16 (fun _ => rfl) _ (i / 16) (i % 16) _ hg hj
        rw [← e] at h1
        have h2 := (hra (i / 16) hk).1 (i % 16) hj
        rw [← e] at h2
        unfold msCells at hv
        rw [h1, Array.getElem?_toList] at hv
        rw [hv] at h2
        exact (addr_plain h2).2.1
    · obtain ⟨i, hi, rfl⟩ := List.mem_map.1 hx
      have hi' : i < len := List.mem_range.1 hi
      exact ⟨(hra i hi').2.1, (hra i hi').2.2 _⟩
set_option maxRecDepth 100000 in
theorem serverAgain_walk {H : Type} (enc : TypeId × Value → H) (base : Nat) (v0 : Value) (w : World) (k0 : Value.okWide Try.prog w .any base 77 v0)
    (h0 : ∃ d p, DataW.Trod enc Try.prog w 0 (fun _ => true) true 77 v0 d p ∧ Small Try.prog 77 d) :
    Calls Try.prog 7 #[v0] w fun e w' => e = .returned (.bool true) ∧ Below w.heap.size w w' := by
  obtain ⟨a, n, c, l, rfl, hn, hL⟩ := messages_open enc base v0 w k0 h0
  exact Tri.run (again_ok a n c l hn) hL
set_option maxRecDepth 100000 in
theorem serverQuiet_walk {H : Type} (enc : TypeId × Value → H) (base : Nat) (v0 : Value) (w : World) (k0 : Value.okWide Try.prog w .any base 77 v0)
    (h0 : ∃ d p, DataW.Trod enc Try.prog w 0 (fun _ => true) true 77 v0 d p ∧ Small Try.prog 77 d) :
    Calls Try.prog 8 #[v0] w fun e w' => e = .returned (.bool true) ∧ Below w.heap.size w w' := by
  obtain ⟨a, n, c, l, rfl, hn, hL⟩ := messages_open enc base v0 w k0 h0
  exact Tri.run (quiet_ok a n c l hn) hL
end Go.Proofs.Ytmibmjehjagmbaa
