/- A list of answers that came in. No condition. -/
import Derived.Test.YtlkfejnjdlebbaaOpenB
import Derived.Test.YtlkfejnjdlebbaaSized
namespace Go.Proofs.Ytlkfejnjdlebbaa
open Go.RowKit Go.ChangeShapes Go.WideShapes Go.Deep

/-- An answer that came in. -/
structure Ra where
  ph : Int
  frm : Int
  ok : Bool
  r : Int
  w : Int
  val : Slc
abbrev Ra.cells (a : Ra) : Array Value := #[.int .i64 a.ph, .int .i64 a.frm, .bool a.ok, .int .i64 a.r, .int .i64 a.w, .slice a.val.a a.val.len a.val.cap]
def Ra.none : Ra := ⟨0, 0, false, 0, 0, ⟨.none, 0, 0⟩⟩

theorem take1' {cs : List Value} {i : Nat} {v : Value} (h : cs[i]? = some v) : (cs.drop i).take 1 = [v] := by
  have hi : i < cs.length := (List.getElem?_eq_some_iff.1 h).1
  rw [List.drop_eq_getElem_cons hi, List.take_succ_cons, List.take_zero]
  rw [List.getElem?_eq_getElem hi] at h
  injection h with h
  rw [h]

section
variable {H : Type} {enc : TypeId × Value → H} {w : World}
set_option maxRecDepth 100000 in
theorem ra_of_trod {cs : List Value} {n : Nat} {x : DataW H × List MemPlace} (h : DataW.trod enc Try.prog w 0 (fun _ => true) true n 54 cs = some x) (hs : Small Try.prog 54 x.1) :
    ∃ (m : Ra) (l : List UInt8), cs = m.cells.toList ∧ Rd8 w m.val l ∧ m.val.len ≤ 140737488355328 := by
  obtain ⟨xs0, n0, _, hx0, hl0, hxl0, hf0⟩ := DataW.trod_struct Try.underlying54 h
  replace hxl0 : xs0.length = 5 := hxl0
  obtain ⟨c0, e0, _⟩ := field_int Try.underlying3 (show 0 < xs0.length by omega) (by kernel_rfl) (hf0 0 _ rfl)
  obtain ⟨c1, e1, _⟩ := field_int Try.underlying3 (show 1 < xs0.length by omega) (by kernel_rfl) (hf0 1 _ rfl)
  obtain ⟨c2, e2⟩ := field_bool Try.underlying4 (show 2 < xs0.length by omega) (by kernel_rfl) (hf0 2 _ rfl)
  have g0_3 := hf0 3 _ rfl
  rw [List.getElem?_eq_getElem (show 3 < xs0.length by omega)] at g0_3
  obtain ⟨xs1, n1, _, _, hl1, hxl1, hf1⟩ := DataW.trod_struct Try.underlying30 g0_3
  replace hxl1 : xs1.length = 2 := hxl1
  obtain ⟨c3, e3, _⟩ := field_int Try.underlying3 (show 0 < xs1.length by omega) (by kernel_rfl) (hf1 0 _ rfl)
  rw [List.getElem?_take_of_lt (of_decide_eq_true (by kernel_rfl)), List.getElem?_drop] at e3
  obtain ⟨c4, e4, _⟩ := field_int Try.underlying3 (show 1 < xs1.length by omega) (by kernel_rfl) (hf1 1 _ rfl)
  rw [List.getElem?_take_of_lt (of_decide_eq_true (by kernel_rfl)), List.getElem?_drop] at e4
  obtain ⟨c5a, c5l, c5c, e5⟩ := field_slice Try.underlying26 (show 4 < xs0.length by omega) (by kernel_rfl) (hf0 4 _ rfl)
  have g0_4 := hf0 4 _ rfl
  rw [List.getElem?_eq_getElem (show 4 < xs0.length by omega)] at g0_4
  have g5 : DataW.trod enc Try.prog w 0 (fun _ => true) true n0 26 [.slice c5a c5l c5c] = some xs0[4] := by
    rw [← take1' e5]
    exact g0_4
  obtain ⟨s, l, hsl, hrd, hlen5⟩ := rd8_of_trod g5
  have hsm : Small Try.prog 26 xs0[4].1 := by
    rw [hx0] at hs
    exact Small.part (i := 4) hs Try.underlying54 rfl (by rw [List.getElem?_map, List.getElem?_eq_getElem (show 4 < xs0.length by omega)]; rfl)
  have hbound : s.len ≤ 140737488355328 := by
    rcases hlen5 with ⟨_, h0⟩ | ⟨e, r, h1, h2⟩
    · omega
    · rw [h1] at hsm
      have := hsm.len Try.underlying26
      have hb : Try.prog.bytesOf 5 = 1 := by kernel_rfl
      rw [hb, h2] at this
      unfold reachBytes at this
      omega
  simp only [Value.slice.injEq] at hsl
  obtain ⟨rfl, rfl, rfl⟩ := hsl
  have hlen : cs.length = 6 := hl0.trans (by kernel_rfl)
  refine ⟨⟨c0, c1, c2, c3, c4, s⟩, l, ?_, hrd, hbound⟩
  clear h hl0 hf0 hl1 hf1 g0_3 g0_4 g5 hrd hs hsm hbound hx0 hlen5
  revert e0 e1 e2 e3 e4 e5
  match cs, hlen with
  | [u0, u1, u2, u3, u4, u5], _ =>
    intro e0
    obtain rfl : u0 = .int _ c0 := Option.some.inj e0
    intro e1
    obtain rfl : u1 = .int _ c1 := Option.some.inj e1
    intro e2
    obtain rfl : u2 = .bool c2 := Option.some.inj e2
    intro e3
    obtain rfl : u3 = .int _ c3 := Option.some.inj e3
    intro e4
    obtain rfl : u4 = .int _ c4 := Option.some.inj e4
    intro e5
    obtain rfl : u5 = .slice s.a s.len s.cap := Option.some.inj e5
    rfl
end

/-- A list of answers that came in. -/
def AnsAt (w : World) (ob : Option Addr) (len : Nat) (ra : Nat → Ra × List UInt8) : Prop :=
  ∀ i, i < len → ∃ x, ob = some x ∧ x.spot = none ∧ x.block < w.heap.size ∧ (∀ j, j < 6 → w.cell? ⟨x.block, x.off + i * 6 + j, none⟩ = (ra i).1.cells[j]?) ∧ Rd8 w (ra i).1.val (ra i).2 ∧ (ra i).1.val.len ≤ 140737488355328

theorem answers_open {H : Type} (enc : TypeId × Value → H) (base : Nat) (v : Value) (w : World) (hv : Value.okWide Try.prog w .any base 52 v)
    (h : ∃ d p, DataW.Trod enc Try.prog w 0 (fun _ => true) true 52 v d p ∧ Small Try.prog 52 d) : ∃ b len cap ra, v = .slice b len cap ∧ AnsAt w b len ra := by
  obtain ⟨b, len, cap, rfl⟩ := okWide_slice Try.underlying52 hv
  obtain ⟨d, p, ⟨fuel, hf⟩, hsm⟩ := h
  rcases open_slice Try.underlying52 hf with ⟨hcs, _⟩ | ⟨a, len', cap', m, n, D, Pl, hcs, _, hl, _, hm, hxx, hx⟩
  · simp [Value.cells] at hcs
    obtain ⟨rfl, rfl, rfl⟩ := hcs
    exact ⟨_, _, _, fun _ => (Ra.none, []), rfl, fun i hi => absurd hi (Nat.not_lt_zero _)⟩
  · simp [Value.cells] at hcs
    obtain ⟨rfl, rfl, rfl⟩ := hcs
    have h6 : Try.prog.cellsOf 54 = 6 := by kernel_rfl
    rw [h6] at hx
    have hlm : len ≤ m := by rw [hm]; simp only [if_true]; exact hl
    injection hxx with hd _
    rw [hd] at hsm
    have hx' : ∀ i, i < len → ∃ q : Ra × List UInt8, (∀ j, j < 6 → w.cell? (a.add (i * 6 + j)) = q.1.cells[j]?) ∧ Rd8 w q.1.val q.2 ∧ q.1.val.len ≤ 140737488355328 := fun i hi => by
      obtain ⟨cs', h1, h2⟩ := hx i (by omega)
      obtain ⟨q, l, rfl, hr, hb⟩ := ra_of_trod h2 (hsm.elem Try.underlying52 (List.mem_map.2 ⟨i, List.mem_range.2 hi, rfl⟩))
      obtain ⟨_, _, hc⟩ := World.cells?_some h1
      refine ⟨(q, l), fun j hj => ?_, hr, hb⟩
      rw [← add_add, hc j hj, Array.getElem?_toList]
    haveI : Inhabited (Ra × List UInt8) := ⟨(Ra.none, [])⟩
    obtain ⟨ra, hra⟩ := choose_lt (p := fun i q => (∀ j, j < 6 → w.cell? (a.add (i * 6 + j)) = (q : Ra × List UInt8).1.cells[j]?) ∧ Rd8 w q.1.val q.2 ∧ q.1.val.len ≤ 140737488355328) hx'
    refine ⟨_, _, _, ra, rfl, fun i hi => ?_⟩
    have hsp : a.spot = none := by
      have h0 := (hra 0 (by omega)).1 0 (by omega)
      rw [Nat.zero_mul, Nat.add_zero, Addr.add_zero'] at h0
      exact add_spot (i := 0) (v := .int .i64 (ra 0).1.ph) (by rw [Addr.add_zero']; exact h0) ⟨_, h0⟩
    have hall : ∀ j, j < 6 → a.add (i * 6 + j) = ⟨a.block, a.off + (i * 6 + j), none⟩ := fun j hj => by
      obtain ⟨b, o, s⟩ := a
      simp only at hsp
      subst hsp
      unfold Addr.add
      split
      · rename_i e; rw [e]; rfl
      · rfl
    refine ⟨a, rfl, hsp, ?_, fun j hj => ?_, (hra i hi).2.1, (hra i hi).2.2⟩
    · have h0 := (hra i hi).1 0 (by omega)
      rw [hall 0 (by omega)] at h0
      exact block_lt_of_cell (a := ⟨a.block, a.off + (i * 6 + 0), none⟩) h0
    · have h0 := (hra i hi).1 j hj
      rw [hall j hj, ← Nat.add_assoc] at h0
      exact h0

theorem answer_open {H : Type} (enc : TypeId × Value → H) (base : Nat) (v : Value) (w : World) (hv : Value.okWide Try.prog w .any base 54 v)
    (h : ∃ d p, DataW.Trod enc Try.prog w 0 (fun _ => true) true 54 v d p ∧ Small Try.prog 54 d) : ∃ (m : Ra) (l : List UInt8), v = .agg m.cells ∧ Rd8 w m.val l ∧ m.val.len ≤ 140737488355328 := by
  obtain ⟨d, p, ⟨fuel, hf⟩, hsm⟩ := h
  unfold Value.okWide at hv
  rw [Try.underlying54] at hv
  obtain ⟨cs, rfl, _, _⟩ := hv
  obtain ⟨m, l, h1, h2, h3⟩ := ra_of_trod hf hsm
  refine ⟨m, l, ?_, h2, h3⟩
  have : cs = m.cells := by
    have e : (Value.agg cs).cells.toList = m.cells.toList := h1
    exact Array.toList_inj.1 e
  rw [this]
end Go.Proofs.Ytlkfejnjdlebbaa
