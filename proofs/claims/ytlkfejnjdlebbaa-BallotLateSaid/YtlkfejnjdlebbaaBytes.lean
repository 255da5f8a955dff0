/- Bytes: a slice that owns its bytes, a slice that reads as bytes, and slices.Clone. No condition. -/
import Derived.Test.YtlkfejnjdlebbaaMap2
import Derived.Test.YtlkfejnjdlebbaaTokB
import Derived.Laws.AppendOwnNone
namespace Go.Proofs.Ytlkfejnjdlebbaa
open Go.RowKit

abbrev u8v (b : UInt8) : Value := .int .u8 b.toNat

/-- The slice reads as these bytes. -/
structure Rd8 (w : World) (s : Slc) (l : List UInt8) : Prop where
  len : l.length = s.len
  nil : s.a = none → s.len = 0 ∧ s.cap = 0
  at_ : ∀ x, s.a = some x → ∀ i, i < s.len → w.cell? (x.add i) = some (u8v (l.getD i 0))

/-- The slice is nil, or the head of a block of bytes of its own. -/
def Own8 (w : World) (s : Slc) (l : List UInt8) : Prop := w.ownsRow 0 5 1 s.val s.len (l.map u8v)

theorem Own8.length {w : World} {s : Slc} {l : List UInt8} (h : Own8 w s l) : l.length = s.len := by
  have := h.1
  simpa using this
theorem Own8.shape {w : World} {s : Slc} {l : List UInt8} (h : Own8 w s l) : (s = ⟨none, 0, 0⟩ ∧ l = []) ∨ ∃ g cap cur, s = ⟨some ⟨g, 0, none⟩, l.length, cap⟩ ∧ Cel w g cur 5 ∧ l.length ≤ cap ∧ cap ≤ maxLen ∧ cur.size = cap ∧ cur.toList.take l.length = l.map u8v := by
  have hl := h.length
  obtain ⟨h1, h2⟩ := h
  obtain ⟨a, n, c⟩ := s
  simp only at hl
  subst hl
  rcases h2 with ⟨h3, h4⟩ | ⟨g, cap, cur, h3, _, h4, h5, h6, h7, h8⟩
  · left
    simp only [Slc.val, Value.slice.injEq] at h3
    simp only at h4
    obtain ⟨rfl, h3, rfl⟩ := h3
    exact ⟨by rw [h4], List.length_eq_zero_iff.1 h4⟩
  · right
    simp only [Slc.val, Value.slice.injEq] at h3
    obtain ⟨rfl, _, rfl⟩ := h3
    exact ⟨g, _, cur, rfl, h4, h5, h6, by simpa using h7, by simpa using h8⟩
theorem Own8.rd {w : World} {s : Slc} {l : List UInt8} (h : Own8 w s l) : Rd8 w s l := by
  rcases h.shape with ⟨rfl, rfl⟩ | ⟨g, cap, cur, rfl, hc, hl, hm, hs, ht⟩
  · exact ⟨rfl, (fun _ => ⟨rfl, rfl⟩), (fun x hx => by cases hx)⟩
  · refine ⟨rfl, (fun hx => by cases hx), fun x hx i hi => ?_⟩
    simp only [Option.some.injEq] at hx
    subst hx
    simp only at hi
    have hadd : (⟨g, 0, none⟩ : Addr).add i = ⟨g, i, none⟩ := by unfold Addr.add; split <;> simp_all
    rw [hadd, hc.cell i]
    have h1 : (cur.toList.take l.length)[i]? = (l.map u8v)[i]? := by rw [ht]
    rw [List.getElem?_take_of_lt hi, Array.getElem?_toList, List.getElem?_map, List.getElem?_eq_getElem hi] at h1
    rw [h1, List.getD_eq_getElem?_getD, List.getElem?_eq_getElem hi]
    rfl
theorem Own8.nil (w : World) : Own8 w ⟨none, 0, 0⟩ [] := World.ownsRow_nil _ _ _ _
/-- No block of fp is one of bytes. -/
def NoBytes (w : World) (fp : List Nat) : Prop := ∀ b ∈ fp, ∀ c, ¬ Cel w b c 5
theorem Own8.mod {w w' : World} {s : Slc} {l : List UInt8} {fp : List Nat} (h : Own8 w s l) (hm : Mod fp w w') (hf : NoBytes w fp) : Own8 w' s l := by
  obtain ⟨h1, h2⟩ := h
  refine ⟨h1, ?_⟩
  rcases h2 with h2 | ⟨g, cap, cur, h3, h4, h5, h6⟩
  · exact .inl h2
  · have h5' : Cel w g cur 5 := h5
    exact .inr ⟨g, cap, cur, h3, h4, h5'.mod hm (fun hg => hf g hg cur h5'), h6⟩
theorem Own8.alloc {w : World} {s : Slc} {l : List UInt8} (h : Own8 w s l) (o : Obj) : Own8 (w.alloc o) s l := World.ownsRow.alloc h o
theorem Own8.drew {w : World} {s : Slc} {l : List UInt8} (h : Own8 w s l) : Own8 w.drew s l := h
theorem Own8.below {w w' : World} {s : Slc} {l : List UInt8} (h : Own8 w s l) (hm : Mod [] w w') : Own8 w' s l := h.mod hm (fun b hb => by cases hb)
theorem Cel.noBytes {w : World} {b : Nat} {c : Array Value} {t : TypeId} (h : Cel w b c t) (ht : t ≠ 5) : ∀ c', ¬ Cel w b c' 5 := fun c' h' => by
  unfold Cel at h h'
  rw [h] at h'
  injection h' with h'
  injection h' with _ h' _
  exact ht h'
theorem map_noBytes {w : World} {b : Nat} {es : Array MapEntry} {c : Nat} (h : w.heap[b]? = some (.map es c)) : ∀ c', ¬ Cel w b c' 5 := fun c' h' => by
  unfold Cel at h'
  rw [h] at h'
  injection h' with h'
  cases h'
theorem Rd8.mod {w w' : World} {s : Slc} {l : List UInt8} {fp : List Nat} (h : Rd8 w s l) (hm : Mod fp w w') (hf : ∀ x, s.a = some x → x.block ∉ fp) : Rd8 w' s l :=
  ⟨h.len, h.nil, fun x hx i hi => by
    have h1 := h.at_ x hx i hi
    have hb : (x.add i).block = x.block := by unfold Addr.add; split <;> rfl
    rw [hm.cell (block_lt_of_cell h1) (by rw [hb]; exact hf x hx)]
    exact h1⟩
theorem Rd8.below {w w' : World} {s : Slc} {l : List UInt8} (h : Rd8 w s l) (hm : Mod [] w w') : Rd8 w' s l := h.mod hm (fun _ _ => by simp)

theorem info8 : (Try.prog.info? 5).map (fun i => (i.zero, i.size, i.bytes)) = some (some (.int .u8 0), 1, 1) := by kernel_rfl

/-- What a copy is. -/
structure IsCopy (w w' : World) (s s' : Slc) (l : List UInt8) : Prop where
  own : Own8 w' s' l
  nil : s'.a = none ↔ s.a = none
  fresh : ∀ x, s'.a = some x → w.heap.size ≤ x.block
  mod : Mod [] w w'

theorem ownsRow_bytes {w : World} {v : Value} {n : Nat} {l : List UInt8} {base : Nat} (h : w.ownsRow base 5 1 v n (l.map u8v)) : ∃ s : Slc, v = s.val ∧ s.len = n ∧ Own8 w s l ∧ (∀ x, s.a = some x → base ≤ x.block) := by
  obtain ⟨h1, h2⟩ := h
  rcases h2 with ⟨rfl, rfl⟩ | ⟨g, cap, cur, rfl, hb, h4⟩
  · exact ⟨⟨none, 0, 0⟩, rfl, rfl, ⟨h1, .inl ⟨rfl, rfl⟩⟩, fun x hx => by cases hx⟩
  · refine ⟨⟨some ⟨g, 0, none⟩, n, cap⟩, rfl, rfl, ⟨h1, .inr ⟨g, cap, cur, rfl, Nat.zero_le _, h4⟩⟩, fun x hx => ?_⟩
    injection hx with hx
    subst hx
    exact hb
theorem Mod.grown {w w' : World} {row : Option Nat} {a : World} {fp : List Nat} (h : Mod fp a w) (hg : w.grownBy w' row) (hr : ∀ k, row = some k → k ∈ fp ∨ a.heap.size ≤ k) : Mod fp a w' :=
  ⟨hg.os.trans h.os, hg.tape.trans h.tape, hg.output.trans h.output, Nat.le_trans h.size hg.size, fun k hk hn => by
    have hs := h.size
    rw [hg.block k (by omega) (fun e => by rcases hr k e.symm with h1 | h1; exact hn h1; omega)]
    exact h.block k hk hn⟩

set_option maxHeartbeats 1000000 in
theorem clone8 (s : Slc) (l : List UInt8) (w : World) (h : Rd8 w s l) (hl : s.len ≤ 140737488355328) :
    Calls Try.prog 22 #[s.val] w fun e w' => ∃ s' : Slc, e = .returned s'.val ∧ IsCopy w w' s s' l := by
  obtain ⟨a, n, c⟩ := s
  obtain ⟨h1, h2, h3⟩ := h
  simp only at h1 h2 h3 hl
  have heq := fun W : World => Lib.run_eql_slice_nil (P := Try.prog) W 26 5 a n c 0 0 Try.underlying26
  simp only [Slc.val]
  cases a with
  | none =>
    obtain ⟨rfl, rfl⟩ := h2 rfl
    obtain rfl : l = [] := List.length_eq_zero_iff.1 h1
    go_enter Try.func22, Try.ntmps22
    go_wp2
    go_ret
    exact ⟨⟨none, 0, 0⟩, rfl, Own8.nil _, by simp, (fun x hx => by cases hx), Mod.refl _ _⟩
  | some x =>
    have hx := h3 x rfl
    obtain ⟨i0, hi, hz0, hz1, hz2⟩ := info_parts info8
    have H2 := Lib.hid h2
    have HX := Lib.hid hx
    have H1 := Lib.hid h1
    clear h2 h3 hx h1
    go_enter Try.func22, Try.ntmps22
    go_wp2_with (first
      | (at_builtin; refine wpList_append_own _ rfl _ _ 26 rfl w.heap.size 5 i0 (.int .u8 0) 1 1 Try.underlying26 hi hz0 hz1 hz2 rfl (by decide) (.slice (some ⟨w.heap.size, 0, none⟩) 0 0) 0 [] rfl ⟨rfl, .inr ⟨w.heap.size, 0, #[], rfl, Nat.le_refl _, (by rw [hp_alloc, if_pos rfl]), Nat.le_refl _, Nat.zero_le _, rfl, rfl⟩⟩ x n c (l.map u8v) rfl (by rw [List.length_map, H1.out, Nat.mul_one]) ?c2 ?c3 ?c4 ?c5 ?c6 ?_)
      | fail)
    case c2 =>
      intro j u hj
      rw [List.getElem?_map] at hj
      have hj' : j < l.length := by
        rcases Nat.lt_or_ge j l.length with h | h
        · exact h
        · rw [List.getElem?_eq_none h] at hj; cases hj
      have h1 := HX.out j (by rw [← H1.out]; exact hj')
      rw [List.getElem?_eq_getElem hj'] at hj
      injection hj with hj
      rw [List.getD_eq_getElem?_getD, List.getElem?_eq_getElem hj'] at h1
      have hb : (x.add j).block < w.heap.size := block_lt_of_cell h1
      rw [World.cell?_alloc_lt _ _ _ hb, h1, ← hj]
      rfl
    case c3 => intro u hu; obtain ⟨b, _, rfl⟩ := List.mem_map.1 hu; rfl
    case c4 => unfold maxLen; omega
    case c5 => omega
    case c6 => simp
    intro v' w1 hown hgrow hnil
    go_wp2
    go_ret
    obtain ⟨s', rfl, hs1, hs2, hs3⟩ := ownsRow_bytes hown
    refine ⟨s', rfl, hs2, ?_, hs3, (((Mod.refl [] w).alloc _).grown hgrow (fun k hk => .inr (by injection hk with hk; simp at hk; omega)))⟩
    constructor
    · intro h0
      exfalso
      rcases hown.2 with ⟨h3, _⟩ | ⟨g, cap, cur, h3, _⟩
      · exact hnil h3
      · obtain ⟨a', n', c'⟩ := s'
        simp only at h0
        subst h0
        cases h3
    · intro h0; cases h0
end Go.Proofs.Ytlkfejnjdlebbaa
