/- Contract of a proposer's Promised, as it is meant. No condition. -/
import Derived.Test.YtlkfejnjdlebbaaBalF
namespace Go.Proofs.Ytlkfejnjdlebbaa
open Go.RowKit

def gCand (a : GA) : Prop := a.ok = true ∧ ¬ (a.r = 0 ∧ a.w = 0)
/-- y, told at j, is ahead of x, told at i. -/
def gAhead (x : GA) (i : Nat) (y : GA) (j : Nat) : Prop := x.r < y.r ∨ (x.r = y.r ∧ x.w < y.w) ∨ (x.r = y.r ∧ x.w = y.w ∧ j < i)
def gChosen (L : List (Int × GA)) (v0 v : List UInt8) : Prop :=
  ((∀ (i : Nat) (x : Int × GA), L[i]? = some x → ¬ gCand x.2) ∧ v = v0) ∨
    ∃ (i : Nat) (x : Int × GA), L[i]? = some x ∧ gCand x.2 ∧ (∀ (j : Nat) (y : Int × GA), L[j]? = some y → gCand y.2 → ¬ gAhead x.2 i y.2 j) ∧ v = x.2.vb
def gAns (e r w : Int) (l : List UInt8) : GA := if e = 0 then ⟨true, r, w, l⟩ else ⟨false, 0, 0, []⟩
/-- What Promised makes of a proposer. -/
def GProm (g : GSt) (f r w : Int) (l : List UInt8) (e : Int) (g' : GSt) : Prop :=
  if g.phase = 1 ∧ gAsked g f = true then
    if (gTake g f (gAns e r w l)).2 = true then ∃ v, gChosen (gTake g f (gAns e r w l)).1.ans g.vb v ∧ g' = { (gTake g f (gAns e r w l)).1 with vb := v, phase := 2, ans := [], agreed := 0 }
    else g' = (gTake g f (gAns e r w l)).1
  else g' = g

theorem gTake_vb (g : GSt) (f : Int) (a : GA) : (gTake g f a).1.vb = g.vb := by
  unfold gTake; split <;> (try split) <;> rfl

theorem chosen_rep {M : List (Int × Ans × Nat)} {B : Nat → List UInt8} {g : GSt} {v0 v : Slc} {w : World} (hv : gView B M = g.ans) (ht : Turns M) (h : ChosenV M v0 v) (h0 : Own8 w v0 g.vb) (hB : ∀ x ∈ M, Own8 w x.2.1.val (B x.2.2)) :
    ∃ l, gChosen g.ans g.vb l ∧ Own8 w v l := by
  have hget : ∀ (i : Nat) (y : Int × GA), g.ans[i]? = some y → ∃ x, M[i]? = some x ∧ y = (x.1, ⟨x.2.1.ok, x.2.1.r, x.2.1.w, B x.2.2⟩) := fun i y hy => by
    rw [← hv] at hy
    unfold gView at hy
    rw [List.getElem?_map] at hy
    cases hm : M[i]? with
    | none => rw [hm] at hy; cases hy
    | some x => rw [hm] at hy; injection hy with hy; exact ⟨x, rfl, hy.symm⟩
  rcases h with ⟨h1, rfl⟩ | ⟨x, hx, hc, ha, rfl⟩
  · refine ⟨g.vb, .inl ⟨fun i y hy hcy => ?_, rfl⟩, h0⟩
    obtain ⟨x, hx, rfl⟩ := hget i y hy
    exact h1 x (List.mem_of_getElem? hx) hcy
  · obtain ⟨i, hi⟩ := List.mem_iff_getElem?.1 hx
    refine ⟨B x.2.2, .inr ⟨i, (x.1, ⟨x.2.1.ok, x.2.1.r, x.2.1.w, B x.2.2⟩), ?_, hc, fun j y hy hcy => ?_, rfl⟩, hB x hx⟩
    · rw [← hv]; unfold gView; rw [List.getElem?_map, hi]; rfl
    · obtain ⟨z, hz, rfl⟩ := hget j y hy
      have hzm := List.mem_of_getElem? hz
      have := ha z hzm hcy
      rw [aheadB_false] at this
      have h1 := ht i x hi
      have h2 := ht j z hz
      unfold gAhead
      simp only
      omega

/-- 'choose', as it is meant. -/
theorem choose_rep (b mp : Nat) (g : GSt) (w : World) (h : PRep w b mp g) :
    Calls Try.prog 24 #[.pointer (some ⟨b, 0, none⟩)] w fun e w' => e = .returned (.tuple #[]) ∧ ∃ l, gChosen g.ans g.vb l ∧ PRep w' b mp { g with vb := l } ∧ Mod [b] w w' := by
  obtain ⟨p, M, c, B, h1, h2, h3, h4, h5, h6, h7, h8, h9, h10, h11, h12⟩ := h
  refine (choose_any b p M c w h7 h8).mono ?_
  rintro e w' ⟨rfl, v, hv, hP, hM⟩
  obtain ⟨l, hl, ho⟩ := chosen_rep h11 h12 hv h9 h10
  have hnb : NoBytes w [b] := fun x hx => h7.noBytes x (by simp at hx ⊢; exact .inl hx)
  exact ⟨rfl, l, hl, ⟨{ p with val := v }, M, c, B, h1, h2, h3, h4, h5, h6, hP, h8, ho.mod hM hnb, (fun x hx => (h10 x hx).mod hM hnb), h11, h12⟩, hM⟩

theorem prep_set4 {w : World} {b mp : Nat} {g : GSt} (h : PRep w b mp g) (n : Int) : PRep (w.setCell ⟨b, 4, none⟩ (.int .i64 n)) b mp { g with phase := n } := by
  obtain ⟨p, M, c, B, h1, h2, h3, h4, h5, h6, h7, h8, h9, h10, h11, h12⟩ := h
  have hmm : Mod [b] w (w.setCell ⟨b, 4, none⟩ (.int .i64 n)) := (Mod.refl _ _).setCell (.inl (by simp)) _
  have hnb : NoBytes w [b] := fun x hx => h7.noBytes x (by simp at hx ⊢; exact .inl hx)
  refine ⟨{ p with phase := n }, M, c, B, h1, h2, h3, h4, rfl, h6, ⟨h7.cel.set 4 _, ?_⟩, h8, h9.mod hmm hnb, (fun x hx => (h10 x hx).mod hmm hnb), h11, h12⟩
  rw [hp_setCell, if_neg h7.ne]
  exact h7.map
/-- A new map, and none agreed. -/
theorem prep_fresh {w : World} {b mp : Nat} {g : GSt} (h : PRep w b mp g) : PRep (((w.setCell ⟨b, 5, none⟩ (.map (some w.heap.size))).setCell ⟨b, 6, none⟩ (.int .i64 0)).alloc (.map #[] 0)) b w.heap.size { g with ans := [], agreed := 0 } ∧
    Mod [b, mp] w (((w.setCell ⟨b, 5, none⟩ (.map (some w.heap.size))).setCell ⟨b, 6, none⟩ (.int .i64 0)).alloc (.map #[] 0)) := by
  obtain ⟨p, M, c, B, h1, h2, h3, h4, h5, h6, h7, h8, h9, h10, h11, h12⟩ := h
  have hmm : Mod [b] w (((w.setCell ⟨b, 5, none⟩ (.map (some w.heap.size))).setCell ⟨b, 6, none⟩ (.int .i64 0)).alloc (.map #[] 0)) := (((Mod.refl _ _).setCell (.inl (by simp)) _).setCell (.inl (by simp)) _).alloc _
  have hnb : NoBytes w [b] := fun x hx => h7.noBytes x (by simp at hx ⊢; exact .inl hx)
  have hbl := h7.cel.lt
  refine ⟨⟨{ p with mp := w.heap.size, agreed := 0 }, [], 0, B, rfl, h2, h3, h4, h5, rfl, ⟨((h7.cel.set 5 _).set 6 _).alloc _, ?_⟩, Stamps.nil _, h9.mod hmm hnb, (fun x hx => by cases hx), rfl, (fun i x h => by cases h)⟩, hmm.mono (by simp)⟩
  show (((w.setCell ⟨b, 5, none⟩ (.map (some w.heap.size))).setCell ⟨b, 6, none⟩ (.int .i64 0)).alloc (.map #[] 0)).heap[w.heap.size]? = _
  have hz : ((w.setCell ⟨b, 5, none⟩ (.map (some w.heap.size))).setCell ⟨b, 6, none⟩ (.int .i64 0)).heap.size = w.heap.size := by simp
  rw [hp_alloc, if_pos hz.symm]; rfl
end Go.Proofs.Ytlkfejnjdlebbaa
