/- Contracts of a proposer's Asked and Accepted, as it is meant. No condition. -/
import Derived.Test.YtlkfejnjdlebbaaBalE
namespace Go.Proofs.Ytlkfejnjdlebbaa
open Go.RowKit

def gHas (g : GSt) (f : Int) : Bool := g.ans.any fun x => decide (x.1 = f)
def gAsked (g : GSt) (f : Int) : Bool := decide ((g.phase = 1 ∨ g.phase = 2) ∧ 0 ≤ f ∧ f < g.acc) && !gHas g f
def gTake (g : GSt) (f : Int) (a : GA) : GSt × Bool :=
  if a.ok then ({ g with ans := g.ans ++ [(f, a)], agreed := g.agreed + 1 }, decide (g.acc / 2 < g.agreed + 1))
  else if g.acc / 2 < g.acc - ((g.ans.length : Int) + 1 - g.agreed) then ({ g with ans := g.ans ++ [(f, a)] }, false) else ({ g with ans := g.ans ++ [(f, a)], phase := 4 }, false)
def gAccepted (g : GSt) (f : Int) (e : Int) : GSt :=
  if g.phase = 2 ∧ gAsked g f = true then
    if (gTake g f ⟨decide (e = 0), 0, 0, []⟩).2 then { (gTake g f ⟨decide (e = 0), 0, 0, []⟩).1 with phase := 3 } else (gTake g f ⟨decide (e = 0), 0, 0, []⟩).1
  else g

theorem gHas_find {M : List (Int × Ans × Nat)} {B : Nat → List UInt8} {g : GSt} (h : gView B M = g.ans) (f : Int) : gHas g f = (alFind f (encL M)).isSome := by
  unfold gHas
  rw [← h]
  clear h
  unfold gView
  induction M with
  | nil => rfl
  | cons x M ih =>
    simp only [List.map_cons, List.any_cons, encL, alFind] at ih ⊢
    by_cases e : f = x.1
    · simp [e]
    · have e' : ¬ x.1 = f := fun h => e h.symm
      simp only [e, e', decide_false, Bool.false_or, if_false]
      exact ih

theorem asked_rep (b mp : Nat) (g : GSt) (f : Int) (w : World) (h : PRep w b mp g) :
    Calls Try.prog 15 #[.pointer (some ⟨b, 0, none⟩), .int .i64 f] w fun e w' => e = .returned (.bool (gAsked g f)) ∧ Mod [] w w' := by
  obtain ⟨p, M, c, B, h1, h2, h3, h4, h5, h6, h7, h8, h9, h10, h11, h12⟩ := h
  have e : askedB p M f = gAsked g f := by
    unfold askedB gAsked
    rw [gHas_find h11, h2, h5]
  rw [← e]
  exact asked_any b p M c f w h7

theorem phase_rep (b mp : Nat) (g : GSt) (w : World) (h : PRep w b mp g) :
    Calls Try.prog 14 #[.pointer (some ⟨b, 0, none⟩)] w fun e w' => e = .returned (.int .i64 g.phase) ∧ w = w' := by
  obtain ⟨p, M, c, B, h1, h2, h3, h4, h5, h6, h7, h8, h9, h10, h11, h12⟩ := h
  rw [← h5]
  exact phase_any b p w h7.cel

theorem value_rep (b mp : Nat) (g : GSt) (w : World) (h : PRep w b mp g) (hl : g.vb.length ≤ 140737488355328) :
    Calls Try.prog 18 #[.pointer (some ⟨b, 0, none⟩)] w fun e w' => ∃ s' : Slc, e = .returned s'.val ∧ Own8 w' s' g.vb ∧ (∀ x, s'.a = some x → w.heap.size ≤ x.block) ∧ Mod [] w w' := by
  obtain ⟨p, M, c, B, h1, h2, h3, h4, h5, h6, h7, h8, h9, h10, h11, h12⟩ := h
  refine (value_any b p g.vb w h7.cel h9 (by rw [← h9.length]; exact hl)).mono ?_
  rintro e w' ⟨s', rfl, hc⟩
  exact ⟨s', rfl, hc.own, hc.fresh, hc.mod⟩

theorem PRep.mod {w w' : World} {b mp : Nat} {g : GSt} {fp : List Nat} (h : PRep w b mp g) (hm : Mod fp w w') (h1 : b ∉ fp) (h2 : mp ∉ fp) (hf : NoBytes w fp) : PRep w' b mp g := by
  obtain ⟨p, M, c, B, g1, g2, g3, g4, g5, g6, g7, g8, g9, g10, g11⟩ := h
  exact ⟨p, M, c, B, g1, g2, g3, g4, g5, g6, g7.mod hm h1 (by rw [g1]; exact h2), g8, g9.mod hm hf, (fun x hx => (g10 x hx).mod hm hf), g11⟩
theorem PRep.below {w w' : World} {b mp : Nat} {g : GSt} (h : PRep w b mp g) (hm : Mod [] w w') : PRep w' b mp g := h.mod hm (by simp) (by simp) (fun b hb => by cases hb)
theorem PRep.lt {w : World} {b mp : Nat} {g : GSt} (h : PRep w b mp g) : b < w.heap.size ∧ mp < w.heap.size := by
  obtain ⟨p, M, c, B, g1, g2, g3, g4, g5, g6, g7, _⟩ := h
  exact ⟨g7.cel.lt, by rw [← g1]; exact lt_of_block g7.map⟩
theorem PRep.noBytes {w : World} {b mp : Nat} {g : GSt} (h : PRep w b mp g) : NoBytes w [b, mp] := by
  obtain ⟨p, M, c, B, g1, g2, g3, g4, g5, g6, g7, _⟩ := h
  rw [← g1]
  exact g7.noBytes
theorem PRep.ne {w : World} {b mp : Nat} {g : GSt} (h : PRep w b mp g) : b ≠ mp := by
  obtain ⟨p, M, c, B, g1, g2, g3, g4, g5, g6, g7, _⟩ := h
  rw [← g1]
  exact g7.ne

theorem gTake_ok {g : GSt} (h : GOk g) (f : Int) (a : GA) (hl : g.ans.length < 4294967296) : GOk (gTake g f a).1 := by
  obtain ⟨h1, h2, h3, h4, h5, h6⟩ := h
  unfold gTake
  by_cases e : a.ok = true
  · rw [if_pos e]
    exact ⟨h1, h2, by simp only; omega, by simp only [List.length_append, List.length_singleton]; omega, by simp only [List.length_append, List.length_singleton]; omega, h6⟩
  · rw [if_neg e]
    by_cases e2 : g.acc / 2 < g.acc - ((g.ans.length : Int) + 1 - g.agreed)
    · rw [if_pos e2]
      exact ⟨h1, h2, h3, by simp only [List.length_append, List.length_singleton]; omega, by simp only [List.length_append, List.length_singleton]; omega, h6⟩
    · rw [if_neg e2]
      exact ⟨h1, h2, h3, by simp only [List.length_append, List.length_singleton]; omega, by simp only [List.length_append, List.length_singleton]; omega, h6⟩

/-- 'take', as it is meant. -/
theorem take_rep (b mp : Nat) (g : GSt) (f : Int) (a : Ans) (l : List UInt8) (w : World) (h : PRep w b mp g) (hk : GOk g) (hf : gHas g f = false) (ha : Own8 w a.val l) :
    Calls Try.prog 23 #[.pointer (some ⟨b, 0, none⟩), .int .i64 f, .agg a.cells] w fun e w' => e = .returned (.bool (gTake g f ⟨a.ok, a.r, a.w, l⟩).2) ∧ PRep w' b mp (gTake g f ⟨a.ok, a.r, a.w, l⟩).1 ∧ Mod [b, mp] w w' := by
  have hno := h.noBytes
  obtain ⟨p, M, c, B, h1, h2, h3, h4, h5, h6, h7, h8, h9, h10, h11, h12⟩ := h
  have hlen : M.length = g.ans.length := by rw [← h11]; unfold gView; rw [List.length_map]
  have hfind : alFind f (encL M) = none := by
    have := gHas_find h11 f
    rw [hf] at this
    cases e : alFind f (encL M) with
    | none => rfl
    | some v => rw [e] at this; cases this
  obtain ⟨k1, k2, k3, k4, k5, k6⟩ := hk
  refine (take_any b p M c f a w h7 hfind (by omega) (by omega) (by omega) (by rw [h6, hlen]; exact k4) (by omega)).mono ?_
  rintro e w' ⟨rfl, hP, hM⟩
  rw [h1] at hM
  have hstamp : Stamps (encL (M ++ [(f, { a with turn := (M.length : Int) }, c)])) (c + 1) := by
    rw [encL_append]; exact h8.snoc _ _
  let B' : Nat → List UInt8 := fun s => if s = c then l else B s
  have hlow : ∀ x ∈ M, x.2.2 ≠ c := fun x hx e => by
    have := h8.low (x.1, .agg x.2.1.cells, x.2.2) (by unfold encL; exact List.mem_map.2 ⟨x, hx, rfl⟩)
    simp only at this
    omega
  have hvals : ∀ x ∈ M ++ [(f, { a with turn := (M.length : Int) }, c)], Own8 w' x.2.1.val (B' x.2.2) := fun x hx => by
    rcases List.mem_append.1 hx with hx | hx
    · have := (h10 x hx).mod hM hno
      simp only [B', if_neg (hlow x hx)]
      exact this
    · simp at hx
      subst hx
      simp only [B', if_true]
      exact ha.mod hM hno
  have hans : gView B' (M ++ [(f, { a with turn := (M.length : Int) }, c)]) = g.ans ++ [(f, ⟨a.ok, a.r, a.w, l⟩)] := by
    unfold gView
    rw [List.map_append, ← h11]
    unfold gView
    congr 1
    · exact List.map_congr_left (fun x hx => by simp only [B', if_neg (hlow x hx)])
    · simp [B']
  have key : (takeS p M.length a.ok).2 = (gTake g f ⟨a.ok, a.r, a.w, l⟩).2 ∧ (takeS p M.length a.ok).1.mp = mp ∧ (takeS p M.length a.ok).1.acc = (gTake g f ⟨a.ok, a.r, a.w, l⟩).1.acc ∧ (takeS p M.length a.ok).1.rnd = (gTake g f ⟨a.ok, a.r, a.w, l⟩).1.rnd ∧
      (takeS p M.length a.ok).1.who = (gTake g f ⟨a.ok, a.r, a.w, l⟩).1.who ∧ (takeS p M.length a.ok).1.phase = (gTake g f ⟨a.ok, a.r, a.w, l⟩).1.phase ∧ (takeS p M.length a.ok).1.agreed = (gTake g f ⟨a.ok, a.r, a.w, l⟩).1.agreed ∧
      (takeS p M.length a.ok).1.val = p.val ∧ (gTake g f ⟨a.ok, a.r, a.w, l⟩).1.vb = g.vb ∧ (gTake g f ⟨a.ok, a.r, a.w, l⟩).1.ans = g.ans ++ [(f, ⟨a.ok, a.r, a.w, l⟩)] := by
    unfold takeS gTake
    rw [h2, h6, hlen]
    by_cases e : a.ok = true
    · simp only [e, if_true]
      refine ⟨?_, ?_, ?_, ?_, ?_, ?_, ?_, ?_, ?_, ?_⟩ <;> first | trivial | rfl | assumption
    · simp only [e, if_false, Bool.false_eq_true]
      split
      · refine ⟨?_, ?_, ?_, ?_, ?_, ?_, ?_, ?_, ?_, ?_⟩ <;> first | trivial | rfl | assumption
      · refine ⟨?_, ?_, ?_, ?_, ?_, ?_, ?_, ?_, ?_, ?_⟩ <;> first | trivial | rfl | assumption
  obtain ⟨q1, q2, q3, q4, q5, q6, q7, q8, q9, q10⟩ := key
  refine ⟨by rw [q1], ⟨_, _, _, B', q2, q3, q4, q5, q6, q7, hP, hstamp, ?_, hvals, (by rw [hans, q10]), ?_⟩, hM⟩
  rotate_left
  · intro i x hx
    rw [List.getElem?_append] at hx
    split at hx
    · exact h12 i x hx
    · rename_i hi
      have h0 : i - M.length = 0 := by
        rcases Nat.eq_zero_or_pos (i - M.length) with h | h
        · exact h
        · rw [List.getElem?_eq_none (by simp only [List.length_singleton]; omega)] at hx; cases hx
      rw [h0] at hx
      injection hx with hx
      subst hx
      show (M.length : Int) = i
      omega
  rw [q8, q9]
  exact h9.mod hM hno

set_option maxHeartbeats 1000000 in
theorem accepted_rep (b mp : Nat) (g : GSt) (f e : Int) (w : World) (h : PRep w b mp g) (hk : GOk g) :
    Calls Try.prog 17 #[.pointer (some ⟨b, 0, none⟩), .int .i64 f, .int .i64 e] w fun en w' => en = .returned (.tuple #[]) ∧ PRep w' b mp (gAccepted g f e) ∧ Mod [b, mp] w w' := by
  have hcel : ∃ p : PSt, p.phase = g.phase ∧ Cel w b p.cells 67 := by
    obtain ⟨p, M, c, B, h1, h2, h3, h4, h5, h6, h7, _⟩ := h
    exact ⟨p, h5, h7.cel⟩
  obtain ⟨p, hph, hc⟩ := hcel
  have c4 : w.cell? ⟨b, 4, none⟩ = some (.int .i64 p.phase) := hc.cell 4
  rw [hph] at c4
  clear hc hph
  by_cases h2 : g.phase = 2
  · rw [h2] at c4
    cases hA : gAsked g f with
    | false =>
      have HG := Lib.hid (show gAccepted g f e = g from if_neg (fun hh => by rw [hA] at hh; cases hh.2))
      have HA := Lib.hid hA
      clear h2 hA
      go_enter Try.func17, Try.ntmps17
      go_wp2_with (first
        | (go_at_call 15; refine (asked_rep b mp g f w h).mono ?_; rw [HA.out]; rintro e1 w1 ⟨rfl, hm⟩)
        | fail)
      refine bodyPost_ret (results_none rfl _ _ _) rfl ?_
      rw [HG.out]
      exact ⟨rfl, h.below hm, hm.mono (by simp)⟩
    | true =>
      have HG := Lib.hid (show gAccepted g f e = if (gTake g f ⟨decide (e = 0), 0, 0, []⟩).2 then { (gTake g f ⟨decide (e = 0), 0, 0, []⟩).1 with phase := 3 } else (gTake g f ⟨decide (e = 0), 0, 0, []⟩).1 from if_pos ⟨h2, hA⟩)
      have hno : gHas g f = false := by
        unfold gAsked at hA
        cases hh : gHas g f with
        | false => rfl
        | true => rw [hh] at hA; simp at hA
      have HA := Lib.hid hA
      clear h2 hA
      obtain ⟨ok, hok⟩ : ∃ ok, ok = decide (e = 0) := ⟨_, rfl⟩
      have hokb : (e == 0) = ok := by rw [hok]; by_cases h0 : e = 0 <;> simp [h0]
      rw [← hok] at HG
      have HT := Lib.hid (fun (W : World) (hm : Mod [] w W) => take_rep b mp g f ⟨0, ok, 0, 0, ⟨none, 0, 0⟩⟩ [] W (h.below hm) hk hno (Own8.nil _))
      clear hok
      generalize hR : gTake g f ⟨ok, 0, 0, []⟩ = R at HG HT
      obtain ⟨g1, r⟩ := R
      simp only at HG HT
      clear hR
      go_enter Try.func17, Try.ntmps17
      go_wp2_with fail
      refine (asked_rep b mp g f w h).mono ?_
      rw [HA.out]
      rintro e1 w1 ⟨rfl, hm⟩
      go_wp2_with fail
      refine (HT.out _ hm).mono ?_
      rintro e2 w2 ⟨rfl, hP, hm2⟩
      have hM : Mod [b, mp] w w2 := ((hm.mono (by simp) : Mod [b, mp] w w1)).trans hm2
      cases r with
      | false =>
        simp only [Bool.false_eq_true, if_false] at HG
        go_wp2
        go_end0
        rw [HG.out]
        exact ⟨rfl, hP, hM⟩
      | true =>
        simp only [if_true] at HG
        obtain ⟨p, M, c, B, h1, h2, h3, h4, h5, h6, h7, h8, h9, h10, h11, h12⟩ := hP
        have c4 : w2.cell? ⟨b, 4, none⟩ = some (.int .i64 p.phase) := h7.cel.cell 4
        have f4 := h7.cel.frozen 4
        have hset : PRep (w2.setCell ⟨b, 4, none⟩ (.int .i64 3)) b mp { g1 with phase := 3 } := by
          have hmm : Mod [b] w2 (w2.setCell ⟨b, 4, none⟩ (.int .i64 3)) := (Mod.refl _ _).setCell (.inl (by simp)) _
          have hnb : NoBytes w2 [b] := fun x hx => h7.noBytes x (by simp at hx ⊢; exact .inl hx)
          refine ⟨{ p with phase := 3 }, M, c, B, h1, h2, h3, h4, rfl, h6, ⟨h7.cel.set 4 _, ?_⟩, h8, h9.mod hmm hnb, (fun x hx => (h10 x hx).mod hmm hnb), h11, h12⟩
          rw [hp_setCell, if_neg h7.ne]
          exact h7.map
        have HSET := Lib.hid hset
        clear h1 h2 h3 h4 h5 h6 h7 h8 h9 h10 h11 h12 hset
        go_wp2
        go_end0
        rw [HG.out]
        exact ⟨rfl, HSET.out, hM.setCell (.inl (by simp)) _⟩
  · have HG := Lib.hid (show gAccepted g f e = g from if_neg (fun hh => h2 hh.1))
    have g2 : (g.phase != 2) = true := by simpa using h2
    clear h2
    go_enter Try.func17, Try.ntmps17
    go_wp2
    refine bodyPost_ret (results_none rfl _ _ _) rfl ?_
    rw [HG.out]
    exact ⟨rfl, h, Mod.refl _ _⟩
end Go.Proofs.Ytlkfejnjdlebbaa
