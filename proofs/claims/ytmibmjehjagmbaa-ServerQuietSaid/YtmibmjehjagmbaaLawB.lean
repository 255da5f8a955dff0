/- What a unit replies, told plainly: the errors change nothing; the same message again. No condition. -/
import Derived.Test.YtmibmjehjagmbaaLawA
namespace Go.Proofs.Ytmibmjehjagmbaa
open Go.Proofs.Ytmibmjehjagmbaa RX

theorem lastS_err {room : Int} {s : USt} {ps : List Pg} {l : List UInt8} {s' : USt} (h : (lastS room s ps l s').1 ≠ 0) : (lastS room s ps l s').2 = (s, ps) := by
  unfold lastS at h ⊢
  split
  · rfl
  · rename_i hc; rw [if_neg hc] at h; exact absurd rfl h
theorem lastS_ok {room : Int} {s : USt} {ps : List Pg} {l : List UInt8} {s' : USt} (h : (lastS room s ps l s').1 = 0) : (lastS room s ps l s').2 = (s', ps ++ [⟨1, l⟩]) := by
  unfold lastS at h ⊢
  split
  · rename_i hc; rw [if_pos hc] at h; simp at h
  · rfl
theorem writeS_err {room : Int} {s : USt} {ps : List Pg} {e a : Int} {c : CellS} : ∀ x, writeS room s ps e a c = x → x.2.1 ≠ 0 → x.2.2 = (s, ps) := fun x hx h => by
  unfold writeS at hx
  split at hx
  · subst hx; rfl
  split at hx
  · subst hx; rfl
  split at hx
  · subst hx; rfl
  split at hx
  · subst hx; rfl
  · subst hx; exact lastS_err h
theorem trimS_err {room : Int} {s : USt} {ps : List Pg} {e a : Int} : ∀ x, trimS room s ps e a = x → x.1 ≠ 0 → x.2 = (s, ps) := fun x hx h => by
  unfold trimS at hx
  split at hx
  · subst hx; rfl
  split at hx
  · subst hx; rfl
  · subst hx; exact lastS_err h
theorem sealS_err {room : Int} {s : USt} {ps : List Pg} {e : Int} : ∀ x, sealS room s ps e = x → x.1 ≠ 0 → x.2 = (s, ps) := fun x hx h => by
  unfold sealS at hx
  split at hx
  · subst hx; rfl
  split at hx
  · subst hx; rfl
  · subst hx; exact lastS_err h
theorem promiseS_err {room : Int} {s : USt} {ps : List Pg} {n r w : Int} : ∀ x, promiseS room s ps n r w = x → x.2.2.2.1 ≠ 0 → x.2.2.2.2 = (s, ps) := fun x hx h => by
  unfold promiseS at hx
  split at hx
  · subst hx; rfl
  split at hx
  · subst hx; rfl
  split at hx
  · subst hx; rfl
  split at hx
  · subst hx; rfl
  · subst hx; exact absurd rfl h
theorem acceptS_err {room : Int} {s : USt} {ps : List Pg} {n r w : Int} {l : List UInt8} : ∀ x, acceptS room s ps n r w l = x → x.1 ≠ 0 → x.2 = (s, ps) := fun x hx h => by
  unfold acceptS at hx
  split at hx
  · subst hx; rfl
  split at hx
  · subst hx; rfl
  split at hx
  · subst hx; rfl
  · subst hx; exact lastS_err h
/-- An error changes nothing. -/
theorem deedS_err {room : Int} {s : USt} {ps : List Pg} {m r : MS} : ∀ x, deedS room s ps m r = x → x.1 ≠ 0 → x.2.2 = (s, ps) := fun x hx h => by
  unfold deedS at hx
  split at hx
  · subst hx; exact writeS_err _ rfl h
  split at hx
  · subst hx; rfl
  split at hx
  · subst hx; exact trimS_err _ rfl h
  split at hx
  · split at hx
    · subst hx; rfl
    split at hx
    · subst hx; exact absurd rfl h
    · subst hx; exact sealS_err _ rfl h
  split at hx
  · split at hx <;> (subst hx; rfl)
  split at hx
  · subst hx; exact promiseS_err _ rfl h
  · subst hx; exact acceptS_err _ rfl h
theorem answerS_quiet {room : Int} {s : USt} {ps : List Pg} {m : MS} (h : (answerS room s ps m).1 = false ∨ (answerS room s ps m).2.1.err ≠ 0) : (answerS room s ps m).2.2 = (s, ps) := by
  unfold answerS at h ⊢
  split
  · rfl
  · rename_i hc
    rw [if_neg hc] at h
    simp only at h ⊢
    have h2 := h.resolve_left (by simp)
    refine deedS_err _ rfl fun e => h2 ?_
    unfold finS; rw [if_pos e]; exact e
theorem answerS_none {room : Int} {s : USt} {ps : List Pg} {m : MS} (h : (answerS room s ps m).1 = false) : (answerS room s ps m).2.1 = zMS := by
  unfold answerS at h ⊢
  split
  · rfl
  · rename_i hc; rw [if_neg hc] at h; cases h
theorem deedS_same {room : Int} {s : USt} {ps : List Pg} {m r : MS} : (deedS room s ps m r).2.1.fr = r.fr ∧ (deedS room s ps m r).2.1.to = r.to ∧ (deedS room s ps m r).2.1.num = r.num ∧ (deedS room s ps m r).2.1.rep = r.rep ∧ (deedS room s ps m r).2.1.kind = r.kind ∧ (deedS room s ps m r).2.1.ep = r.ep ∧ (deedS room s ps m r).2.1.at' = r.at' := by
  unfold deedS
  repeat' split
  all_goals exact ⟨rfl, rfl, rfl, rfl, rfl, rfl, rfl⟩
/-- A reply goes to who asked, with what was asked for. -/
theorem answerS_some {room : Int} {s : USt} {ps : List Pg} {m : MS} (h : (answerS room s ps m).1 = true) : (answerS room s ps m).2.1.rep = true ∧ (answerS room s ps m).2.1.fr = m.to ∧ (answerS room s ps m).2.1.to = m.fr ∧ (answerS room s ps m).2.1.num = m.num ∧ (answerS room s ps m).2.1.kind = m.kind ∧ (answerS room s ps m).2.1.at' = m.at' ∧ (answerS room s ps m).2.1.ep = m.ep ∧ (answerS room s ps m).2.1.low = (answerS room s ps m).2.2.1.low ∧ (answerS room s ps m).2.1.back = (answerS room s ps m).2.2.1.epoch := by
  unfold answerS at h ⊢
  split
  · rename_i hc; rw [if_pos hc] at h; cases h
  · obtain ⟨h1, h2, h3, h4, h5, h6, h7⟩ := deedS_same (room := room) (s := s) (ps := ps) (m := m) (r := repS m)
    simp only [finS]
    split <;> exact ⟨h4, h1, h2, h3, h5, h7, h6, rfl, rfl⟩
/-- How many pages a message may write. -/
theorem lastS_len {room : Int} {s : USt} {ps : List Pg} {l : List UInt8} {s' : USt} : (lastS room s ps l s').2.2.length ≤ ps.length + 1 := by
  unfold lastS; split <;> simp
theorem deedS_len {room : Int} {s : USt} {ps : List Pg} {m r : MS} : ∀ x, deedS room s ps m r = x → x.2.2.2.length ≤ ps.length + 1 := fun x hx => by
  have h := @lastS_len room s ps
  have le : ps.length ≤ ps.length + 1 := Nat.le_succ _
  have hseal : ∀ y, sealS room s ps m.ep = y → y.2.2.length ≤ ps.length + 1 := fun y hy => by
    unfold sealS at hy
    split at hy
    · subst hy; exact le
    split at hy
    · subst hy; exact le
    · subst hy; exact h
  unfold deedS at hx
  split at hx
  · subst hx
    generalize hy : writeS room s ps m.ep m.at' m.cell = y
    unfold writeS at hy
    split at hy
    · subst hy; exact le
    split at hy
    · subst hy; exact le
    split at hy
    · subst hy; exact le
    split at hy
    · subst hy; exact le
    · subst hy; exact h
  split at hx
  · subst hx; exact le
  split at hx
  · subst hx
    generalize hy : trimS room s ps m.ep m.at' = y
    unfold trimS at hy
    split at hy
    · subst hy; exact le
    split at hy
    · subst hy; exact le
    · subst hy; exact h
  split at hx
  · split at hx
    · subst hx; exact le
    split at hx
    · subst hx; exact hseal _ rfl
    · subst hx; exact hseal _ rfl
  split at hx
  · split at hx <;> (subst hx; exact le)
  split at hx
  · subst hx
    generalize hy : promiseS room s ps m.at' m.br m.bw = y
    unfold promiseS at hy
    split at hy
    · subst hy; exact le
    split at hy
    · subst hy; exact le
    split at hy
    · subst hy; exact le
    split at hy
    · subst hy; exact le
    · subst hy; simp
  · subst hx
    generalize hy : acceptS room s ps m.at' m.br m.bw m.val = y
    unfold acceptS at hy
    split at hy
    · subst hy; exact le
    split at hy
    · subst hy; exact le
    split at hy
    · subst hy; exact le
    · subst hy; exact h
theorem answerS_len {room : Int} {s : USt} {ps : List Pg} {m : MS} : (answerS room s ps m).2.2.2.length ≤ ps.length + 1 := by
  unfold answerS
  split
  · exact Nat.le_succ _
  · exact deedS_len _ rfl
/-! the same message again -/
theorem reachS_of {s s' : USt} {e a : Int} (h : s'.epoch = s.epoch) : reachE s' e a = reachE s e a := by simp [reachE, h]
theorem lessB_self (r w : Int) : lessB r w r w = false := by simp [lessB]
theorem instAt_put {s : USt} {n : Int} {x : InstS} : instAt { s with inst := fput s.inst n (some x) } n = x := by simp [instAt, fput]
/-- What is done a second time is told as the first time; but that a cell is written already. -/
theorem deed_again {room : Int} {s : USt} {ps : List Pg} {m : MS} (hroom : (ps.length : Int) + 1 < room) (h0 : (deedS room s ps m (repS m)).1 = 0) :
    (m.kind = 1 → (deedS room (deedS room s ps m (repS m)).2.2.1 (deedS room s ps m (repS m)).2.2.2 m (repS m)).1 = 10 ∧ (deedS room (deedS room s ps m (repS m)).2.2.1 (deedS room s ps m (repS m)).2.2.2 m (repS m)).2.1.cell = m.cell) ∧
    (m.kind ≠ 1 → (deedS room (deedS room s ps m (repS m)).2.2.1 (deedS room s ps m (repS m)).2.2.2 m (repS m)).1 = 0 ∧ (deedS room (deedS room s ps m (repS m)).2.2.1 (deedS room s ps m (repS m)).2.2.2 m (repS m)).2.1 = (deedS room s ps m (repS m)).2.1 ∧
      (deedS room (deedS room s ps m (repS m)).2.2.1 (deedS room s ps m (repS m)).2.2.2 m (repS m)).2.2.1.low = (deedS room s ps m (repS m)).2.2.1.low ∧ (deedS room (deedS room s ps m (repS m)).2.2.1 (deedS room s ps m (repS m)).2.2.2 m (repS m)).2.2.1.epoch = (deedS room s ps m (repS m)).2.2.1.epoch) := by
  generalize hx : deedS room s ps m (repS m) = x at h0
  have hx0 := hx
  unfold deedS at hx
  split at hx
  · rename_i k1
    refine ⟨fun _ => ?_, fun h => absurd k1 h⟩
    have key : ∀ y, writeS room s ps m.ep m.at' m.cell = y → y.2.1 = 0 → writeS room y.2.2.1 y.2.2.2 m.ep m.at' m.cell = (m.cell, 10, y.2.2.1, y.2.2.2) := fun y hy hy0 => by
      unfold writeS at hy
      split at hy
      · rename_i h; subst hy; exact absurd hy0 h
      rename_i hr
      split at hy
      · subst hy; simp at hy0
      rename_i hst
      split at hy
      · subst hy; simp at hy0
      rename_i hlow
      split at hy
      · subst hy; simp at hy0
      · subst hy
        have := lastS_ok hy0
        rw [this]
        dsimp only
        unfold writeS
        rw [if_neg (show ¬ reachE (putS s m.at' m.cell) m.ep m.at' ≠ 0 by rw [reachS_of (s' := putS s m.at' m.cell) (s := s) rfl]; exact hr), if_neg hst, if_neg (show ¬ m.at' < (putS s m.at' m.cell).low from hlow)]
        simp [putS, fput]
    have hy := key _ rfl (by subst hx; exact h0)
    subst hx
    simp only
    unfold deedS
    rw [if_pos k1]
    simp only
    rw [hy]
    exact ⟨rfl, rfl⟩
  rename_i k1
  refine ⟨fun h => absurd h k1, fun _ => ?_⟩
  have same : x.2.2 = (s, ps) → (deedS room x.2.2.1 x.2.2.2 m (repS m)).1 = 0 ∧ (deedS room x.2.2.1 x.2.2.2 m (repS m)).2.1 = x.2.1 ∧ (deedS room x.2.2.1 x.2.2.2 m (repS m)).2.2.1.low = x.2.2.1.low ∧ (deedS room x.2.2.1 x.2.2.2 m (repS m)).2.2.1.epoch = x.2.2.1.epoch := fun h => by
    have e1 : x.2.2.1 = s := by rw [h]
    have e2 : x.2.2.2 = ps := by rw [h]
    rw [e1, e2, hx0]
    exact ⟨h0, rfl, by rw [e1], by rw [e1]⟩
  split at hx
  · subst hx; exact same rfl
  rename_i k2
  split at hx
  · rename_i k3
    generalize hy : trimS room s ps m.ep m.at' = y at hx
    have hy0 := hy
    unfold trimS at hy
    split at hy
    · subst hy; subst hx; exact same rfl
    rename_i hr
    split at hy
    · subst hy; subst hx; exact same rfl
    rename_i hlow
    subst hx
    have hz := lastS_ok (l := pageL 3 [m.at']) (s := s) (ps := ps) (room := room) (s' := forgS { s with low := m.at' }) (by rw [hy]; exact h0)
    rw [hy] at hz
    have e : deedS room y.2.1 y.2.2 m (repS m) = (0, repS m, y.2.1, y.2.2) := by
      unfold deedS
      rw [if_neg k1, if_neg k2, if_pos k3]
      have : trimS room y.2.1 y.2.2 m.ep m.at' = (0, y.2.1, y.2.2) := by
        rw [hz]
        dsimp only
        unfold trimS
        rw [if_neg (show ¬ reachE (forgS { s with low := m.at' }) m.ep m.at' ≠ 0 by rw [reachS_of (s' := forgS { s with low := m.at' }) (s := s) rfl]; exact hr), if_pos (show m.at' ≤ (forgS { s with low := m.at' }).low from Int.le_refl _)]
      rw [this]
    simp only
    rw [e]
    exact ⟨rfl, rfl, rfl, rfl⟩
  rename_i k3
  split at hx
  · rename_i k4
    split at hx
    · subst hx; exact same rfl
    rename_i hep
    split at hx
    · rename_i hs0
      generalize hy : sealS room s ps m.ep = y at hx hs0
      unfold sealS at hy
      split at hy
      · subst hy; simp at hs0
      split at hy
      · subst hy; simp at hs0
      subst hx
      have hz := lastS_ok (l := pageL 4 [m.ep]) (s := s) (ps := ps) (room := room) (s' := { s with epoch := m.ep }) (by rw [hy]; exact hs0)
      rw [hy] at hz
      have he : y.2.1.epoch = m.ep := by rw [hz]
      have e : deedS room y.2.1 y.2.2 m (repS m) = (0, { repS m with tail := max y.2.1.top y.2.1.low }, y.2.1, y.2.2) := by
        unfold deedS
        rw [if_neg k1, if_neg k2, if_neg k3, if_pos k4, if_pos he]
      simp only
      rw [e]
      exact ⟨rfl, rfl, rfl, rfl⟩
    · rename_i hs0; subst hx; exact absurd h0 hs0
  rename_i k4
  split at hx
  · split at hx
    · subst hx; exact same rfl
    · subst hx; simp at h0
  rename_i k5
  split at hx
  · rename_i k6
    generalize hy : promiseS room s ps m.at' m.br m.bw = y at hx
    have hy0 := hy
    unfold promiseS at hy
    split at hy
    · subst hy; subst hx; simp at h0
    rename_i hp
    split at hy
    · subst hy; subst hx; simp at h0
    rename_i hl
    split at hy
    · subst hy; subst hx; exact same rfl
    split at hy
    · subst hy; subst hx; simp at h0
    subst hx
    have hin : instAt (promS s m.at' m.br m.bw) m.at' = { instAt s m.at' with pr := m.br, pw := m.bw } := instAt_put
    have e : promiseS room y.2.2.2.2.1 y.2.2.2.2.2 m.at' m.br m.bw = (y.1, y.2.1, y.2.2.1, 0, y.2.2.2.2.1, y.2.2.2.2.2) := by
      subst hy
      unfold promiseS
      rw [if_neg hp]
      simp only [hin, lessB_self]
      rw [if_neg (by simp), if_pos ⟨trivial, trivial⟩]
    have e2 : deedS room y.2.2.2.2.1 y.2.2.2.2.2 m (repS m) = (0, { repS m with br := y.1, bw := y.2.1, val := y.2.2.1 }, y.2.2.2.2.1, y.2.2.2.2.2) := by
      unfold deedS
      rw [if_neg k1, if_neg k2, if_neg k3, if_neg k4, if_neg k5, if_pos k6, e]
    simp only
    rw [e2]
    exact ⟨rfl, rfl, rfl, rfl⟩
  rename_i k6
  generalize hy : acceptS room s ps m.at' m.br m.bw m.val = y at hx
  unfold acceptS at hy
  split at hy
  · subst hy; subst hx; simp at h0
  rename_i hp
  split at hy
  · subst hy; subst hx; simp at h0
  rename_i hv
  split at hy
  · subst hy; subst hx; simp at h0
  rename_i hl
  subst hx
  have hz := lastS_ok (l := pageL 6 [m.at', m.br, m.bw] ++ beN m.val.length 4 ++ m.val) (s := s) (ps := ps) (room := room) (s' := accS s m.at' m.br m.bw m.val) (by rw [hy]; exact h0)
  rw [hy] at hz
  have hin : instAt (accS s m.at' m.br m.bw m.val) m.at' = ⟨m.br, m.bw, m.br, m.bw, m.val⟩ := instAt_put
  have e : acceptS room y.2.1 y.2.2 m.at' m.br m.bw m.val = (0, accS y.2.1 m.at' m.br m.bw m.val, y.2.2 ++ [⟨1, pageL 6 [m.at', m.br, m.bw] ++ beN m.val.length 4 ++ m.val⟩]) := by
    rw [hz]
    unfold acceptS
    rw [if_neg hp, if_neg hv]
    simp only [hin, lessB_self]
    rw [if_neg (by simp)]
    unfold lastS
    rw [if_neg (by simp; omega)]
  have e2 : deedS room y.2.1 y.2.2 m (repS m) = (0, repS m, accS y.2.1 m.at' m.br m.bw m.val, y.2.2 ++ [⟨1, pageL 6 [m.at', m.br, m.bw] ++ beN m.val.length 4 ++ m.val⟩]) := by
    unfold deedS
    rw [if_neg k1, if_neg k2, if_neg k3, if_neg k4, if_neg k5, if_neg k6, e]
  simp only
  rw [e2]
  exact ⟨rfl, rfl, rfl, rfl⟩
theorem answer_again {room : Int} {s : USt} {ps : List Pg} {m : MS} (hroom : (ps.length : Int) + 1 < room) :
    (answerS room (answerS room s ps m).2.2.1 (answerS room s ps m).2.2.2 m).1 = (answerS room s ps m).1 ∧
    (m.kind = 1 → (answerS room s ps m).1 = true → (answerS room s ps m).2.1.err = 0 → (answerS room (answerS room s ps m).2.2.1 (answerS room s ps m).2.2.2 m).2.1.err = 10 ∧ (answerS room (answerS room s ps m).2.2.1 (answerS room s ps m).2.2.2 m).2.1.cell = m.cell) ∧
    (¬ (m.kind = 1 ∧ (answerS room s ps m).1 = true ∧ (answerS room s ps m).2.1.err = 0) → (answerS room (answerS room s ps m).2.2.1 (answerS room s ps m).2.2.2 m).2.1 = (answerS room s ps m).2.1) := by
  by_cases hn : m.rep = true ∨ ¬ (1 ≤ m.kind ∧ m.kind ≤ 7)
  · have e : ∀ s' ps', answerS room s' ps' m = (false, zMS, s', ps') := fun s' ps' => if_pos hn
    simp only [e]
    exact ⟨trivial, fun _ h => (by cases h), fun _ => trivial⟩
  · have e : ∀ s' ps', answerS room s' ps' m = (true, finS (deedS room s' ps' m (repS m)).1 (deedS room s' ps' m (repS m)).2.1 (deedS room s' ps' m (repS m)).2.2.1, (deedS room s' ps' m (repS m)).2.2) := fun s' ps' => if_neg hn
    have herr : ∀ e r s', (finS e r s').err = e := fun e r s' => by unfold finS; split <;> rfl
    simp only [e, herr]
    refine ⟨trivial, fun hk _ h0 => ?_, fun h => ?_⟩
    · obtain ⟨h1, h2⟩ := (deed_again hroom h0).1 hk
      refine ⟨h1, ?_⟩
      unfold finS
      rw [if_neg (by rw [h1]; decide), if_pos h1]
      exact h2
    · by_cases h0 : (deedS room s ps m (repS m)).1 = 0
      · obtain ⟨h1, h2, h3, h4⟩ := (deed_again hroom h0).2 fun hk => h ⟨hk, trivial, h0⟩
        unfold finS
        rw [if_pos h1, if_pos h0, h2, h3, h4, h1, h0]
      · have := deedS_err _ rfl h0
        have e1 : (deedS room s ps m (repS m)).2.2.1 = s := by rw [this]
        have e2 : (deedS room s ps m (repS m)).2.2.2 = ps := by rw [this]
        rw [e1, e2]
        simp only [e1]
end Go.Proofs.Ytmibmjehjagmbaa
