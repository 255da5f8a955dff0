/- BallotLate in plain Lean: what comes late turns nothing; what is taken shows. No condition. -/
import Derived.Test.YtlkfejnjdlebbaaBalI
namespace Go.Proofs.Ytlkfejnjdlebbaa
open Go.RowKit

structure LInv (n : Int) (k : Nat) (g : GSt) : Prop where
  acc : g.acc = n
  ok : GOk g
  len : g.ans.length ≤ k
  vbs : ∀ x ∈ g.ans, x.2.vb.length ≤ 140737488355328

theorem gTake_acc (g : GSt) (f : Int) (a : GA) : (gTake g f a).1.acc = g.acc := by
  unfold gTake; split <;> (try split) <;> rfl
theorem gTake_phase (g : GSt) (f : Int) (a : GA) : (gTake g f a).1.phase = g.phase ∨ (gTake g f a).1.phase = 4 := by
  unfold gTake; split <;> (try split) <;> simp
theorem gTake_has (g : GSt) (f : Int) (a : GA) : gHas (gTake g f a).1 f = true := by
  unfold gHas; rw [gTake_ans]; simp
theorem gAsked_has {g : GSt} {f : Int} (h : gHas g f = true) : gAsked g f = false := by unfold gAsked; rw [h]; simp

section
variable {n : Int} {k : Nat} {g g' : GSt} {f r w e : Int} {l : List UInt8}
theorem LInv.take (h : LInv n k g) (hk : k < 4294967296) (f : Int) (a : GA) (ha : a.vb.length ≤ 140737488355328) : LInv n (k + 1) (gTake g f a).1 := by
  refine ⟨by rw [gTake_acc]; exact h.acc, gTake_ok h.ok f a (by have := h.len; omega), by rw [gTake_ans]; have := h.len; simp; omega, fun x hx => ?_⟩
  rw [gTake_ans] at hx
  rcases List.mem_append.1 hx with hx | hx
  · exact h.vbs x hx
  · simp at hx; subst hx; exact ha
theorem LInv.up (h : LInv n k g) : LInv n (k + 1) g := ⟨h.acc, h.ok, by have := h.len; omega, h.vbs⟩
theorem gAns_small (hl : l.length ≤ 140737488355328) : (gAns e r w l).vb.length ≤ 140737488355328 := by
  unfold gAns; split
  · exact hl
  · simp
theorem prom_still (hn : ¬ (g.phase = 1 ∧ gAsked g f = true)) (h : GProm g f r w l e g') : g' = g := by
  unfold GProm at h; rw [if_neg hn] at h; exact h
theorem prom_moves (hn : g.phase = 1 ∧ gAsked g f = true) (h : GProm g f r w l e g') : g'.phase ≠ g.phase ∨ gAsked g' f = false := by
  unfold GProm at h; rw [if_pos hn] at h
  split at h
  · obtain ⟨v, _, rfl⟩ := h
    left; show (2 : Int) ≠ g.phase; rw [hn.1]; decide
  · right; rw [h]; exact gAsked_has (gTake_has _ _ _)
theorem acpt_still (hn : ¬ (g.phase = 2 ∧ gAsked g f = true)) : gAccepted g f e = g := if_neg hn
theorem acpt_moves (hn : g.phase = 2 ∧ gAsked g f = true) : (gAccepted g f e).phase ≠ g.phase ∨ gAsked (gAccepted g f e) f = false := by
  unfold gAccepted; rw [if_pos hn]
  split
  · left; show (3 : Int) ≠ g.phase; rw [hn.1]; decide
  · right; exact gAsked_has (gTake_has _ _ _)
theorem LInv.prom (h : LInv n k g) (hk : k < 4294967296) (hl : l.length ≤ 140737488355328) (hp : GProm g f r w l e g') : LInv n (k + 1) g' := by
  by_cases hn : g.phase = 1 ∧ gAsked g f = true
  · have ht := h.take hk f (gAns e r w l) (gAns_small hl)
    unfold GProm at hp; rw [if_pos hn] at hp
    split at hp
    · obtain ⟨v, hv, rfl⟩ := hp
      have hvl : v.length ≤ 140737488355328 := by
        rcases hv with ⟨_, rfl⟩ | ⟨i, x, hx, _, _, rfl⟩
        · exact h.ok.vb
        · exact ht.vbs x (List.mem_of_getElem? hx)
      exact ⟨ht.acc, ⟨ht.ok.acc0, ht.ok.acc1, by simp, by simp, by simp, hvl⟩, by simp, fun x hx => by cases hx⟩
    · rw [hp]; exact ht
  · rw [prom_still hn hp]; exact h.up
theorem LInv.acpt (h : LInv n k g) (hk : k < 4294967296) : LInv n (k + 1) (gAccepted g f e) := by
  by_cases hn : g.phase = 2 ∧ gAsked g f = true
  · have ht := h.take hk f ⟨decide (e = 0), 0, 0, []⟩ (by simp)
    unfold gAccepted; rw [if_pos hn]
    split
    · exact ⟨ht.acc, ⟨ht.ok.acc0, ht.ok.acc1, ht.ok.ag0, ht.ok.ag1, ht.ok.len, ht.ok.vb⟩, ht.len, ht.vbs⟩
    · exact ht
  · rw [acpt_still hn]; exact h.up
theorem LInv.nobody (h : LInv n k g) (hf : f < 0 ∨ n ≤ f) : gAsked g f = false := by
  unfold gAsked
  have := h.acc
  rw [show decide ((g.phase = 1 ∨ g.phase = 2) ∧ 0 ≤ f ∧ f < g.acc) = false by simp; omega]
  rfl
theorem LInv.start (n : Int) (v : List UInt8) (h1 : 1 ≤ n) (h2 : n ≤ 8) (hv : v.length ≤ 100) (rd who : Int) : LInv n 0 ⟨n, rd, who, v, 1, [], 0⟩ :=
  ⟨rfl, ⟨h1, by show n ≤ _; omega, by simp, by simp, by simp, by show v.length ≤ _; omega⟩, by simp, fun x hx => by cases hx⟩
end
end Go.Proofs.Ytlkfejnjdlebbaa
