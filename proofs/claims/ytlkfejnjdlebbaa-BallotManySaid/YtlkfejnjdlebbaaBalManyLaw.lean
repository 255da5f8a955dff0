/- BallotMany in plain Lean: what a proposer is after each answer, beside the law's own set. No condition. -/
import Derived.Test.YtlkfejnjdlebbaaBalI
namespace Go.Proofs.Ytlkfejnjdlebbaa
open Go.RowKit

structure MInv (n : Int) (v : List UInt8) (g : GSt) (S : AL Int) : Prop where
  acc : g.acc = n
  vb : g.vb = v
  ph : g.phase = 1 ∨ g.phase = 2 ∨ g.phase = 3
  nc : NoCand g
  tr : ∀ x ∈ S, x.2.1 = .bool true
  keys : S.map (·.1) = g.ans.map (·.1)
  ag : g.agreed = g.ans.length
  low : g.phase ≠ 3 → g.agreed ≤ n / 2

def okGA : GA := ⟨true, 0, 0, []⟩
def mStep (g : GSt) (a : Int) : GSt := gAccepted (gPromE g a) a 0

theorem gHas_keys (g : GSt) (a : Int) : gHas g a = decide (a ∈ g.ans.map (·.1)) := by
  unfold gHas
  induction g.ans with
  | nil => simp
  | cons x l ih =>
    simp only [List.any_cons, List.map_cons, List.mem_cons, ih]
    by_cases e : x.1 = a
    · simp [e]
    · have e' : ¬ a = x.1 := fun h => e h.symm
      simp [e, e']
theorem seen_find {S : AL Int} (h : ∀ x ∈ S, x.2.1 = .bool true) (a : Int) : (alFind a S).getD (.bool false) = .bool (decide (a ∈ S.map (·.1))) ∧ ((alFind a S).isSome = decide (a ∈ S.map (·.1))) := by
  induction S with
  | nil => exact ⟨rfl, rfl⟩
  | cons x l ih =>
    unfold alFind
    by_cases e : a = x.1
    · simp [e, h x (by simp)]
    · have := ih (fun y hy => h y (by simp [hy]))
      simp [e, this]
theorem put_true {S : AL Int} (h : ∀ x ∈ S, x.2.1 = .bool true) (a : Int) (c : Nat) : ∀ x ∈ alPut a (.bool true) c S, x.2.1 = .bool true := by
  induction S with
  | nil => intro x hx; simp [alPut] at hx; subst hx; rfl
  | cons y l ih =>
    intro x hx
    unfold alPut at hx
    split at hx
    · rcases List.mem_cons.1 hx with rfl | hx
      · rfl
      · exact h x (by simp [hx])
    · rcases List.mem_cons.1 hx with rfl | hx
      · exact h _ (by simp)
      · exact ih (fun z hz => h z (by simp [hz])) x hx

section
variable {n : Int} {v : List UInt8} {g : GSt} {S : AL Int}
theorem MInv.ok (h : MInv n v g S) (h1 : 1 ≤ n) (h2 : n ≤ 8) (hv : v.length ≤ 100) (hp : g.phase ≠ 3) : GOk g := by
  have := h.low hp
  have := h.ag
  exact ⟨by rw [h.acc]; omega, by rw [h.acc]; omega, by omega, by omega, by omega, by rw [h.vb]; omega⟩
theorem MInv.seen (h : MInv n v g S) (a : Int) : (alFind a S).getD (.bool false) = .bool (gHas g a) := by
  rw [(seen_find h.tr a).1, h.keys, gHas_keys]
theorem MInv.asked (h : MInv n v g S) {a : Int} (h1 : 0 ≤ a) (h2 : a < n) (hp : g.phase ≠ 3) : gAsked g a = !gHas g a := by
  unfold gAsked
  rw [show decide ((g.phase = 1 ∨ g.phase = 2) ∧ 0 ≤ a ∧ a < g.acc) = true by
    have := h.ph; have := h.acc; simp; omega]
  rfl
theorem MInv.keys_put (h : MInv n v g S) (a : Int) (c : Nat) : (alPut a (.bool true) c S).map (·.1) = if gHas g a then g.ans.map (·.1) else g.ans.map (·.1) ++ [a] := by
  rw [alPut_keys, (seen_find h.tr a).2, h.keys, gHas_keys]
theorem MInv.len_put (h : MInv n v g S) (a : Int) (c : Nat) : (((alPut a (.bool true) c S).length : Nat) : Int) = if gHas g a then g.agreed else g.agreed + 1 := by
  have := congrArg List.length (h.keys_put a c)
  rw [List.length_map] at this
  rw [this, h.ag]
  split <;> simp

theorem gTake_okGA (g : GSt) (a : Int) : gTake g a okGA = ({ g with ans := g.ans ++ [(a, okGA)], agreed := g.agreed + 1 }, decide (g.acc / 2 < g.agreed + 1)) := if_pos rfl
theorem NoCand.snoc {g : GSt} (h : NoCand g) (a : Int) (k : Int) (p : Int) : NoCand { g with ans := g.ans ++ [(a, okGA)], agreed := k, phase := p } := fun x hx => by
  rcases List.mem_append.1 hx with hx | hx
  · exact h x hx
  · simp at hx; subst hx; exact fun hh => hh.2 ⟨rfl, rfl⟩

theorem MInv.one (h : MInv n v g S) {a : Int} (hn : 1 ≤ n) (h1 : 0 ≤ a) (h2 : a < n) (hp : g.phase = 1) (c : Nat) :
    ((mStep g a).phase = 1 ∧ (((alPut a (.bool true) c S).length : Nat) : Int) ≤ n / 2 ∧ MInv n v (mStep g a) (alPut a (.bool true) c S)) ∨
    (n / 2 < (((alPut a (.bool true) c S).length : Nat) : Int) ∧ MInv n v (mStep g a) [(a, .bool true, 0)] ∧ ((1 < n ∧ (mStep g a).phase = 2) ∨ (n = 1 ∧ (mStep g a).phase = 3))) := by
  have hA := h.asked h1 h2 (by omega)
  have hL := h.len_put a c
  have hK := h.keys_put a c
  have hlow := h.low (by omega)
  cases hh : gHas g a with
  | true =>
    rw [hh] at hA hL hK
    simp only [if_true] at hL hK
    have e1 : gPromE g a = g := if_neg (fun hc => by rw [hA] at hc; cases hc.2)
    have e2 : mStep g a = g := by
      unfold mStep; rw [e1]
      exact if_neg (fun hc => by omega)
    left
    rw [e2]
    exact ⟨hp, by omega, h.acc, h.vb, h.ph, h.nc, put_true h.tr a c, hK, h.ag, h.low⟩
  | false =>
    rw [hh] at hA hL hK
    simp only [Bool.false_eq_true, if_false] at hL hK
    have hA' : gAsked g a = true := by rw [hA]; rfl
    have e1 : gPromE g a = if decide (g.acc / 2 < g.agreed + 1) = true then { g with ans := [], agreed := 0, phase := 2 } else { g with ans := g.ans ++ [(a, okGA)], agreed := g.agreed + 1 } := by
      unfold gPromE
      rw [if_pos ⟨hp, hA'⟩]
      have := gTake_okGA g a
      unfold okGA at this
      rw [this]
      rfl
    by_cases hw : n / 2 < g.agreed + 1
    · right
      have e2 : gPromE g a = { g with ans := [], agreed := 0, phase := 2 } := by rw [e1, if_pos (by rw [h.acc]; simpa using hw)]
      have hA2 : gAsked { g with ans := [], agreed := 0, phase := 2 } a = true := by
        unfold gAsked gHas
        have := h.acc
        simp; omega
      have e3 : mStep g a = if decide (g.acc / 2 < 0 + 1) = true then { g with ans := [(a, okGA)], agreed := 1, phase := 3 } else { g with ans := [(a, okGA)], agreed := 1, phase := 2 } := by
        unfold mStep
        rw [e2]
        unfold gAccepted
        rw [if_pos ⟨rfl, hA2⟩]
        have := gTake_okGA { g with ans := [], agreed := 0, phase := 2 } a
        unfold okGA at this
        rw [show decide ((0 : Int) = 0) = true from rfl, this]
        rfl
      have hnc : ∀ p, NoCand { g with ans := [(a, okGA)], agreed := 1, phase := p } := fun p x hx => by
        simp at hx; subst hx; exact fun hh => hh.2 ⟨rfl, rfl⟩
      refine ⟨by omega, ?_⟩
      by_cases h3 : n = 1
      · rw [e3, if_pos (by rw [h.acc]; simp; omega)]
        exact ⟨⟨h.acc, h.vb, .inr (.inr rfl), hnc 3, (fun x hx => by simp at hx; subst hx; rfl), rfl, rfl, fun hc => absurd rfl hc⟩, .inr ⟨h3, rfl⟩⟩
      · rw [e3, if_neg (by rw [h.acc]; simp; omega)]
        exact ⟨⟨h.acc, h.vb, .inr (.inl rfl), hnc 2, (fun x hx => by simp at hx; subst hx; rfl), rfl, rfl, fun _ => by show (1 : Int) ≤ n / 2; omega⟩, .inl ⟨by omega, rfl⟩⟩
    · left
      have e2 : gPromE g a = { g with ans := g.ans ++ [(a, okGA)], agreed := g.agreed + 1 } := by rw [e1, if_neg (by rw [h.acc]; simpa using hw)]
      have e3 : mStep g a = { g with ans := g.ans ++ [(a, okGA)], agreed := g.agreed + 1 } := by
        unfold mStep
        rw [e2]
        exact if_neg (fun hc => by have : g.phase = 2 := hc.1; omega)
      rw [e3]
      refine ⟨hp, by omega, h.acc, h.vb, h.ph, h.nc.snoc a _ _, put_true h.tr a c, by rw [hK]; simp, ?_, fun _ => ?_⟩
      · show g.agreed + 1 = _
        rw [h.ag]; simp
      · show g.agreed + 1 ≤ n / 2
        omega

theorem MInv.two (h : MInv n v g S) {a : Int} (h1 : 0 ≤ a) (h2 : a < n) (hp : g.phase = 2) (c : Nat) :
    MInv n v (mStep g a) (alPut a (.bool true) c S) ∧ ((n / 2 < (((alPut a (.bool true) c S).length : Nat) : Int) ∧ (mStep g a).phase = 3) ∨ ((((alPut a (.bool true) c S).length : Nat) : Int) ≤ n / 2 ∧ (mStep g a).phase = 2)) := by
  have hA := h.asked h1 h2 (by omega)
  have hL := h.len_put a c
  have hK := h.keys_put a c
  have hlow := h.low (by omega)
  have e1 : gPromE g a = g := if_neg (fun hc => by omega)
  cases hh : gHas g a with
  | true =>
    rw [hh] at hA hL hK
    simp only [if_true] at hL hK
    have e2 : mStep g a = g := by
      unfold mStep; rw [e1]
      exact if_neg (fun hc => by rw [hA] at hc; cases hc.2)
    rw [e2]
    exact ⟨⟨h.acc, h.vb, h.ph, h.nc, put_true h.tr a c, hK, h.ag, h.low⟩, .inr ⟨by omega, hp⟩⟩
  | false =>
    rw [hh] at hA hL hK
    simp only [Bool.false_eq_true, if_false] at hL hK
    have hA' : gAsked g a = true := by rw [hA]; rfl
    have e3 : mStep g a = if decide (g.acc / 2 < g.agreed + 1) = true then { g with ans := g.ans ++ [(a, okGA)], agreed := g.agreed + 1, phase := 3 } else { g with ans := g.ans ++ [(a, okGA)], agreed := g.agreed + 1 } := by
      unfold mStep
      rw [e1]
      unfold gAccepted
      rw [if_pos ⟨hp, hA'⟩]
      have := gTake_okGA g a
      unfold okGA at this
      rw [show decide ((0 : Int) = 0) = true from rfl, this]
      rfl
    have hag : g.agreed + 1 = ((g.ans ++ [(a, okGA)]).length : Int) := by rw [h.ag]; simp
    by_cases hw : n / 2 < g.agreed + 1
    · rw [e3, if_pos (by rw [h.acc]; simpa using hw)]
      exact ⟨⟨h.acc, h.vb, .inr (.inr rfl), h.nc.snoc a _ _, put_true h.tr a c, by rw [hK]; simp, hag, fun hc => absurd rfl hc⟩, .inl ⟨by omega, rfl⟩⟩
    · rw [e3, if_neg (by rw [h.acc]; simpa using hw)]
      exact ⟨⟨h.acc, h.vb, h.ph, h.nc.snoc a _ _, put_true h.tr a c, by rw [hK]; simp, hag, fun _ => by show g.agreed + 1 ≤ n / 2; omega⟩, .inr ⟨by omega, hp⟩⟩
end
theorem gPromE_ok {g : GSt} (h : GOk g) (a : Int) (hl : g.ans.length < 4294967296) : GOk (gPromE g a) := by
  unfold gPromE
  split
  · split
    · have := gTake_ok h a ⟨true, 0, 0, []⟩ hl
      exact ⟨this.acc0, this.acc1, by simp, by simp, by simp, this.vb⟩
    · exact gTake_ok h a ⟨true, 0, 0, []⟩ hl
  · exact h
theorem MInv.small {n : Int} {v : List UInt8} {g : GSt} {S : AL Int} (h : MInv n v g S) (h2 : n ≤ 8) (hp : g.phase ≠ 3) : g.ans.length < 4294967296 := by
  have := h.low hp
  have := h.ag
  omega
theorem MInv.start (n : Int) (v : List UInt8) (hn : 1 ≤ n) : MInv n v ⟨n, 1, 0, v, 1, [], 0⟩ [] := ⟨rfl, rfl, .inl rfl, (fun x hx => by cases hx), (fun x hx => by cases hx), rfl, rfl, fun _ => by show (0 : Int) ≤ n / 2; omega⟩
end Go.Proofs.Ytlkfejnjdlebbaa
