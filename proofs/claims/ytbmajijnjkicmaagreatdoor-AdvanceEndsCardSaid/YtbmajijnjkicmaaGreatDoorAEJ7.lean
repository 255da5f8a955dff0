/- Texts of this claim, joined. No condition. -/
import Derived.Test.YtbmajijnjkicmaaGreatDoorAEJ4
import Derived.Test.YtbmajijnjkicmaaGreatDoorAEJ6
import Derived.OpenShut
import Derived.ProofKit
import Derived.ShutString
import Derived.ChangeOld
import Derived.Below
import Derived.SizedLaws
import Derived.Lay
import Derived.LaidMore
import Derived.Test.YtbmajijnjkicmaaGreatDoorTie
import Derived.Test.YtbmajijnjkicmaaGreatDoorCards
import Derived.SevenTiedAt
set_option linter.unusedSimpArgs false
set_option linter.unusedVariables false

namespace Go.Proofs.YtbmajijnjkicmaaGreatDoor
open Go.Proofs.YtbmajijnjkicmaaGreatDoor RX
set_option maxRecDepth 100000

structure PlN (n : Nat) (p : PlP) : Prop where
  nn : 1 ≤ n ∧ n ≤ 4
  r : rightB p = true
  e : p.ep = 0
  c : ∀ c ∈ p.ch, ∀ x ∈ c, 0 ≤ x ∧ x < (n : Int)
structure EnI (n : Nat) (p : PlP) (k K : Nat) (T : Int) (w : NS) (gs : List AdvS) (i : Nat) (g : AdvS) : Prop where
  one : OneI (SPlan p) n p k w gs none
  lv : ∀ u ∈ w.l, LvU (bnN 1 (i + 1)) K T u
  al : Aliv g
  hg : gs[i]? = some g
  e : w.e = -1 ∨ w.e = 1
theorem OneI.av {S : List UInt8 → Prop} {n : Nat} {p : PlP} {k : Nat} {w : NS} {gs : List AdvS} {ch : Option PlP} (h : OneI S n p k w gs ch) {i : Nat} {g : AdvS} (hg : gs[i]? = some g) :
    g.old = p ∧ g.units = n ∧ g.who = i + 1 ∧ (g.st = 2 → ∃ s, g.prop = some s ∧ s.who = i + 1) ∧ (3 ≤ g.st → g.st ≠ 6 → GoodP p g.plan) ∧ (∀ u ∈ w.l, 0 ≤ u.i1.pw ∧ u.i1.pw < 1000000) := by
  obtain ⟨bs, V, px, pv, ha, hc⟩ := h
  have hA := ha i g hg
  refine ⟨hA.old, hA.un, hA.wh, fun h2 => ?_, fun h3 h6 => ?_, fun u hu => ?_⟩
  · obtain ⟨j, s, a, b, c, d⟩ := hA.s2 h2; exact ⟨s, a, c⟩
  · obtain ⟨b, v, _, _, hG⟩ := hA.s3 h3 h6; exact hG
  · obtain ⟨q, hq, rfl⟩ := List.mem_iff_getElem.1 hu
    exact (px.ub q _ (by rw [List.getElem?_map, List.getElem?_eq_getElem hq]; rfl)).pw
theorem EnI.to_lt {n : Nat} {p : PlP} {k K : Nat} {T : Int} {w : NS} {gs : List AdvS} {i : Nat} {g : AdvS} (h : EnI n p k K T w gs i g) (hp : PlN n p) {u : Nat} (hu7 : u < 7) (ha : askedA g u = true) : u < n := by
  obtain ⟨o1, o2, o3, o4, o5, _⟩ := h.one.av h.hg
  have hA := h.one.ai h.hg
  have hrg := hA.rg
  by_cases h1 : g.st = 1
  · rw [asked1 h1, Bool.and_eq_true] at ha
    have := of_decide_eq_true ha.1
    omega
  by_cases h2 : g.st = 2
  · obtain ⟨s, hps, hPI⟩ := hA.s2 h2
    rw [asked2 h2 hps] at ha
    obtain ⟨_, _, q3⟩ := asked_hasB ha
    rw [hPI.acc, o2] at q3
    omega
  by_cases h3 : g.st = 3
  · rw [asked3 h3, Bool.and_eq_true] at ha
    obtain ⟨c, hc, hm⟩ := List.any_eq_true.1 ha.2
    have hm := of_decide_eq_true hm
    obtain ⟨j, hj, rfl⟩ := List.mem_iff_getElem.1 hc
    obtain ⟨d, hd, hsub⟩ := (o5 (by omega) (by omega)).2.2.2 j _ (List.getElem?_eq_getElem hj)
    have := hp.c d (List.mem_of_getElem? hd) u (hsub _ hm)
    omega
  · rw [asked0 h1 h2 h3] at ha; cases ha
structure AnsI (w : NS) (m : MS) (K : Nat) (B T : Int) (u : Nat) (x : UR) : Prop where
  hx : w.l[u]? = some x
  ok : (askN w m).1 = true
  err : (askN w m).2.1.err = 0
  rep : RepOf m (askN w m).2.1
  w' : (askN w m).2.2 = w.put u (x.aft m)
  lv : LvU B (K + 1) T (x.aft m)
  ep : (m.kind = 4 ∧ (x.aft m).s.epoch = 1 ∧ (askN w m).2.1.tail = max x.s.top x.s.low ∧ (askN w m).2.1.low = x.s.low) ∨ (m.kind ≠ 4 ∧ (x.aft m).s.epoch = x.s.epoch)
theorem EnI.ans {n : Nat} {p : PlP} {k K : Nat} {T : Int} {w : NS} {gs : List AdvS} {i : Nat} {g : AdvS} (h : EnI n p k K T w gs i g) (hp : PlN n p) (hK : K < 900) (hi : i < 1000) (h4 : g.st ≠ 4) {m : MS} (hm : m ∈ asksL g) :
    ∃ u x, m.to = ((u : Nat) : Int) ∧ u < n ∧ askedA g u = true ∧ m = askA g u ∧ AnsI w m K (bnN 1 (i + 1)) T u x := by
  obtain ⟨o1, o2, o3, o4, o5, o6⟩ := h.one.av h.hg
  have hlen := h.one.len
  have hA := h.one.ai h.hg
  unfold asksL at hm
  rw [if_neg h4] at hm
  obtain ⟨u, hu, rfl⟩ := List.mem_map.1 hm
  obtain ⟨hu7, hask⟩ := List.mem_filter.1 hu
  have hu7 := List.mem_range.1 hu7
  have hun := h.to_lt hp hu7 hask
  have hto : (askA g u).to = u := askA_to g u
  have hrep : (askA g u).rep = false := by
    unfold askA; split
    · split <;> rfl
    · rfl
  have hx : w.l[u]? = some (w.l[u]'(by omega)) := List.getElem?_eq_getElem (by omega)
  generalize w.l[u]'(by omega) = x at hx
  have hxm := List.mem_of_getElem? hx
  have ea : askN w (askA g u) = ((answerS 900 x.s x.ps (askA g u)).1, (answerS 900 x.s x.ps (askA g u)).2.1, w.put u (x.aft (askA g u))) := by
    unfold askN
    rw [if_neg (by rw [hto]; omega), hto, if_neg (by omega), Int.toNat_natCast, hx]; rfl
  refine ⟨u, x, hto, hun, hask, rfl, ?_⟩
  have hep : (askA g u).ep = 1 := by
    have : (askA g u).ep = g.old.ep + 1 := by
      unfold askA; split
      · split <;> rfl
      · rfl
    rw [this, o1, hp.e]; rfl
  by_cases h2 : g.st = 2
  · obtain ⟨s, hps, hPI⟩ := hA.s2 h2
    obtain ⟨s2, hps2, hwho⟩ := o4 h2
    rw [hps] at hps2; cases hps2
    obtain ⟨hrn, _⟩ := h.al.a2 h2 s hps
    have hM : askA g u = ⟨0, u, 0, false, if s.phase = 2 then 7 else 6, g.old.ep + 1, g.old.ep + 1, zC, s.rnd, s.who, if s.phase = 2 then s.val else [], 0, 0, 0, 0⟩ := by unfold askA; rw [if_pos h2, hps]
    have hat : (askA g u).at' = 1 := by rw [hM, o1, hp.e]; rfl
    have hbr : (askA g u).br = 1 ∧ (askA g u).bw = (i : Int) + 1 := by rw [hM]; exact ⟨hrn, hwho⟩
    by_cases hph : s.phase = 2
    · have hk7 : (askA g u).kind = 7 := by rw [hM]; exact if_pos hph
      have hval : (askA g u).val = s.val := by rw [hM]; exact if_pos hph
      obtain ⟨a1, a2, _⟩ := ans7 900 x.s x.ps hrep hk7
      obtain ⟨b1, b2, b3⟩ := (h.lv x hxm).acc hK hrep hk7 hat (by rw [hbr.1]; omega) (by rw [hbr.2]; omega) (by rw [hbr.1, hbr.2]) (by rw [hval]; exact hPI.vl) (o6 x hxm)
      exact ⟨hx, by rw [ea]; exact a1, by rw [ea]; exact b1, by rw [ea]; exact a2, by rw [ea], b2, .inr ⟨by rw [hk7]; decide, b3⟩⟩
    · have hk6 : (askA g u).kind = 6 := by rw [hM]; exact if_neg hph
      obtain ⟨a1, a2, _⟩ := ans6 900 x.s x.ps hrep hk6
      obtain ⟨b1, b2, b3⟩ := (h.lv x hxm).prom hK hrep hk6 hat (by rw [hbr.1]; omega) (by rw [hbr.2]; omega) (by rw [hbr.1, hbr.2]) (o6 x hxm)
      exact ⟨hx, by rw [ea]; exact a1, by rw [ea]; exact b1, by rw [ea]; exact a2, by rw [ea], b2, .inr ⟨by rw [hk6]; decide, b3⟩⟩
  · have hk4 : (askA g u).kind = 4 := by unfold askA; rw [if_neg h2]
    obtain ⟨a1, a2, _⟩ := ans4 900 x.s x.ps hrep hk4
    obtain ⟨b1, b2, b3, b4, b5⟩ := (h.lv x hxm).seal hK hrep hk4 hep
    exact ⟨hx, by rw [ea]; exact a1, by rw [ea]; exact b1, by rw [ea]; exact a2, by rw [ea], b4, .inl ⟨hk4, b5, by rw [ea]; exact b2, by rw [ea]; exact b3⟩⟩
theorem EnI.own {n : Nat} {p : PlP} {k K : Nat} {T : Int} {w : NS} {gs : List AdvS} {i : Nat} {g : AdvS} (h : EnI n p k K T w gs i g) (hp : PlN n p) {f : Nat} {e : Int} (he : e = 0) (h1 : g.st = 1) (hn : asksL (sealG g f e) = []) : SPlan p (ownA (sealG g f e)) := by
  obtain ⟨o1, o2, _⟩ := h.one.av h.hg
  have hR := rightP hp.r
  have := ownA_plan (g := sealG g f e) (by show rightB g.old = true; rw [o1]; exact hp.r) (by show g.old.ep < _; rw [o1, hp.e]; decide) fun c hc => by
    have hc : c ∈ p.ch := by rw [← o1]; exact hc
    cases c with
    | nil => exact absurd rfl (hR.ne _ hc)
    | cons x r =>
      have hx := hp.c _ hc x (by simp)
      have hn4 := hp.nn
      refine ⟨x, by simp, ?_⟩
      have ha := (asksL_nil (g := sealG g f e) (by show g.st ≠ 4; omega)).1 hn x.toNat (by omega)
      rw [asked1 (g := sealG g f e) h1] at ha
      have hr : put7 g.rep f true x.toNat = true := by
        have : (decide (((x.toNat : Nat) : Int) < g.units)) = true := decide_eq_true (by rw [o2]; omega)
        have ha : (decide (((x.toNat : Nat) : Int) < g.units) && !put7 g.rep f true x.toNat) = false := ha
        rw [this, Bool.true_and] at ha
        simpa using ha
      show put7 g.there f (decide (e = 0)) x.toNat = true
      unfold put7 at hr ⊢
      split
      · exact decide_eq_true he
      · rename_i hne
        rw [if_neg hne] at hr
        exact h.al.a1 h1 _ (by omega) hr
  rw [show (sealG g f e).old = p from o1] at this
  exact this
theorem EnI.ownP {n : Nat} {p : PlP} {k K : Nat} {T : Int} {w : NS} {gs : List AdvS} {i : Nat} {g : AdvS} (h : EnI n p k K T w gs i g) (hp : PlN n p) (hc : (g.old.ch.all fun c => c.any fun u => g.there u.toNat) = true) : SPlan p (ownA g) := by
  obtain ⟨o1, o2, _⟩ := h.one.av h.hg
  have := ownA_plan (g := g) (by rw [o1]; exact hp.r) (by rw [o1, hp.e]; decide) fun c hcm => by
    obtain ⟨u, hu, ht⟩ := List.any_eq_true.1 (List.all_eq_true.1 hc c hcm)
    exact ⟨u, hu, ht⟩
  rw [o1] at this
  exact this
theorem set_mem {l : List UR} {u : Nat} {y : UR} {P : UR → Prop} (h : ∀ x ∈ l, P x) (hy : P y) : ∀ x ∈ l.set u y, P x := fun x hx => (List.mem_or_eq_of_mem_set hx).elim (h x) fun e => by rw [e]; exact hy
theorem startT_e {e n ep at' : Int} (h : e = -1 ∨ e = 1) (hep : ep = 1) : (startT e n ep at').2.1 = -1 ∨ (startT e n ep at').2.1 = 1 := by
  unfold startT
  split
  · exact h
  · split
    · exact h
    · split
      · exact .inr hep
      · exact h
theorem EnI.ask {n : Nat} {p : PlP} {k K : Nat} {T : Int} {w : NS} {gs : List AdvS} {i : Nat} {g : AdvS} (h : EnI n p k K T w gs i g) (hp : PlN n p) (hK : K < 900) (hi : i < 1000) (hk : k ≤ 99999) {m : MS} (hm : m ∈ asksL g) :
    EnI n p (k + 1) (K + 1) T (askN w m).2.2 gs i g ∧ (askN w m).2.1.val.length ≤ 1000 ∧ ((askN w m).1 = true → ∀ g', tolR g (askN w m).2.1 g' → EnI n p (k + 1) (K + 1) T (askN w m).2.2 (gs.set i g') i g') := by
  have hn := hp.nn
  have hil : i < gs.length := (List.getElem?_eq_some_iff.1 h.hg).1
  have hA := h.one.ai h.hg
  obtain ⟨o1, o2, o3, o4, o5, o6⟩ := h.one.av h.hg
  by_cases h4 : g.st = 4
  · have hm' : m = startA g := by
      unfold asksL at hm
      rw [if_pos h4] at hm
      exact List.mem_singleton.1 hm
    obtain ⟨q1, q2, q3⟩ := h.one.ask ⟨hn.1, by omega⟩ hk hp.e h.hg hi hm (fun _ h => h.sval) (fun h1 => by omega)
    have ea : askN w m = (true, sqAns w.e w.n m, { w with e := (startT w.e w.n m.ep m.at').2.1, n := (startT w.e w.n m.ep m.at').2.2 }) := by
      unfold askN; rw [if_pos (by rw [hm']; rfl)]
    have hlv : ∀ u ∈ (askN w m).2.2.l, LvU (bnN 1 (i + 1)) (K + 1) T u := by rw [ea]; exact fun u hu => (h.lv u hu).mono (Int.le_refl _) (Nat.le_succ K)
    have he : (askN w m).2.2.e = -1 ∨ (askN w m).2.2.e = 1 := by
      rw [ea]; exact startT_e h.e (by rw [hm']; show g.old.ep + 1 = 1; rw [o1, hp.e]; rfl)
    refine ⟨⟨q1, hlv, h.al, h.hg, he⟩, q2, fun ht g' hg' => ⟨q3 ht g' hg', hlv, ?_, by rw [List.getElem?_set_self hil], he⟩⟩
    have := (hA.told hk q2 hg').2.1
    exact ⟨fun h => by omega, fun h => by omega⟩
  · obtain ⟨u, x, hto, hun, hask, rfl, hAn⟩ := h.ans hp hK hi h4 hm
    obtain ⟨q1, q2, q3⟩ := h.one.ask ⟨hn.1, by omega⟩ hk hp.e h.hg hi hm (fun _ h => h.sval) (fun h1 hnil => h.own hp hAn.err h1 hnil)
    have hlv : ∀ y ∈ (askN w (askA g u)).2.2.l, LvU (bnN 1 (i + 1)) (K + 1) T y := by
      rw [hAn.w']
      exact set_mem (fun y hy => (h.lv y hy).mono (Int.le_refl _) (Nat.le_succ K)) hAn.lv
    have he : (askN w (askA g u)).2.2.e = -1 ∨ (askN w (askA g u)).2.2.e = 1 := by rw [hAn.w']; exact h.e
    exact ⟨⟨q1, hlv, h.al, h.hg, he⟩, q2, fun ht g' hg' => ⟨q3 ht g' hg', hlv, Aliv.told hA h.al hAn.err hg', by rw [List.getElem?_set_self hil], he⟩⟩
theorem EnI.push {n : Nat} {p : PlP} {k K : Nat} {T : Int} {w : NS} {gs : List AdvS} {i : Nat} {g : AdvS} (h : EnI n p k K T w gs i g) (hp : PlN n p) (hi : i < 1000) (hk : k ≤ 99999) : EnI n p (k + 1) (K + 1) T w (gs.set i (pushA g)) i (pushA g) := by
  have hn := hp.nn
  have hil : i < gs.length := (List.getElem?_eq_some_iff.1 h.hg).1
  exact ⟨h.one.push ⟨hn.1, by omega⟩ hk h.hg hi (fun _ hc => h.ownP hp hc), fun u hu => (h.lv u hu).mono (Int.le_refl _) (Nat.le_succ K), h.al.push, by rw [List.getElem?_set_self hil], h.e⟩
end Go.Proofs.YtbmajijnjkicmaaGreatDoor



namespace Go.Proofs.YtbmajijnjkicmaaGreatDoor
open Go.Proofs.YtbmajijnjkicmaaGreatDoor RX
set_option maxRecDepth 100000

theorem filt_lt {p q : Nat → Bool} {m u : Nat} (hu : u < m) (hp : p u = true) (hq : q u = false) (h : ∀ v, v < m → q v = true → p v = true) : ((List.range m).filter q).length < ((List.range m).filter p).length := by
  have h1 : ((List.range m).filter q ++ [u]).length ≤ ((List.range m).filter p).length := by
    refine nodup_subL ?_ fun x hx => ?_
    · rw [List.nodup_append]
      refine ⟨List.nodup_range.filter _, by simp, fun a ha b hb e => ?_⟩
      simp at hb
      subst hb
      subst e
      have := (List.mem_filter.1 ha).2
      rw [hq] at this; cases this
    · rcases List.mem_append.1 hx with hx | hx
      · obtain ⟨a, b⟩ := List.mem_filter.1 hx
        exact List.mem_filter.2 ⟨a, h x (List.mem_range.1 a) b⟩
      · obtain rfl := List.mem_singleton.1 hx
        exact List.mem_filter.2 ⟨List.mem_range.2 hu, hp⟩
  rw [List.length_append, List.length_singleton] at h1
  omega
theorem asks_lt {g g' : AdvS} (h4 : g.st ≠ 4) (h4' : g'.st ≠ 4) {u : Nat} (hu : u < 7) (hp : askedA g u = true) (hq : askedA g' u = false) (h : ∀ v, v < 7 → askedA g' v = true → askedA g v = true) : (asksL g').length < (asksL g).length := by
  unfold asksL
  rw [if_neg h4, if_neg h4', List.length_map, List.length_map]
  exact filt_lt hu hp hq h
theorem asks_le {g : AdvS} {n : Nat} (h4 : g.st ≠ 4) (h : ∀ u, u < 7 → askedA g u = true → u < n) : (asksL g).length ≤ n := by
  unfold asksL
  rw [if_neg h4, List.length_map]
  have := nodup_subL (l := (List.range 7).filter (askedA g)) (m := List.range n) (List.nodup_range.filter _) fun x hx => by
    obtain ⟨a, b⟩ := List.mem_filter.1 hx
    exact List.mem_range.2 (h x (List.mem_range.1 a) b)
  simpa using this
def phA (g : AdvS) : Int := match g.prop with
  | some s => s.phase
  | none => 0
def rankA (n : Nat) (g : AdvS) : Nat :=
  if g.st = 1 then (asksL g).length + 3 * n + 1
  else if g.st = 2 then (if phA g = 1 then (asksL g).length + 2 * n + 1 else (asksL g).length + n + 1)
  else if g.st = 3 then (asksL g).length + 1
  else if g.st = 4 then 1 else 0
theorem rank1 {n : Nat} {g : AdvS} (h : g.st = 1) : rankA n g = (asksL g).length + 3 * n + 1 := by unfold rankA; rw [if_pos h]
theorem rank21 {n : Nat} {g : AdvS} (h : g.st = 2) (hp : phA g = 1) : rankA n g = (asksL g).length + 2 * n + 1 := by unfold rankA; rw [if_neg (by omega), if_pos h, if_pos hp]
theorem rank22 {n : Nat} {g : AdvS} (h : g.st = 2) (hp : phA g ≠ 1) : rankA n g = (asksL g).length + n + 1 := by unfold rankA; rw [if_neg (by omega), if_pos h, if_neg hp]
theorem rank3 {n : Nat} {g : AdvS} (h : g.st = 3) : rankA n g = (asksL g).length + 1 := by unfold rankA; rw [if_neg (by omega), if_neg (by omega), if_pos h]
theorem rank4 {n : Nat} {g : AdvS} (h : g.st = 4) : rankA n g = 1 := by unfold rankA; rw [if_neg (by omega), if_neg (by omega), if_neg (by omega), if_pos h]
theorem rank5 {n : Nat} {g : AdvS} (h : 5 ≤ g.st) : rankA n g = 0 := by unfold rankA; rw [if_neg (by omega), if_neg (by omega), if_neg (by omega), if_neg (by omega)]
theorem takeB_acc (s : BSt) (f : Int) (x : BA) : (takeB s f x).1.acc = s.acc := by
  unfold takeB
  by_cases h : x.ok = true
  · simp only [if_pos h]
  · simp only [if_neg h]
    split <;> rfl
theorem OneI.sv {S : List UInt8 → Prop} {n : Nat} {p : PlP} {k : Nat} {w : NS} {gs : List AdvS} {ch : Option PlP} (h : OneI S n p k w gs ch) {i : Nat} {g : AdvS} (hg : gs[i]? = some g) (h2 : g.st = 2) : ∃ s, g.prop = some s ∧ S s.val := by
  obtain ⟨bs, V, px, pv, ha, hc⟩ := h
  obtain ⟨j, s, a, b, c, d⟩ := (ha i g hg).s2 h2
  exact ⟨s, a, pv.g s (List.mem_of_getElem? b)⟩
structure EnA (T : Int) (w : NS) (g : AdvS) : Prop where
  r1 : g.st = 1 → ∀ (u : Nat) (x : UR), g.rep u = true → w.l[u]? = some x → x.s.epoch = 1
  r2 : 2 ≤ g.st → ∀ x ∈ w.l, x.s.epoch = 1
  t0 : 0 ≤ g.tail ∧ g.tail ≤ 64
  t3 : g.st = 3 → ∀ u : Nat, u < 7 → g.rep u = true → T ≤ g.tail
  t4 : 4 ≤ g.st → T ≤ g.tail
  n6 : g.st ≠ 6
  s5 : g.st = 5 → w.e = 1 ∧ T ≤ w.n
theorem rep_now {g : AdvS} {m r : MS} (hm : m ∈ asksL g) (h : RepOf m r) : r.rep = true ∧ nowB g r = true := by
  refine ⟨h.rep, List.any_eq_true.2 ⟨m, hm, ?_⟩⟩
  unfold nowP
  rw [decide_eq_true h.fr.symm, decide_eq_true h.kind.symm, decide_eq_true h.ep.symm, decide_eq_true h.at'.symm]; rfl
theorem ep_set {l : List UR} {u : Nat} {y : UR} (h : ∀ x ∈ l, x.s.epoch = 1) (hy : y.s.epoch = 1) : ∀ x ∈ l.set u y, x.s.epoch = 1 := set_mem h hy
set_option maxHeartbeats 1000000 in
theorem EnA.step {n : Nat} {p : PlP} {k K : Nat} {T : Int} {w : NS} {gs : List AdvS} {i : Nat} {g g' : AdvS} (h : EnI n p k K T w gs i g) (ha : EnA T w g) (hp : PlN n p) (hK : K < 900) (hi : i < 1000) (hk : k ≤ 99999) {m : MS} (hm : m ∈ asksL g) (ht : tolR g (askN w m).2.1 g') :
    (askN w m).1 = true ∧ EnA T (askN w m).2.2 g' ∧ rankA n g' < rankA n g := by
  have hn := hp.nn
  have hA := h.one.ai h.hg
  have hrg := hA.rg
  obtain ⟨o1, o2, o3, o4, o5, o6⟩ := h.one.av h.hg
  have hlen := h.one.len
  have hpos : 0 < (asksL g).length := List.length_pos_of_mem hm
  by_cases h4 : g.st = 4
  · have hm' : m = startA g := by
      unfold asksL at hm
      rw [if_pos h4] at hm
      exact List.mem_singleton.1 hm
    have ea : askN w m = (true, sqAns w.e w.n m, { w with e := (startT w.e w.n m.ep m.at').2.1, n := (startT w.e w.n m.ep m.at').2.2 }) := by
      unfold askN; rw [if_pos (by rw [hm']; rfl)]
    have hep : m.ep = 1 := by rw [hm']; show g.old.ep + 1 = 1; rw [o1, hp.e]; rfl
    have hat : m.at' = g.tail := by rw [hm']; rfl
    have hst : (startT w.e w.n m.ep m.at').1 = 0 ∧ (startT w.e w.n m.ep m.at').2.1 = 1 ∧ g.tail ≤ (startT w.e w.n m.ep m.at').2.2 := by
      rw [hep, hat]
      have := ha.t0
      have he := h.e
      unfold startT
      rw [if_neg (by omega), if_neg (by omega)]
      split
      · exact ⟨rfl, rfl, Int.le_refl _⟩
      · refine ⟨rfl, by show w.e = 1; omega, by show g.tail ≤ max w.n g.tail; omega⟩
    rw [ea] at ht ⊢
    have hrep : RepOf m (sqAns w.e w.n m) := ⟨rfl, rfl, rfl, rfl, rfl⟩
    have herr : (sqAns w.e w.n m).err = 0 := hst.1
    unfold tolR at ht
    rw [if_pos (rep_now hm hrep)] at ht
    obtain rfl := ht.2.2.2.1 h4
    have h5 : (if (sqAns w.e w.n m).err = 0 ∨ (sqAns w.e w.n m).err = 8 then (5 : Int) else 6) = 5 := if_pos (.inl herr)
    refine ⟨rfl, ?_, ?_⟩
    · dsimp only
      rw [h5]
      have hT := ha.t4 (by omega)
      exact ⟨fun h => absurd (show (5 : Int) = 1 from h) (by decide), fun _ => ha.r2 (by omega), ha.t0, fun h => absurd (show (5 : Int) = 3 from h) (by decide), fun _ => hT, show (5 : Int) ≠ 6 by decide, fun _ => ⟨hst.2.1, by show T ≤ (startT w.e w.n m.ep m.at').2.2; omega⟩⟩
    · dsimp only
      rw [h5]
      rw [rank5 (show (5 : Int) ≤ 5 by decide), rank4 h4]
      omega
  obtain ⟨u, x, hto, hun, hask, rfl, hAn⟩ := h.ans hp hK hi h4 hm
  have hxm := List.mem_of_getElem? hAn.hx
  have hlx := h.lv x hxm
  have hfr : (askN w (askA g u)).2.1.fr = u := by rw [hAn.rep.fr, hto]
  have hfn : (askN w (askA g u)).2.1.fr.toNat = u := by rw [hfr]; rfl
  have herr := hAn.err
  have hw' := hAn.w'
  unfold tolR at ht
  rw [if_pos (rep_now hm hAn.rep)] at ht
  obtain ⟨t1, t2, t3, _, _⟩ := ht
  refine ⟨hAn.ok, ?_⟩
  have hget : ∀ (v : Nat) (y : UR), (w.put u (x.aft (askA g u))).l[v]? = some y → (v = u ∧ y = x.aft (askA g u)) ∨ (v ≠ u ∧ w.l[v]? = some y) := fun v y hy => set_get hy
  have hcs : g.st = 1 ∨ g.st = 2 ∨ g.st = 3 ∨ g.st = 5 := by
    have := ha.n6
    omega
  rcases hcs with hs | hs | hs | hs
  · -- a seal
    obtain rfl := t1 hs
    have hk4 : (askA g u).kind = 4 := by unfold askA; rw [if_neg (by omega)]
    obtain ⟨_, hep1, _⟩ := hAn.ep.resolve_right fun hh => hh.1 hk4
    rw [hw', hfn, herr]
    unfold sealA
    generalize hg1 : ({ g with rep := put7 g.rep u true, there := put7 g.there u (decide ((0 : Int) = 0)) } : AdvS) = g1
    have e1 : g1.st = 1 ∧ g1.units = g.units ∧ g1.rep = put7 g.rep u true ∧ g1.tail = g.tail := by subst hg1; exact ⟨hs, rfl, rfl, rfl⟩
    obtain ⟨e1, e2, e3, e4⟩ := e1
    have hr1 : ∀ (v : Nat) (y : UR), g1.rep v = true → (w.put u (x.aft (askA g u))).l[v]? = some y → y.s.epoch = 1 := fun v y hv hy => by
      rcases hget v y hy with ⟨_, rfl⟩ | ⟨hne, hy⟩
      · exact hep1
      · rw [e3] at hv; unfold put7 at hv
        rw [if_neg hne] at hv
        exact ha.r1 hs v y hv hy
    split
    · rename_i hnil
      have hall := (asksL_nil (by omega)).1 hnil
      refine ⟨⟨fun h => absurd (show (2 : Int) = 1 from h) (by decide), fun _ y hy => ?_, by show 0 ≤ g1.tail ∧ g1.tail ≤ 64; rw [e4]; exact ha.t0, fun h => absurd (show (2 : Int) = 3 from h) (by decide), fun h => absurd (show (4 : Int) ≤ 2 from h) (by decide), show (2 : Int) ≠ 6 by decide, fun h => absurd (show (2 : Int) = 5 from h) (by decide)⟩, ?_⟩
      · obtain ⟨v, hv, rfl⟩ := List.mem_iff_getElem.1 hy
        have hvn : v < n := by
          have : (w.put u (x.aft (askA g u))).l.length = w.l.length := List.length_set ..
          omega
        refine hr1 v _ ?_ (List.getElem?_eq_getElem hv)
        have := hall v (by omega)
        rw [asked1 e1, decide_eq_true (by rw [e2, o2]; omega), Bool.true_and] at this
        simpa using this
      · have hle : (asksL (chooseA g1)).length ≤ n := asks_le (show (2 : Int) ≠ 4 by decide) fun v _ hv => by
          rw [asked2 (g := chooseA g1) rfl rfl] at hv
          obtain ⟨_, _, q⟩ := asked_hasB hv
          have : (startB g1.units 1 g1.who (ownA g1)).acc = max g1.units 1 := rfl
          rw [this, e2, o2] at q
          omega
        rw [rank21 (g := chooseA g1) rfl rfl, rank1 hs]
        omega
    · have hlt : (asksL g1).length < (asksL g).length := asks_lt (by omega) (by omega) (by omega : u < 7) hask (by rw [asked1 e1, e3]; unfold put7; rw [if_pos rfl]; simp) fun v _ hv => by
        rw [asked1 e1, e2, e3] at hv
        rw [asked1 hs]
        rw [Bool.and_eq_true] at hv ⊢
        refine ⟨hv.1, ?_⟩
        have := hv.2
        unfold put7 at this
        split at this
        · cases this
        · exact this
      refine ⟨⟨fun _ => hr1, fun h => by omega, by rw [e4]; exact ha.t0, fun h => by omega, fun h => by omega, by omega, fun h => by omega⟩, ?_⟩
      rw [rank1 e1, rank1 hs]; omega
  · -- a ballot
    obtain ⟨s, s', hps, hst, rfl⟩ := t2 hs
    obtain ⟨sp, hsp, hPI⟩ := hA.s2 hs
    rw [hps] at hsp; cases hsp
    obtain ⟨sv, hsv, hS⟩ := h.one.sv h.hg hs
    rw [hps] at hsv; cases hsv
    have hbk : (askA g u).kind = if s.phase = 2 then 7 else 6 := by unfold askA; rw [if_pos hs, hps]
    have hne4 : (askA g u).kind ≠ 4 := by rw [hbk]; split <;> decide
    obtain ⟨_, hep1⟩ := hAn.ep.resolve_left fun hh => hne4 hh.1
    have hr2 : ∀ y ∈ (w.put u (x.aft (askA g u))).l, y.s.epoch = 1 := ep_set (ha.r2 (by omega)) (by rw [hep1]; exact ha.r2 (by omega) x hxm)
    rw [hw']
    have haskB : askedB s u = true := by rw [asked2 hs hps] at hask; exact hask
    have hrk : (askN w (askA g u)).2.1.kind = if s.phase = 2 then 7 else 6 := by rw [hAn.rep.kind, hbk]
    have hfl : (asksL g).length ≤ n := asks_le h4 fun v h7 hv => h.to_lt hp h7 hv
    -- where it goes on waiting
    have wait : ∀ y : BA, s' = (takeB s (u : Int) y).1 → y.ok = true → EnA T (w.put u (x.aft (askA g u))) { g with prop := some s' } ∧ rankA n { g with prop := some s' } < rankA n g := fun y e hy => by
      have hph' : s'.phase = s.phase := by rw [e]; exact takeB_yes hy
      have hacc : s'.acc = s.acc := by rw [e, takeB_acc]
      have hans : s'.ans = s.ans ++ [((u : Int), y)] := by rw [e]; exact (takeB_ans s _ y).1
      refine ⟨⟨fun h => absurd hs (by rw [show g.st = 1 from h]; decide), fun _ => hr2, ha.t0, fun h => absurd hs (by rw [show g.st = 3 from h]; decide), fun h => absurd hs (by have : 4 ≤ g.st := h; omega), ha.n6, fun h => absurd hs (by rw [show g.st = 5 from h]; decide)⟩, ?_⟩
      have hlt : (asksL { g with prop := some s' }).length < (asksL g).length := asks_lt h4 h4 (by omega : u < 7) hask (by
          rw [asked2 (g := { g with prop := some s' }) hs rfl]
          unfold askedB hasB
          rw [hans, decide_eq_true (show ((u : Int)) ∈ (s.ans ++ [((u : Int), y)]).map (·.1) by simp)]; simp) fun v _ hv => by
        rw [asked2 (g := { g with prop := some s' }) hs rfl] at hv
        rw [asked2 hs hps]
        unfold askedB hasB at hv ⊢
        rw [hph', hacc, hans] at hv
        rw [Bool.and_eq_true] at hv ⊢
        refine ⟨hv.1, ?_⟩
        have := hv.2
        simp only [List.map_append, List.mem_append, Bool.not_eq_true', decide_eq_false_iff_not, not_or] at this ⊢
        exact this.1
      have e2 : phA { g with prop := some s' } = s.phase := hph'
      have e3 : phA g = s.phase := by unfold phA; rw [hps]
      by_cases hp1 : s.phase = 1
      · rw [rank21 (g := { g with prop := some s' }) hs (e2.trans hp1), rank21 hs (e3.trans hp1)]; omega
      · rw [rank22 (g := { g with prop := some s' }) hs (by rw [e2]; exact hp1), rank22 hs (by rw [e3]; exact hp1)]; omega
    by_cases hph : s.phase = 2
    · unfold stepB at hst
      rw [if_neg (by rw [hrk, if_pos hph]; decide), hfr, herr] at hst
      unfold accB at hst
      rw [if_pos ⟨hph, haskB⟩] at hst
      split at hst
      · have hph3 : s'.phase = 3 := by rw [hst]
        have hval : s'.val = s.val := by rw [hst]; exact takeB_val ..
        obtain ⟨q, hq, hqv⟩ := hS
        have hdec : decP s'.val = (q, 0) := by rw [hval, hqv]; exact decP_plS hq.1
        unfold outA
        rw [if_neg (by rw [hph3]; decide), if_pos hph3, hdec, if_neg (by rintro (h | h); exact h rfl; exact h (by show q.ep = g.old.ep + 1; rw [hq.2.1, o1]))]
        dsimp only
        refine ⟨⟨fun h => absurd (show (3 : Int) = 1 from h) (by decide), fun _ => hr2, ha.t0, (fun _ _ _ h => by cases h), fun h => absurd (show (4 : Int) ≤ 3 from h) (by decide), show (3 : Int) ≠ 6 by decide, fun h => absurd (show (3 : Int) = 5 from h) (by decide)⟩, ?_⟩
        have hle : (asksL ({ g with prop := some s', plan := q, st := 3, rep := fun _ => false } : AdvS)).length ≤ n := asks_le (show (3 : Int) ≠ 4 by decide) fun v _ hv => by
          rw [asked3 (g := { g with prop := some s', plan := q, st := 3, rep := fun _ => false }) rfl, Bool.and_eq_true] at hv
          obtain ⟨c, hc, hcm⟩ := List.any_eq_true.1 hv.2
          obtain ⟨j, hj, rfl⟩ := List.mem_iff_getElem.1 hc
          obtain ⟨d, hd, hsub⟩ := hq.2.2.2 j _ (List.getElem?_eq_getElem hj)
          have := hp.c d (List.mem_of_getElem? hd) v (hsub _ (of_decide_eq_true hcm))
          omega
        rw [rank3 (g := { g with prop := some s', plan := q, st := 3, rep := fun _ => false }) rfl, rank22 hs (by unfold phA; rw [hps]; dsimp only; omega)]
        omega
      · have hph' : s'.phase = 2 := by rw [hst, takeB_yes (by decide), hph]
        have := wait _ hst (by decide)
        unfold outA
        rw [if_neg (by rw [hph']; decide), if_neg (by rw [hph']; decide)]
        exact this
    · have hph1 : s.phase = 1 := hPI.ph.resolve_right hph
      unfold stepB at hst
      rw [if_pos (by rw [hrk, if_neg hph]), hfr, herr] at hst
      unfold PromB at hst
      rw [if_pos ⟨hph1, haskB⟩] at hst
      have hok : (promA (askN w (askA g u)).2.1.br (askN w (askA g u)).2.1.bw (askN w (askA g u)).2.1.val 0).ok = true := by unfold promA; rw [if_pos rfl]
      split at hst
      · obtain ⟨val, _, hst⟩ := hst
        have hph' : s'.phase = 2 := by rw [hst]
        have hacc : s'.acc = n := by
          rw [hst, ← o2, ← hPI.acc]
          exact takeB_acc ..
        unfold outA
        rw [if_neg (by rw [hph']; decide), if_neg (by rw [hph']; decide)]
        refine ⟨⟨fun h => absurd hs (by rw [show g.st = 1 from h]; decide), fun _ => hr2, ha.t0, fun h => absurd hs (by rw [show g.st = 3 from h]; decide), fun h => absurd hs (by have : 4 ≤ g.st := h; omega), ha.n6, fun h => absurd hs (by rw [show g.st = 5 from h]; decide)⟩, ?_⟩
        have hle : (asksL { g with prop := some s' }).length ≤ n := asks_le h4 fun v _ hv => by
          rw [asked2 (g := { g with prop := some s' }) hs rfl] at hv
          obtain ⟨_, _, q⟩ := asked_hasB hv
          omega
        rw [rank22 (g := { g with prop := some s' }) hs (show ¬ s'.phase = 1 by omega), rank21 hs (by unfold phA; rw [hps]; exact hph1)]
        omega
      · have hph' : s'.phase = 1 := by rw [hst, takeB_yes hok, hph1]
        have := wait _ hst hok
        unfold outA
        rw [if_neg (by rw [hph']; decide), if_neg (by rw [hph']; decide)]
        exact this
  · -- the plan is told
    obtain rfl := t3 hs
    have hk4 : (askA g u).kind = 4 := by unfold askA; rw [if_neg (by omega)]
    obtain ⟨_, hep1, htl, hlow⟩ := hAn.ep.resolve_right fun hh => hh.1 hk4
    have hr2 : ∀ y ∈ (w.put u (x.aft (askA g u))).l, y.s.epoch = 1 := ep_set (ha.r2 (by omega)) hep1
    rw [hw', hfn]
    unfold tellA
    rw [if_pos herr, htl, hlow]
    have hT := hlx.tl
    have h0 := ha.t0
    generalize hg1 : ({ g with tail := max (max g.tail (max x.s.top x.s.low)) x.s.low, rep := put7 g.rep u true } : AdvS) = g1
    have e1 : g1.st = 3 ∧ g1.plan = g.plan ∧ g1.rep = put7 g.rep u true ∧ g1.tail = max (max g.tail (max x.s.top x.s.low)) x.s.low := by subst hg1; exact ⟨hs, rfl, rfl, rfl⟩
    obtain ⟨e1, e2, e3, e4⟩ := e1
    have ht0 : 0 ≤ g1.tail ∧ g1.tail ≤ 64 ∧ T ≤ g1.tail := by rw [e4]; omega
    split
    · rename_i hnil
      have e : ({ g with tail := max (max g.tail (max x.s.top x.s.low)) x.s.low, rep := put7 g.rep u true, st := 4 } : AdvS) = { g1 with st := 4 } := by subst hg1; rfl
      rw [e]
      refine ⟨⟨fun h => absurd (show (4 : Int) = 1 from h) (by decide), fun _ => hr2, ⟨ht0.1, ht0.2.1⟩, fun h => absurd (show (4 : Int) = 3 from h) (by decide), fun _ => ht0.2.2, show (4 : Int) ≠ 6 by decide, fun h => absurd (show (4 : Int) = 5 from h) (by decide)⟩, ?_⟩
      rw [rank4 (g := { g1 with st := 4 }) rfl, rank3 hs]
      omega
    · have hlt : (asksL g1).length < (asksL g).length := asks_lt (by omega) (by omega) (by omega : u < 7) hask (by rw [asked3 e1, e3]; unfold put7; rw [if_pos rfl]; rfl) fun v _ hv => by
        rw [asked3 e1, e2, e3, Bool.and_eq_true] at hv
        rw [asked3 hs, Bool.and_eq_true]
        refine ⟨?_, hv.2⟩
        have := hv.1
        unfold put7 at this
        split at this
        · cases this
        · exact this
      refine ⟨⟨fun h => by omega, fun _ => hr2, ⟨ht0.1, ht0.2.1⟩, fun _ _ _ _ => ht0.2.2, fun h => by omega, by omega, fun h => by omega⟩, ?_⟩
      rw [rank3 e1, rank3 hs]; omega
  · have := hA.asks.2 (.inl hs)
    rw [this] at hpos
    exact absurd hpos (by decide)
end Go.Proofs.YtbmajijnjkicmaaGreatDoor



namespace Go.Proofs.YtbmajijnjkicmaaGreatDoor
set_option linter.unusedSimpArgs false
set_option linter.unusedVariables false
open Go.Proofs.YtbmajijnjkicmaaGreatDoor RX
set_option maxRecDepth 100000


def p11 : PlP := ⟨0, [[0]]⟩
def q11 : PlP := ⟨1, [[0]]⟩
def spW : List UInt8 := plS q11
theorem first11 : firstS 1 1 = (p11, 0) := by decide
theorem right11 : rightB p11 = true ∧ rightB q11 = true := by decide
def Sp : Nat → AdvS → Prop
  | 0, g => g = ⟨p11, 1, 3, 1, fun _ => false, fun _ => false, [], none, ⟨0, []⟩, 0⟩
  | 1, g => g.st = 2 ∧ g.old = p11 ∧ g.prop = some (startB 1 1 3 spW) ∧ g.tail = 0
  | 2, g => g.st = 2 ∧ g.old = p11 ∧ g.prop = some ⟨1, 1, 3, spW, 2, [], 0⟩ ∧ g.tail = 0
  | 3, g => g.st = 3 ∧ g.old = p11 ∧ g.plan = q11 ∧ g.rep = (fun _ => false) ∧ g.tail = 0
  | 4, g => g.st = 4 ∧ g.old = p11 ∧ g.plan = q11 ∧ g.tail = 4
  | _, g => g.st = 5 ∧ g.plan = q11 ∧ g.tail = 4
def spM (g : AdvS) : Nat → MS
  | 0 => askA g 0 | 1 => askA g 0 | 2 => askA g 0 | 3 => askA g 0 | _ => startA g
def spK : Nat → Int
  | 0 => 4 | 1 => 6 | 2 => 7 | 3 => 4 | _ => 9
theorem filt0 {p : Nat → Bool} (h0 : p 0 = true) (h : ∀ u, 0 < u → u < 7 → p u = false) : (List.range 7).filter p = [0] := by
  have e : List.range 7 = [0, 1, 2, 3, 4, 5, 6] := by decide
  rw [e]
  simp [List.filter, h0, h 1, h 2, h 3, h 4, h 5, h 6]
theorem planned11 (u : Nat) : plannedA q11 u = decide (u = 0) := by
  unfold plannedA q11
  simp only [List.any_cons, List.any_nil, Bool.or_false, List.mem_singleton]
  by_cases h : u = 0
  · subst h; rfl
  · rw [decide_eq_false h, decide_eq_false (by omega)]
theorem Sp.asks {k : Nat} {g : AdvS} (h : Sp k g) : (k < 5 → asksL g = [spM g k] ∧ (spM g k).kind = spK k) ∧ (5 ≤ k → asksL g = []) := by
  have one : g.st ≠ 4 → askedA g 0 = true → (∀ u, 0 < u → u < 7 → askedA g u = false) → asksL g = [askA g 0] := fun h4 h0 h1 => by
    unfold asksL; rw [if_neg h4, filt0 h0 h1]; rfl
  match k, h with
  | 0, h =>
    subst h
    refine ⟨fun _ => ⟨one (by decide) ?_ fun u h0 h7 => ?_, ?_⟩, by omega⟩
    · rw [asked1 rfl]; rfl
    · rw [asked1 rfl, decide_eq_false (show ¬ ((u : Int) < 1) by omega)]; rfl
    · show (askA _ 0).kind = 4; unfold askA; rw [if_neg (by decide)]
  | 1, ⟨e1, e2, e3, _⟩ =>
    refine ⟨fun _ => ⟨one (by omega) ?_ fun u h0 h7 => ?_, ?_⟩, by omega⟩
    · rw [asked2 e1 e3]; rfl
    · rw [asked2 e1 e3]; unfold askedB
      rw [decide_eq_false (show ¬ (((startB 1 1 3 spW).phase = 1 ∨ (startB 1 1 3 spW).phase = 2) ∧ 0 ≤ (u : Int) ∧ (u : Int) < (startB 1 1 3 spW).acc) from fun h => by
        have : (startB 1 1 3 spW).acc = 1 := rfl
        omega)]; rfl
    · show (askA g 0).kind = 6
      unfold askA; rw [if_pos e1, e3]; rfl
  | 2, ⟨e1, e2, e3, _⟩ =>
    refine ⟨fun _ => ⟨one (by omega) ?_ fun u h0 h7 => ?_, ?_⟩, by omega⟩
    · rw [asked2 e1 e3]; rfl
    · rw [asked2 e1 e3]; unfold askedB
      rw [decide_eq_false (fun h => by have := h.2.2; dsimp only at this; omega)]; rfl
    · show (askA g 0).kind = 7
      unfold askA; rw [if_pos e1, e3]; rfl
  | 3, ⟨e1, e2, e3, e4, _⟩ =>
    refine ⟨fun _ => ⟨one (by omega) ?_ fun u h0 h7 => ?_, ?_⟩, by omega⟩
    · rw [asked3 e1, e3, e4, planned11]; rfl
    · rw [asked3 e1, e3, e4, planned11, decide_eq_false (by omega)]; rfl
    · show (askA g 0).kind = 4
      unfold askA; rw [if_neg (by omega)]
  | 4, ⟨e1, e2, e3, _⟩ => exact ⟨fun _ => ⟨by unfold asksL; rw [if_pos e1]; rfl, rfl⟩, by omega⟩
  | k + 5, ⟨e1, _⟩ => exact ⟨by omega, fun _ => (asksL_nil (by omega)).2 fun u _ => asked0 (by omega) (by omega) (by omega) u⟩
def spR (x : MS) : MS := ⟨x.to, 0, 0, true, x.kind, x.ep, x.at', zC, 0, 0, [], 0, 4, 0, 0⟩
theorem tol_now {g : AdvS} {x : MS} (h : asksL g = [x]) : nowB g (spR x) = true := by
  unfold nowB; rw [h]
  simp [nowP, spR]
theorem Sp.step {k : Nat} {g g' : AdvS} (h : Sp k g) (hk : k < 5) (ht : tolR g (spR (spM g k)) g') : Sp (k + 1) g' := by
  have hn := tol_now (h.asks.1 hk).1
  unfold tolR at ht
  rw [if_pos ⟨rfl, hn⟩] at ht
  obtain ⟨t1, t2, t3, t4, _⟩ := ht
  match k, h, hk with
  | 0, h, _ =>
    subst h
    obtain rfl := t1 rfl
    have hto : (spR (spM ⟨p11, 1, 3, 1, fun _ => false, fun _ => false, [], none, ⟨0, []⟩, 0⟩ 0)).fr.toNat = 0 := rfl
    have her : (spR (spM ⟨p11, 1, 3, 1, fun _ => false, fun _ => false, [], none, ⟨0, []⟩, 0⟩ 0)).err = 0 := rfl
    rw [hto, her]
    unfold sealA
    rw [if_pos ((asksL_nil (by decide)).2 fun u hu => ?_)]
    · refine ⟨rfl, rfl, ?_, rfl⟩
      have hth : thereL ({ (⟨p11, 1, 3, 1, fun _ => false, fun _ => false, [], none, ⟨0, []⟩, 0⟩ : AdvS) with rep := put7 (fun _ => false) 0 true, there := put7 (fun _ => false) 0 (decide ((0 : Int) = 0)) }) = [0] := by
        unfold thereL
        rw [filt0 (by rfl) (fun u h0 _ => by show put7 (fun _ => false) 0 _ u = false; unfold put7; rw [if_neg (by omega)])]
        rfl
      have hnx : nextP p11 [0] = (q11, 0) := by decide
      have how : ownA ({ (⟨p11, 1, 3, 1, fun _ => false, fun _ => false, [], none, ⟨0, []⟩, 0⟩ : AdvS) with rep := put7 (fun _ => false) 0 true, there := put7 (fun _ => false) 0 (decide ((0 : Int) = 0)) }) = spW := by
        unfold ownA
        rw [hth, show nextP _ [0] = (q11, 0) from hnx, if_pos rfl]; rfl
      show some (startB 1 1 3 (ownA _)) = _
      rw [how]
    · rw [asked1 rfl]
      show (decide ((u : Int) < 1) && !put7 (fun _ => false) 0 true u) = false
      unfold put7
      by_cases h0 : u = 0
      · subst h0; rfl
      · rw [decide_eq_false (by omega)]; rfl
  | 1, ⟨e1, e2, e3, e4⟩, _ =>
    obtain ⟨s, s', hp, hst, rfl⟩ := t2 e1
    rw [e3] at hp; cases hp
    have hfr : (spR (spM g 1)).fr = 0 := by show (askA g 0).to = 0; rw [askA_to]; rfl
    have hkd : (spR (spM g 1)).kind = 6 := by show (askA g 0).kind = 6; unfold askA; rw [if_pos e1, e3]; rfl
    unfold stepB at hst
    rw [if_pos hkd, hfr] at hst
    unfold PromB at hst
    rw [if_pos ⟨rfl, by rfl⟩, if_pos (by rfl)] at hst
    obtain ⟨val, hch, rfl⟩ := hst
    have hv : val = spW := by
      rcases hch with ⟨_, rfl⟩ | ⟨k, x, hx, hc, _⟩
      · rfl
      · exfalso
        simp only [takeB, promA, spR, startB] at hx
        simp [ansF] at hx
        obtain ⟨_, rfl⟩ := hx
        exact hc.2 ⟨rfl, rfl⟩
    subst hv
    exact ⟨e1, e2, rfl, e4⟩
  | 2, ⟨e1, e2, e3, e4⟩, _ =>
    obtain ⟨s, s', hp, hst, rfl⟩ := t2 e1
    rw [e3] at hp; cases hp
    have hfr : (spR (spM g 2)).fr = 0 := by show (askA g 0).to = 0; rw [askA_to]; rfl
    have hkd : (spR (spM g 2)).kind = 7 := by show (askA g 0).kind = 7; unfold askA; rw [if_pos e1, e3]; rfl
    unfold stepB at hst
    rw [if_neg (by rw [hkd]; decide), hfr] at hst
    have hs3 : s' = ⟨1, 1, 3, spW, 3, [(0, ⟨true, 0, 0, []⟩)], 1⟩ := by rw [hst]; rfl
    have hdec : decP spW = (q11, 0) := decP_plS right11.2
    subst hs3
    unfold outA
    rw [if_neg (by decide), if_pos rfl]
    rw [show (⟨1, 1, 3, spW, 3, [(0, ⟨true, 0, 0, []⟩)], 1⟩ : BSt).val = spW from rfl, hdec, if_neg (by rw [e2]; decide)]
    exact ⟨rfl, e2, rfl, rfl, e4⟩
  | 3, ⟨e1, e2, e3, e4, e5⟩, _ =>
    obtain rfl := t3 e1
    have hto : (spR (spM g 3)).fr.toNat = 0 := by show (askA g 0).to.toNat = 0; rw [askA_to]; rfl
    have herr : (spR (spM g 3)).err = 0 := rfl
    rw [hto]
    unfold tellA
    rw [if_pos herr]
    rw [if_pos ((asksL_nil (by show g.st ≠ 4; omega)).2 fun u hu => ?_)]
    · exact ⟨rfl, e2, e3, by show max (max g.tail 4) 0 = 4; rw [e5]; rfl⟩
    · rw [asked3 (by exact e1)]
      show (!put7 g.rep 0 true u && plannedA g.plan u) = false
      rw [e3, planned11]
      unfold put7
      by_cases h0 : u = 0
      · subst h0; rfl
      · rw [decide_eq_false h0, Bool.and_false]
  | 4, ⟨e1, e2, e3, e4⟩, _ =>
    obtain rfl := t4 e1
    exact ⟨rfl, e3, e4⟩
def spL (k : Nat) : List Int := (List.range k).map spK
set_option maxHeartbeats 2000000 in
theorem speaks18_ok : Tri Tryz.prog 6 #[] HP.tt (fun v => HP.and (v = .bool true) HP.tt) := by
  refine tri_of_tree (ρ := []) mixed Tryz.func6 tree_speaks18 ?_
  unfold t_speaks18
  simp only [T.den, E.prop, E.den, RX.look, F1.app, F2.app, Uni.int_i, Uni.nat_n, Uni.bool_c, Uni.str_s, Uni.adr_a, Uni.val_v, Uni.hp_p, hden, cden, V.den, W.den, A.den, BR.den, SA.den, FV.den, capV, exs, exP, allP, Cur.app, List.map_cons, List.map_nil, List.cons_append, List.nil_append, List.drop_succ_cons, List.drop_zero, List.length_cons, List.length_nil, Nat.zero_add, Nat.reduceAdd, Int.neg_neg, Bool.not_not, List.append_nil, Nat.add_zero, List.getElem?_cons_zero, List.getElem?_cons_succ, Decidable.not_not, semW_eq, semW_load, semW_append, ne_eq, Nat.reduceEqDiff, not_false_eq_true]
  refine (first_ok 1 1).weak (fun _ _ h => h) ?_
  rw [first11]
  rintro v R h ⟨a, c, es, ⟨rfl, he, hb⟩, H⟩
  have hel : es.length = 1 := by
    have := congrArg List.length he
    rw [List.length_map] at this; exact this
  refine ⟨p11.ep, a, es.length, c, Ls kCh a es.length es, 0, rfl, fun x => ?_, H⟩
  clear H
  refine (aBegin_ok (Ls kCh a es.length es) p11.ep a es.length c es 1 3 (fun _ _ h => h) (fun x hx => by have := hb x hx; omega) (by omega)).weak (fun _ _ h => h) ?_
  rw [show (⟨p11.ep, es.map (·.l)⟩ : PlP) = p11 by rw [he]]
  rintro v R h ⟨b, rfl, H⟩
  have hg0 : Sp 0 (beginA p11 1 3) := by
    show _ = _
    unfold beginA
    rw [if_pos ⟨right11.1, by decide, by decide, by decide, by decide, by decide⟩]
  have hA0 := AI.begin p11 1 3
  generalize beginA p11 1 3 = g0 at *
  refine ⟨b, ARep b g0, rfl, fun y => ?_, H⟩
  clear H
  refine ⟨fun a n c P Q => ∃ g, Sp 5 g ∧ P = ARep b g ∧ n = 5 ∧ Q = OwI a 5 c (spL 5), ?_, ?_⟩
  · refine ⟨fun a n c Q P => ∃ (k : Nat) (g : AdvS), k ≤ 5 ∧ Sp k g ∧ AI k g ∧ P = ARep b g ∧ n = k ∧ HP.ent Q (OwI a k c (spL k)) ∧ (0 < k → Q = OwI a k c (spL k)), fun _ n _ _ _ => 9 - n,
      ⟨0, g0, by omega, hg0, hA0, rfl, rfl, .of fun R h H => ⟨rfl, .inr ⟨y, #[], rfl, H, Nat.le_refl _, by unfold maxLen; omega, rfl, rfl⟩⟩, fun h => absurd h (by decide)⟩, ?_⟩
    rintro a k c Q _ ⟨_, g, hk, hS, hA, rfl, rfl, hQ, hQ2⟩
    refine ⟨fun _ => ?_, fun hge => by omega⟩
    refine (eAsks_ok b g hA.safe.s).weak (fun _ _ h => h) ?_
    rintro v R h ⟨a1, c1, es1, ⟨rfl, he1⟩, H⟩
    have hsm : es1.length ≠ 0 → a1.isSome = true := fun hn => RoC.some (HP.sep_left H).2.1 (by omega)
    have hl1 : es1.length = (asksL g).length := by rw [← he1, List.length_map]
    refine ⟨a1, es1.length, c1, Ls kMs a1 es1.length es1, rfl, ⟨fun q => q = !decide ((es1.length : Int) = 1), ⟨fun h => absurd rfl h, fun _ => rfl⟩, ?_⟩, H⟩
    clear H
    rintro _ rfl
    refine ⟨fun hq => ?_, fun hq => ?_⟩
    · have hk5 : k = 5 := Classical.byContradiction fun hn => by
        have := (hS.asks.1 (by omega)).1
        rw [this] at hl1
        rw [hl1] at hq
        simp at hq
      subst hk5
      exact ⟨g, hS, rfl, rfl, hQ2 (by decide)⟩
    · have hk5 : k < 5 := Classical.byContradiction fun hn => by
        have := hS.asks.2 (by omega)
        rw [this] at hl1
        rw [hl1] at hq
        simp at hq
      obtain ⟨ha, hkind⟩ := hS.asks.1 hk5
      rw [ha] at he1
      obtain ⟨e, rfl⟩ : ∃ e, es1 = [e] := List.length_eq_one_iff.1 (by rw [hl1, ha]; rfl)
      have hem : e.m = spM g k := by simpa using he1
      have hsl : spL (k + 1) = spL k ++ [e.m.kind] := by
        unfold spL
        rw [List.range_succ, List.map_append, hem, hkind]; rfl
      have hS1 : ∀ R h, (Ls kMs a1 [e].length [e]).p R h → (Ls kMs a1 1 [e]).p R h := fun _ _ h => h
      refine ⟨by simp, fun _ => ⟨hsm (by simp), fun _ => ⟨e.m.kind, ldMs1 hS1 (k := 0) rfl rfl rfl, fun z => ?_⟩⟩⟩
      refine (appendI a k c (spL k) (HP.one z (.cells #[.int .i64 e.m.kind] 3 (0, 0))) ⟨z, 0, none⟩ 1 1 [e.m.kind] (one_rd z #[.int .i64 e.m.kind] 3) rfl (by omega)).conseq (K := HP.tt) ((hQ.sep _).trans (.of fun R h H => HP.sep_tt H)) fun v => .of fun R h H => ?_
      obtain ⟨a', c', rfl, H'⟩ := HP.sep_left H
      refine ⟨a', k + 1, c', _, rfl, ⟨e.m.to, ldMs1 hS1 (k := 0) rfl rfl rfl, e.m.kind, ldMs1 hS1 (k := 0) rfl rfl rfl, e.m.ep, ldMs1 hS1 (k := 0) rfl rfl rfl, e.m.at', ldMs1 hS1 (k := 0) rfl rfl rfl, ?_⟩, H'⟩
      refine (eTold_ok b g (spR e.m) none 0 none 0 hA.safe (by simp [spR]) HP.tt).weak (fun R h H => HP.sep_mono (HP.sep_tt H) (fun _ h => h) fun y _ => HP.tt_sep (RoB0 none)) ?_
      rintro v R h ⟨g', ⟨rfl, ht⟩, H⟩
      have hA' := (hA.told (by omega) (by simp [spR]) ht).1
      rw [hem] at ht
      refine ⟨ARep b g', rfl, ⟨⟨k + 1, g', by omega, hS.step hk5 ht, hA', rfl, rfl, ?_, fun _ => ?_⟩, by dsimp only; omega⟩, H⟩
      · rw [hsl]; exact .refl _
      · rw [hsl]
  · rintro a _ c _ _ ⟨g, ⟨e1, e2, e3⟩, rfl, rfl, rfl⟩
    refine ⟨fun q => q = true, fun z => ?_, fun q hq => ?_⟩
    · refine (sameI_ok a 5 c (spL 5) (some ⟨z, 0, none⟩) 5 5 [4, 6, 7, 4, 9] (OwI a 5 c (spL 5)) (HP.one z (.cells #[.int .i64 4, .int .i64 6, .int .i64 7, .int .i64 4, .int .i64 9] 3 (0, 0))) (RdL.ow _ _ _ _ _ _) ⟨one_rd z #[.int .i64 4, .int .i64 6, .int .i64 7, .int .i64 4, .int .i64 9] 3, fun _ _ _ e => by cases e⟩ rfl rfl (by omega)).weak (fun _ _ h => h) ?_
      rintro v R h ⟨rfl, H⟩
      refine ⟨true, rfl, ?_, H⟩
      clear H
      refine ⟨fun _ => ?_, fun h => absurd rfl h⟩
      refine (eState_ok b g).weak (fun _ _ h => h) ?_
      rintro v R h ⟨rfl, H⟩
      refine ⟨g.st, rfl, ⟨fun _ => ?_, fun h => absurd e1 h⟩, H⟩
      clear H
      refine (eTail_ok b g).weak (fun _ _ h => h) ?_
      rintro v R h ⟨rfl, H⟩
      refine ⟨g.tail, rfl, ⟨fun _ => ?_, fun h => absurd e3 h⟩, H⟩
      clear H
      refine (ePlan_ok b g).weak (fun _ _ h => h) ?_
      rintro v R h ⟨a', c', es', ⟨rfl, _⟩, H⟩
      refine ⟨g.plan.ep, a', es'.length, c', _, rfl, ?_, H⟩
      show _ = true
      rw [e2]; rfl
    · subst hq
      exact .of fun R h H => ⟨rfl, trivial⟩
end Go.Proofs.YtbmajijnjkicmaaGreatDoor



namespace Go.Proofs.YtbmajijnjkicmaaGreatDoor
open Go.RowKit Go.ChangeShapes Go.WideShapes Go.Deep RX
set_option maxRecDepth 100000

structure ChI where
  l : List Int
  a : Option Addr
  c : Nat
instance : Inhabited ChI := ⟨⟨[], none, 0⟩⟩
end Go.Proofs.YtbmajijnjkicmaaGreatDoor



namespace Go.Proofs.YtbmajijnjkicmaaGreatDoor
open Go.RowKit Go.ChangeShapes Go.WideShapes Go.Deep RX
set_option maxRecDepth 100000
set_option linter.unusedVariables false
set_option linter.unusedSimpArgs false

structure PlanI where
  ep : Int
  ch : List ChI
  cha : Option Addr
  chc : Nat
instance : Inhabited PlanI := ⟨⟨0, [], none, 0⟩⟩
structure Step18 where
  push : Bool
  some_ : Bool
  at_ : Int
  r_fr : Int
  r_to : Int
  r_num : Int
  r_rep : Bool
  r_kind : Int
  r_ep : Int
  r_at_ : Int
  r_cell_what : Int
  r_cell_data : List UInt8
  r_cell_dataa : Option Addr
  r_cell_datac : Nat
  r_br_r : Int
  r_br_w : Int
  r_val : List UInt8
  r_vala : Option Addr
  r_valc : Nat
  r_err : Int
  r_tail : Int
  r_low : Int
  r_back : Int
instance : Inhabited Step18 := ⟨⟨false, false, 0, 0, 0, 0, false, 0, 0, 0, 0, [], none, 0, 0, 0, [], none, 0, 0, 0, 0, 0⟩⟩
structure Turn18 where
  who : Int
  at_ : Int
  comes : Bool
  push : Bool
abbrev Turn18.vals (x : Turn18) : List Value := [.int .i64 x.who, .int .i64 x.at_, .bool x.comes, .bool x.push]
def Turn18.hp (x : Turn18) : HP := HP.both (HP.pure (okI x.who)) (HP.pure (okI x.at_))
theorem Turn18.pers (x : Turn18) (R h h' : PH) (H : (x.hp).p R h) : (x.hp).p R h' := ⟨H.1, H.2⟩
instance : Inhabited Turn18 := ⟨⟨0, 0, false, false⟩⟩
def kTurn18 : Kind Turn18 := ⟨4, by decide, Turn18.vals, fun _ => rfl, Turn18.hp, Turn18.pers⟩
theorem Turn18.of_trod {H : Type} {enc : TypeId × Value → H} {w : World} {cs : List Value} {n : Nat} {x : DataW H × List MemPlace} (h : DataW.trod enc Tryz.prog w 0 (fun _ => true) true n 58 cs = some x) (hs : Small Tryz.prog 58 x.1) : ∃ m : Turn18, cs = kTurn18.vals m ∧ ∀ h, (kTurn18.hp m).p (allOf w) h := by
  obtain ⟨xs0, n0, _, hx0, hl0, hxl0, hf0⟩ := DataW.trod_struct Tryz.underlying58 h
  replace hxl0 : xs0.length = 4 := hxl0
  have hs0 : Small Tryz.prog 58 (.agg (xs0.map (·.1))) := by
    have e := hx0
    first | (subst e; exact hs) | (rw [e] at hs; exact hs) | (have e2 := congrArg Prod.fst e; rw [← e2]; exact hs) | (rw [← e]; exact hs)
  obtain ⟨c0, e0, w0⟩ := field_int Tryz.underlying3 (show 0 < xs0.length by omega) (by kernel_rfl) (hf0 0 _ rfl)
  obtain ⟨c1, e1, w1⟩ := field_int Tryz.underlying3 (show 1 < xs0.length by omega) (by kernel_rfl) (hf0 1 _ rfl)
  obtain ⟨c2, e2⟩ := field_bool Tryz.underlying4 (show 2 < xs0.length by omega) (by kernel_rfl) (hf0 2 _ rfl)
  obtain ⟨c3, e3⟩ := field_bool Tryz.underlying4 (show 3 < xs0.length by omega) (by kernel_rfl) (hf0 3 _ rfl)
  have hlen : cs.length = 4 := hl0.trans (by kernel_rfl)
  refine ⟨⟨c0, c1, c2, c3⟩, ?_, fun hh => ⟨int_wf w0, int_wf w1⟩⟩
  clear h hl0 hf0 
  revert e0 e1 e2 e3
  match cs, hlen with
  | [u0, u1, u2, u3], _ =>
    intro e0
    obtain rfl : u0 = .int _ c0 := Option.some.inj e0
    intro e1
    obtain rfl : u1 = .int _ c1 := Option.some.inj e1
    intro e2
    obtain rfl : u2 = .bool c2 := Option.some.inj e2
    intro e3
    obtain rfl : u3 = .bool c3 := Option.some.inj e3
    rfl
theorem Turn18.load {a : Option Addr} {n : Nat} {l : List Turn18} {k : Nat} {x : Turn18} (hk : l[k]? = some x) : ORead Tryz.prog (loadS 58 (.pointer (a.map fun y => (y.add ((k : Int).toNat * 4)).add 0))) (Ls kTurn18 a n l) (.agg x.vals.toArray) := by
  obtain ⟨d, hd⟩ : ∃ d, Tryz.prog.underlying 58 = some d := Option.isSome_iff_exists.1 (by kernel_rfl)
  exact Ls.load (K := kTurn18) hd (by kernel_rfl) (by kernel_rfl) hk

end Go.Proofs.YtbmajijnjkicmaaGreatDoor



namespace Go.Proofs.YtbmajijnjkicmaaGreatDoor
set_option linter.unusedSimpArgs false
set_option linter.unusedVariables false
open Go.Proofs.YtbmajijnjkicmaaGreatDoor RX
set_option maxRecDepth 100000

theorem modN18 (a : Int) (n : Nat) (hn : 0 < n) : ∃ E : Nat, (bits .and .i64 a 65535).tmod (n : Int) = (E : Int) ∧ E < n := by
  rw [andffff]
  have h1 := Int.emod_nonneg a (show (65536 : Int) ≠ 0 by decide)
  obtain ⟨q, hq⟩ := Int.eq_ofNat_of_zero_le h1
  rw [hq]
  refine ⟨q % n, ?_, Nat.mod_lt _ hn⟩
  rw [Int.tmod_eq_emod_of_nonneg (by omega)]; rfl


theorem eTold2 (b : Nat) (g : AdvS) (m : MS) (ca : Option Addr) (cc : Nat) (va : Option Addr) (vc : Nat) (hs : TSafe g) (hmv : m.val.length ≤ 100000000) (D : HP) :
    Tri Tryz.prog 13 #[.pointer (some ⟨b, 0, none⟩), .agg (m.raw ca cc va vc).vals] (HP.sep (ARep b g) (HP.sep D (m.Vro va))) (fun v => HP.ex fun g' => HP.and (v = .tuple #[] ∧ tolR g m g') (HP.sep (ARep b g') (HP.sep D (m.Vro va)))) :=
  (eTold_ok b g m ca cc va vc hs hmv HP.tt).conseq (K := HP.sep D (m.Vro va)) (.of fun R h H => by
    have hV : ∀ h', (m.Vro va).p R h' := fun _ => (HP.sep_right (HP.sep_right H) : (m.Vro va).p R h)
    exact HP.sep_mono H (fun y hy => HP.sep_mono (HP.sep_tt hy) (fun _ h => h) fun z _ => HP.tt_sep (hV z)) fun _ h => h) fun v => .of fun R h ⟨h1, h2, d, l1, l2, ⟨g', e, H1⟩, H2⟩ => ⟨g', e, h1, h2, d, l1, l2, H1, H2⟩
theorem ePush_ok (b : Nat) (g : AdvS) (hr : g.st = 1 → rightB g.old = true) (hu : g.units ≤ 10000) : Tri Tryz.prog 18 #[.pointer (some ⟨b, 0, none⟩)] (ARep b g) (fun v => HP.and (v = .tuple #[]) (ARep b (pushA g))) :=
  Tri.ex fun _ => aPush_ok hr hu

theorem first_right {n c : Nat} (hn : 1 ≤ n ∧ n ≤ 4) (hc : 1 ≤ c ∧ c ≤ 2) (hcn : c ≤ n) : rightB ⟨0, firstC n c⟩ = true := by
  have h1 : n = 1 ∨ n = 2 ∨ n = 3 ∨ n = 4 := by omega
  have h2 : c = 1 ∨ c = 2 := by omega
  rcases h1 with rfl | rfl | rfl | rfl <;> rcases h2 with rfl | rfl <;> first | omega | decide
theorem OneI.mono {S : List UInt8 → Prop} {n : Nat} {p : PlP} {k j : Nat} {w : NS} {gs : List AdvS} {ch : Option PlP} (h : OneI S n p k w gs ch) (hj : k ≤ j) : OneI S n p j w gs ch := by
  obtain ⟨bs, V, px, pv, ha, hc⟩ := h
  exact ⟨bs, V, px, pv, fun i g hg => (ha i g hg).more (fun _ h => h) hj, hc⟩
end Go.Proofs.YtbmajijnjkicmaaGreatDoor



namespace Go.Proofs.YtbmajijnjkicmaaGreatDoor
open Go.Proofs.YtbmajijnjkicmaaGreatDoor RX
set_option maxRecDepth 100000

structure WrU (j : Nat) (T : Int) (u : UR) : Prop where
  ep : u.s.epoch = 0
  low : u.s.low = 0
  top : 0 ≤ u.s.top ∧ u.s.top ≤ 64
  tl : T ≤ u.s.top
  ps : u.ps.length ≤ j
  inst : u.s.inst = fun _ => none
  cells : ∀ (a : Int) (c : CellS), u.s.cells a = some c → a + 1 ≤ u.s.top
def UR.wr (u : UR) (at' : Int) : UR := ⟨u.ub, u.bd, (writeS 900 u.s u.ps 0 at' ⟨2, []⟩).2.2.1, (writeS 900 u.s u.ps 0 at' ⟨2, []⟩).2.2.2⟩
theorem WrU.write {j : Nat} {T : Int} {u : UR} (h : WrU j T u) (hj : j < 900) {at' : Int} (ha : 0 ≤ at' ∧ at' ≤ 63) : WrU (j + 1) (max T (at' + 1)) (u.wr at') := by
  have h0 : reachE u.s 0 at' = 0 := by
    unfold reachE addrOk
    rw [if_pos h.ep.symm, if_pos (by rw [decide_eq_true ha.1, decide_eq_true (by omega)]; rfl)]
  have hps := h.ps
  have htop := h.top
  have htl := h.tl
  unfold UR.wr
  cases hc : u.s.cells at' with
  | some y =>
    have e : writeS 900 u.s u.ps 0 at' ⟨2, []⟩ = (y, 10, u.s, u.ps) := by
      unfold writeS
      rw [if_neg (by rw [h0]; decide), if_neg (by show ¬ standB 2 0 = false; decide), if_neg (by rw [h.low]; omega), hc]
    rw [e]
    have := h.cells at' y hc
    exact ⟨h.ep, h.low, h.top, by show max T (at' + 1) ≤ u.s.top; omega, by show u.ps.length ≤ j + 1; omega, h.inst, h.cells⟩
  | none =>
    have e : writeS 900 u.s u.ps 0 at' ⟨2, []⟩ = (zC, 0, putS u.s at' ⟨2, []⟩, u.ps ++ [⟨1, cellL at' ⟨2, []⟩⟩]) := by
      unfold writeS
      rw [if_neg (by rw [h0]; decide), if_neg (by show ¬ standB 2 0 = false; decide), if_neg (by rw [h.low]; omega), hc]
      show (zC, lastS 900 u.s u.ps _ _) = _
      unfold lastS
      rw [if_neg (by omega)]
    rw [e]
    refine ⟨h.ep, h.low, ?_, ?_, by simp; omega, h.inst, fun a c hac => ?_⟩
    · show 0 ≤ max u.s.top (at' + 1) ∧ max u.s.top (at' + 1) ≤ 64; omega
    · show max T (at' + 1) ≤ max u.s.top (at' + 1); omega
    · show a + 1 ≤ max u.s.top (at' + 1)
      have hac : fput u.s.cells at' (some ⟨2, []⟩) a = some c := hac
      unfold fput at hac
      split at hac
      · rename_i e; omega
      · have := h.cells a c hac; omega
theorem WrU.new {u : UR} (hs : u.s = s0) (hp : u.ps = []) : WrU 0 0 u := by
  refine ⟨by rw [hs]; rfl, by rw [hs]; rfl, by rw [hs]; decide, by rw [hs]; decide, by rw [hp]; exact Nat.le_refl 0, by rw [hs]; rfl, fun a c h => ?_⟩
  rw [hs] at h; cases h
theorem WrU.i1 {j : Nat} {T : Int} {u : UR} (h : WrU j T u) : u.i1 = ⟨0, 0, 0, 0, []⟩ := by
  show instAt u.s 1 = _
  unfold instAt; rw [h.inst]; rfl
theorem WrU.lv {j : Nat} {T : Int} {u : UR} (h : WrU j T u) {B : Int} (hB : 0 ≤ B) : LvU B j T u := by
  refine ⟨?_, h.ps, .inl h.ep, ?_⟩
  · rw [h.i1]; exact hB
  · have := h.top; have := h.tl; have := h.low
    omega
theorem OneI.newQ {S : List UInt8 → Prop} {n : Nat} {p : PlP} {w : NS} (q : Nat) (hq : q ≤ 1000) (hl : w.l.length = n) (hi0 : ∀ u ∈ w.l, u.i1 = ⟨0, 0, 0, 0, []⟩) (hr : rightB p = true) (hp0 : p.ep = 0) (hn : 1 ≤ n ∧ n ≤ 7) (hS : ∀ v, S v → v.length ≤ 1000) : OneI S n p 0 w ((List.range q).map fun (i : Nat) => beginA p n ((i : Int) + 1)) none := by
  have hi : ∀ x ∈ w.l.map UR.i1, x = ⟨0, 0, 0, 0, []⟩ := fun x hx => by
    obtain ⟨u, hu, rfl⟩ := List.mem_map.1 hx
    exact hi0 u hu
  refine ⟨[], [], PX.new (by rw [List.length_map, hl]) hi, PV.new hS hi, fun i g hg => ?_, fun q hq => by cases hq⟩
  rw [List.getElem?_map] at hg
  obtain ⟨j, hj, rfl⟩ := Option.map_eq_some_iff.1 hg
  obtain ⟨hj1, hj2⟩ := List.getElem?_eq_some_iff.1 hj
  rw [List.getElem_range] at hj2
  subst hj2
  rw [List.length_range] at hj1
  have e : beginA p n ((i : Int) + 1) = ⟨p, n, (i : Int) + 1, 1, fun _ => false, fun _ => false, [], none, ⟨0, []⟩, 0⟩ := by
    unfold beginA; rw [if_pos ⟨hr, by omega, by omega, by omega, by omega, by omega⟩]
  have hA := AI.begin p n ((i : Int) + 1)
  rw [e] at hA ⊢
  exact ⟨hA, rfl, rfl, rfl, fun h => absurd (show (1 : Int) = 2 from h) (by decide), fun _ x hx => (by cases hx), fun h => absurd (show (1 : Int) = 2 from h) (by decide), fun h => absurd (show (3 : Int) ≤ 1 from h) (by decide)⟩
theorem first_plN {n : Nat} (hn : 1 ≤ n ∧ n ≤ 4) : PlN n ⟨0, firstC n 1⟩ := by
  refine ⟨hn, first_right hn (by omega) hn.1, rfl, fun c hc x hx => ?_⟩
  unfold firstC at hc
  obtain ⟨i, _, rfl⟩ := List.mem_map.1 hc
  obtain ⟨u, hu, rfl⟩ := List.mem_map.1 hx
  have := List.mem_range.1 (List.mem_filter.1 hu).1
  omega
theorem begin_st {n : Nat} {p : PlP} (hp : PlN n p) {q : Int} (hq : 0 ≤ q ∧ q ≤ 1000) : beginA p n q = ⟨p, n, q, 1, fun _ => false, fun _ => false, [], none, ⟨0, []⟩, 0⟩ := by
  have := hp.nn
  unfold beginA; rw [if_pos ⟨hp.r, by rw [hp.e]; decide, by omega, by omega, by omega, by omega⟩]
theorem begin_alive {n : Nat} {p : PlP} (hp : PlN n p) {q : Int} (hq : 0 ≤ q ∧ q ≤ 1000) : Aliv (beginA p n q) := by
  rw [begin_st hp hq]
  exact ⟨(fun _ u _ h => by cases h), fun h => absurd (show (1 : Int) = 2 from h) (by decide)⟩
theorem begin_enA {n : Nat} {p : PlP} (hp : PlN n p) {q T : Int} (hq : 0 ≤ q ∧ q ≤ 1000) (w : NS) : EnA T w (beginA p n q) := by
  rw [begin_st hp hq]
  exact ⟨(fun _ u x h => by cases h), fun h => absurd (show (2 : Int) ≤ 1 from h) (by decide), (show (0 : Int) ≤ 0 ∧ (0 : Int) ≤ 64 by decide), fun h => absurd (show (1 : Int) = 3 from h) (by decide), fun h => absurd (show (4 : Int) ≤ 1 from h) (by decide), show (1 : Int) ≠ 6 by decide, fun h => absurd (show (1 : Int) = 5 from h) (by decide)⟩
theorem begin_rank {n : Nat} {p : PlP} (hp : PlN n p) {q : Int} (hq : 0 ≤ q ∧ q ≤ 1000) : rankA n (beginA p n q) ≤ 4 * n + 1 := by
  have h1 : (beginA p n q).st = 1 := by rw [begin_st hp hq]
  rw [rank1 h1]
  have : (asksL (beginA p n q)).length ≤ n := asks_le (by omega) fun u _ hu => by
    rw [asked1 h1, Bool.and_eq_true] at hu
    have := of_decide_eq_true hu.1
    rw [begin_st hp hq] at this
    exact Int.ofNat_lt.1 this
  omega
end Go.Proofs.YtbmajijnjkicmaaGreatDoor



namespace Go.Proofs.YtbmajijnjkicmaaGreatDoor
open Go.Proofs.YtbmajijnjkicmaaGreatDoor RX
set_option maxRecDepth 100000

section
variable {b : Nat} {w : NS} {r : NRw}
theorem put_back {k : Nat} {u : UR} (hk : w.l[k]? = some u) : w.put k u = w := by
  unfold NS.put; rw [set_back hk]
theorem nd_write {k : Nat} {u : UR} (hk : w.l[k]? = some u) (at' : Int) :
    Tri Tryz.prog 20 #[u.ptr, .int .i64 0, .int .i64 at', .agg #[.int .i64 2, .slice none 0 0]] (NodR b w r)
      (fun v => HP.ex fun x : CellS => HP.ex fun e : Int => HP.ex fun a' => HP.ex fun c' => HP.and (v = .tuple #[.agg #[.int .i64 x.what, .slice a' x.data.length c'], .int .i64 e]) (HP.sep (RoB a' x.data.length x.data) (NodR b (w.put k (u.wr at')) r))) := by
  have t := uWrite_ok u.ub u.bd 900 u.s u.ps 0 at' 2 none 0 0 [] HP.tt ⟨Rd.impR (RoC.rd _ _ _ _) fun R h _ => (RoB0 none : (RoB none 0 []).p R h), fun _ _ _ _ => rfl⟩ rfl (fun h => absurd rfl h)
  refine (nod_unit (b := b) (w := w) (r := r) hk (s' := (u.wr at').s) (ps' := (u.wr at').ps) (K := HP.tt) (B := fun v => HP.ex fun x : CellS => HP.ex fun e : Int => HP.ex fun a' => HP.ex fun c' => HP.and (v = .tuple #[.agg #[.int .i64 x.what, .slice a' x.data.length c'], .int .i64 e]) (RoB a' x.data.length x.data)) (t.weak (fun _ _ h => h) fun v R h ⟨a', c', e, H⟩ => ?_)).weak (fun R h H => HP.sep_tt H) fun v R h ⟨h1, h2, d, l1, l2, H1, x, e, a', c', q, H2⟩ => ⟨x, e, a', c', q, HP.sep_comm ⟨h1, h2, d, l1, l2, H1, H2⟩⟩
  have H2 := HP.sep_comm (HP.sep_mono H (fun _ h => h) fun y hy => HP.sep_left hy)
  exact HP.sep_mono H2 (fun _ h => h) fun y hy => ⟨_, _, a', c', e, hy⟩
theorem nd_epoch {k : Nat} {u : UR} (hk : w.l[k]? = some u) : Tri Tryz.prog 22 #[u.ptr] (NodR b w r) (fun v => HP.and (v = .int .i64 u.s.epoch) (NodR b w r)) := by
  have := nod_unit (b := b) (w := w) (r := r) hk (s' := u.s) (ps' := u.ps) (K := HP.tt) (B := fun v => HP.pure (v = .int .i64 u.s.epoch)) ((uEpoch_ok u.ub u.bd _ u.s).weak (fun R h H => HP.sep_left H) fun v R h ⟨e, H⟩ => HP.sep_mono (HP.sep_tt H) (fun _ h => h) fun _ _ => e)
  rw [show (⟨u.ub, u.bd, u.s, u.ps⟩ : UR) = u from rfl, put_back hk] at this
  exact this.weak (fun R h H => HP.sep_tt H) fun v R h H => ⟨HP.sep_right H, HP.sep_left H⟩
theorem nd_seqE : Tri Tryz.prog 17 #[.pointer (some ⟨r.sq, 0, none⟩)] (NodR b w r) (fun v => HP.and (v = .int .i64 w.e) (NodR b w r)) := by
  have := nod_seq (b := b) (w := w) (r := r) (e' := w.e) (n' := w.n) (K := HP.tt) (B := fun v => HP.pure (v = .int .i64 w.e)) ((kEpoch_ok r.sq w.e w.n).weak (fun R h H => HP.sep_left H) fun v R h ⟨e, H⟩ => HP.sep_mono (HP.sep_tt H) (fun _ h => h) fun _ _ => e)
  exact this.weak (fun R h H => HP.sep_tt H) fun v R h H => ⟨HP.sep_right H, HP.sep_left H⟩
theorem nd_seqN : Tri Tryz.prog 23 #[.pointer (some ⟨r.sq, 0, none⟩)] (NodR b w r) (fun v => HP.and (v = .int .i64 w.n) (NodR b w r)) := by
  have := nod_seq (b := b) (w := w) (r := r) (e' := w.e) (n' := w.n) (K := HP.tt) (B := fun v => HP.pure (v = .int .i64 w.n)) ((kNext_ok r.sq w.e w.n).weak (fun R h H => HP.sep_left H) fun v R h ⟨e, H⟩ => HP.sep_mono (HP.sep_tt H) (fun _ h => h) fun _ _ => e)
  exact this.weak (fun R h H => HP.sep_tt H) fun v R h H => ⟨HP.sep_right H, HP.sep_left H⟩
end
theorem bits63 (x : Int) : bits .and .i64 x 63 = x % 64 := bits_mask_i64 x 6 (by decide)
end Go.Proofs.YtbmajijnjkicmaaGreatDoor



namespace Go.Proofs.YtbmajijnjkicmaaGreatDoor
set_option linter.unusedSimpArgs false
set_option linter.unusedVariables false
open Go.Proofs.YtbmajijnjkicmaaGreatDoor RX
set_option maxRecDepth 100000

theorem EnI.ok {n : Nat} {p : PlP} {k K : Nat} {T : Int} {w : NS} {gs : List AdvS} {i : Nat} {g : AdvS} (h : EnI n p k K T w gs i g) (hp : PlN n p) (hK : K < 900) (hi : i < 1000) {m : MS} (hm : m ∈ asksL g) : (askN w m).1 = true := by
  by_cases h4 : g.st = 4
  · unfold asksL at hm
    rw [if_pos h4] at hm
    obtain rfl := List.mem_singleton.1 hm
    unfold askN; rw [if_pos (show (startA g).to = 7 from rfl)]
  · obtain ⟨u, x, _, _, _, rfl, hAn⟩ := h.ans hp hK hi h4 hm
    exact hAn.ok
set_option maxHeartbeats 2000000 in
theorem advEnds_ok (size : Int) (ta : Option Addr) (turns : List Turn18) (tc : Nat) (wa : Option Addr) (wr : List Int) (wc : Nat) :
    Tri Tryz.prog 5 #[.int .i64 size, .slice ta turns.length tc, .slice wa wr.length wc] (HP.sep (Ls kTurn18 ta turns.length turns) (Ls kInt wa wr.length wr)) (fun v => HP.pure (v = .bool true)) := by
  refine Tri.fact (φ := (turns.length ≠ 0 → ta.isSome = true) ∧ (wr.length ≠ 0 → wa.isSome = true)) (fun R h H => ⟨fun hn => RoC.some (HP.sep_left H).2.1 (by omega), fun hn => RoC.some (HP.sep_right H).2.1 (by omega)⟩) fun ⟨hts, hws⟩ => ?_
  refine tri_of_tree (ρ := [.i size, .a ta, .n turns.length, .n tc, .p (Ls kTurn18 ta turns.length turns), .a wa, .n wr.length, .n wc, .p (Ls kInt wa wr.length wr)]) mixed Tryz.func5 tree_advEnds ?_
  unfold t_advEnds
  simp (maxSteps := 3000000) only [T.den, E.prop, E.den, RX.look, F1.app, F2.app, Uni.int_i, Uni.nat_n, Uni.bool_c, Uni.str_s, Uni.adr_a, Uni.val_v, Uni.hp_p, hden, cden, V.den, W.den, A.den, BR.den, SA.den, FV.den, capV, exs, exP, allP, Cur.app, List.map_cons, List.map_nil, List.cons_append, List.nil_append, List.drop_succ_cons, List.drop_zero, List.length_cons, List.length_nil, Nat.zero_add, Nat.reduceAdd, Int.neg_neg, Bool.not_not, List.append_nil, Nat.add_zero, List.getElem?_cons_zero, List.getElem?_cons_succ, Decidable.not_not, semW_eq, semW_load, ne_eq, Nat.reduceEqDiff, not_false_eq_true, and3, bits63]
  obtain ⟨nn, hnn⟩ : ∃ nn : Nat, size % 4 + 1 = nn := ⟨(size % 4 + 1).toNat, by omega⟩
  rw [hnn]
  have hn : 1 ≤ nn ∧ nn ≤ 4 := by omega
  refine speaks18_ok.weak (fun _ _ _ => trivial) ?_
  rintro v R h ⟨rfl, _⟩
  refine ⟨true, rfl, ⟨fun h => absurd rfl h, fun _ => ?_⟩, trivial⟩
  refine ⟨fun q => q = false → turns.length ≤ 100 ∧ wr.length ≤ 30, ⟨(fun _ h => by cases h), fun h1 h2 => ⟨by omega, by have := of_decide_eq_false h2; omega⟩⟩, ?_⟩
  intro q hq
  refine ⟨fun _ => .of fun R h H => trivial, fun hqf => ?_⟩
  obtain ⟨htl, hwl⟩ := hq (by simpa using hqf)
  refine ⟨inI64 _ (by omega) (by omega), fun _ => ?_⟩
  refine (first_ok nn 1).weak (fun _ _ _ => trivial) ?_
  have hf : firstS nn 1 = (⟨0, firstC nn 1⟩, 0) := by
    unfold firstS
    rw [if_pos (by omega), Int.toNat_natCast]; rfl
  rw [hf]
  have hp := first_plN hn
  generalize hpp : (⟨0, firstC nn 1⟩ : PlP) = p at *
  rintro v R h ⟨a, c, es, ⟨rfl, he, hb⟩, H⟩
  have hpe : (⟨p.ep, es.map (·.l)⟩ : PlP) = p := by rw [he]
  have hel : es.length ≤ 7 := by
    have := congrArg List.length he
    rw [List.length_map] at this
    have h7 := (rightP hp.r).len7
    rw [this]; exact h7
  refine ⟨p.ep, a, es.length, c, Ls kCh a es.length es, 0, rfl, fun _ => ?_, H⟩
  clear H
  refine (laid18_ok nn (by omega)).weak (fun _ _ _ => trivial) ?_
  rintro v R h ⟨wb, w0, ⟨rfl, hw0l, hw0e, _, hw0⟩, r, H⟩
  have hras : r.a.isSome = true := NodR.isSm H (by omega)
  refine ⟨wb, NodR wb w0 r, rfl, ⟨fun q => q = false, ⟨fun h => absurd rfl h, fun _ => rfl⟩, ?_⟩, H⟩
  clear H
  rintro _ rfl
  refine ⟨fun h => absurd h (by decide), fun _ => ?_⟩
  -- what is written ahead
  refine ⟨fun tail i P => ∃ (j : Nat) (w : NS), i = j ∧ j ≤ wr.length ∧ P = NodR wb w r ∧ w.l.length = nn ∧ w.e = -1 ∧ 0 ≤ tail ∧ tail ≤ 64 ∧ ∀ u ∈ w.l, WrU j tail u, fun _ i _ => wr.length - i.toNat,
    ⟨0, w0, rfl, Nat.zero_le _, rfl, hw0l, hw0e, Int.le_refl _, by decide, fun u hu => WrU.new (hw0 u hu).1 (hw0 u hu).2⟩, ?_⟩
  rintro tail _ _ ⟨j, w, rfl, hj, rfl, hwn, hwe, ht0, ht1, hW⟩
  refine ⟨fun hlt => ?_, fun hge => ?_⟩
  · have hg : wr[j]? = some (wr[j]'(by omega)) := List.getElem?_eq_getElem (by omega)
    generalize wr[j]'(by omega) = x at hg
    refine ⟨by omega, fun _ => ⟨hws (by omega), fun _ => ⟨x, Ls.load1 (K := kInt) undIb aggI szI (off := 0) hg rfl, r.a, w.l.length, r.c, ndLdU, ?_⟩⟩⟩
    have hx := Int.emod_nonneg x (show (64 : Int) ≠ 0 by decide)
    have hx2 := Int.emod_lt_of_pos x (show (0 : Int) < 64 by decide)
    refine ⟨fun i P => ∃ (q : Nat) (w' : NS), i = q ∧ q ≤ nn ∧ P = NodR wb w' r ∧ w'.l.length = nn ∧ w'.e = -1 ∧ ∀ (v : Nat) (u : UR), w'.l[v]? = some u → if v < q then WrU (j + 1) (max tail (x % 64 + 1)) u else WrU j tail u, fun i _ => nn - i.toNat,
      ⟨0, w, rfl, Nat.zero_le _, rfl, hwn, hwe, fun v u hu => by rw [if_neg (by omega)]; exact hW u (List.mem_of_getElem? hu)⟩, ?_⟩
    rintro _ _ ⟨q, w', rfl, hq, rfl, hwn', hwe', hW'⟩
    rw [hwn]
    refine ⟨fun hql => ?_, fun hqg => ⟨inI64 _ (by omega) (by omega), fun _ => ⟨inI64 _ (by omega) (by omega), fun _ => ⟨⟨j + 1, w', by omega, by omega, rfl, hwn', hwe', by omega, by omega, fun u hu => ?_⟩, by dsimp only; omega⟩⟩⟩⟩
    · have hu : w'.l[q]? = some (w'.l[q]'(by omega)) := List.getElem?_eq_getElem (by omega)
      generalize w'.l[q]'(by omega) = u at hu
      refine ⟨by omega, fun _ => ⟨hras, fun _ => ⟨u.ptr, ndLd1 hu, ?_⟩⟩⟩
      refine (nd_write hu (x % 64)).weak (fun _ _ h => h) ?_
      rintro v R h ⟨y, e, a', c', rfl, H⟩
      refine ⟨y.what, a', y.data.length, c', RoB a' y.data.length y.data, e, NodR wb (w'.put q (u.wr (x % 64))) r, rfl, ⟨inI64 _ (by omega) (by omega), fun _ => ⟨⟨q + 1, w'.put q (u.wr (x % 64)), by omega, by omega, rfl, by show (w'.l.set _ _).length = nn; rw [List.length_set]; exact hwn', hwe', fun v z hz => ?_⟩, by dsimp only; omega⟩⟩, H⟩
      rcases set_get hz with ⟨rfl, rfl⟩ | ⟨hne, hz⟩
      · rw [if_pos (by omega)]
        have := hW' v u hu
        rw [if_neg (by omega)] at this
        exact this.write (by omega) ⟨hx, by omega⟩
      · have := hW' v z hz
        by_cases hvq : v < q
        · rw [if_pos hvq] at this; rw [if_pos (by omega)]; exact this
        · rw [if_neg hvq] at this; rw [if_neg (by omega)]; exact this
    · obtain ⟨v, hv, rfl⟩ := List.mem_iff_getElem.1 hu
      have := hW' v _ (List.getElem?_eq_getElem hv)
      rw [if_pos (by omega)] at this
      exact this
  obtain rfl : j = wr.length := by omega
  have begin_ := fun q => aBegin_ok (Ls kCh a es.length es) p.ep a es.length c es nn q (fun _ _ h => h) (fun x hx => by have := hb x hx; omega) (by omega)
  rw [hpe] at begin_
  refine (begin_ 1).weak (fun _ _ h => h) ?_
  rintro v R h ⟨ob, rfl, H⟩
  refine ⟨ob, ARep ob (beginA p nn 1), rfl, ?_, H⟩
  clear H
  have hone := OneI.newQ (S := SPlan p) (w := w) (p := p) (n := nn) 2 (by omega) hwn (fun u hu => (hW u hu).i1) hp.r hp.e ⟨hn.1, by omega⟩ (fun v hv => hv.sval.small)
  have hst0 : EnI nn p 0 wr.length tail w [beginA p nn 1, beginA p nn 2] 0 (beginA p nn 1) := ⟨hone, fun u hu => (hW u hu).lv (by decide), begin_alive hp (by omega), rfl, .inl hwe⟩
  -- what another one does ahead
  refine ⟨fun i A W => ∃ (k : Nat) (g : AdvS) (w : NS), i = k ∧ k ≤ turns.length ∧ A = ARep ob g ∧ W = NodR wb w r ∧ EnI nn p k (wr.length + k) tail w [g, beginA p nn 2] 0 g, fun i _ _ => turns.length - i.toNat,
    ⟨0, _, w, rfl, Nat.zero_le _, rfl, rfl, hst0⟩, ?_⟩
  clear hst0 hone hW hwn hwe
  rintro _ _ _ ⟨k, g, w, rfl, hk, rfl, rfl, hE⟩
  have hA := hE.one.ai hE.hg
  have hwn := hE.one.len
  refine ⟨fun hlt => ?_, fun hge => ?_⟩
  · have hg : turns[k]? = some (turns[k]'(by omega)) := List.getElem?_eq_getElem (by omega)
    generalize turns[k]'(by omega) = t at hg
    refine ⟨by omega, fun _ => ⟨hts (by omega), fun _ => ⟨t.who, t.at_, t.comes, t.push, Turn18.load hg, fun _ => ?_⟩⟩⟩
    have more : EnI nn p (k + 1) (wr.length + (k + 1)) tail w [g, beginA p nn 2] 0 g := ⟨hE.one.mono (Nat.le_succ k), fun u hu => (hE.lv u hu).mono (Int.le_refl _) (by omega), hE.al, hE.hg, hE.e⟩
    refine ⟨fun A W => ∃ (g' : AdvS) (w' : NS), A = ARep ob g' ∧ W = NodR wb w' r ∧ EnI nn p (k + 1) (wr.length + (k + 1)) tail w' [g', beginA p nn 2] 0 g', ⟨fun _ => ?_, fun _ => ?_⟩, ?_⟩
    · refine (ePush_ok ob g (fun h1 => (hA.r (by omega)).1) (by have := hA.u0; omega)).weak (fun _ _ h => h) ?_
      rintro v R h ⟨rfl, H⟩
      exact ⟨ARep ob (pushA g), rfl, ⟨pushA g, w, rfl, rfl, hE.push hp (by omega) (by omega)⟩, H⟩
    · refine (eAsks_ok ob g hA.safe.s).weak (fun _ _ h => h) ?_
      rintro v R h ⟨a1, c1, es1, ⟨rfl, he1⟩, H⟩
      have hsm : es1.length ≠ 0 → a1.isSome = true := fun hn => RoC.some (HP.sep_left H).2.1 (by omega)
      refine ⟨a1, es1.length, c1, Ls kMs a1 es1.length es1, rfl, ?_, H⟩
      clear H
      refine ⟨fun A W => ∃ (g' : AdvS) (w' : NS), A = ARep ob g' ∧ W = NodR wb w' r ∧ EnI nn p (k + 1) (wr.length + (k + 1)) tail w' [g', beginA p nn 2] 0 g', ⟨fun hpos => ?_, fun hz => ⟨g, w, rfl, rfl, more⟩⟩, fun A W ⟨g', w', e1, e2, h⟩ => ⟨g', w', e1, e2, h⟩⟩
      obtain ⟨F, hF, hFl⟩ := modN18 t.at_ es1.length (by omega)
      rw [hF]
      have hje : es1[F]? = some (es1[F]'hFl) := List.getElem?_eq_getElem hFl
      generalize es1[F]'hFl = e at hje
      have hemem := List.mem_of_getElem? hje
      have hmem : e.m ∈ asksL g := by rw [← he1]; exact List.mem_map.2 ⟨e, hemem, rfl⟩
      obtain ⟨hst1, hst2, hst3⟩ := hE.ask hp (by omega) (by omega) (by omega) hmem
      obtain ⟨f1, f2, f3, f4, f5, _⟩ := asksL_get (g := g) (i := F) (m := e.m) (by rw [← he1, List.getElem?_map, hje]; rfl)
      refine ⟨by omega, fun _ => ⟨by omega, fun _ => ⟨by omega, fun _ => ⟨hsm (by omega), fun _ => ?_⟩⟩⟩⟩
      refine ⟨e.m.fr, e.m.to, e.m.num, e.m.rep, e.m.kind, e.m.ep, e.m.at', e.m.cell.what, e.ca, e.m.cell.data.length, e.cc, e.m.br, e.m.bw, e.va, e.m.val.length, e.vc, e.m.err, e.m.tail, e.m.low, e.m.back, ldMsI (fun _ _ h => h) rfl hje, ?_⟩
      refine (ask18R_ok wb w r e.m e.ca e.cc e.va e.vc (fun h7 => ⟨f5.2 h7, f2⟩) (by omega)).conseq (K := Ls kMs a1 es1.length es1) (.of fun R h H => ?_) fun v => .of fun R h ⟨h1, h2, d, l1, l2, ⟨rca, rcc, rva, rvc, e0, H1⟩, H2⟩ => ?_
      · have hx : (HP.both (e.m.Dro e.ca) (e.m.Vro e.va)).p R _ := (HP.sep_right H).2.2 e hemem
        have hD : ∀ h', (e.m.Dro e.ca).p R h' := fun _ => hx.1
        have hV : ∀ h', (e.m.Vro e.va).p R h' := fun _ => hx.2
        exact HP.sep_mono H (fun y hy => HP.sep_mono (HP.sep_tt hy) (fun _ h => h) fun z _ => HP.sep_mono (HP.sep_tt (hD z)) (fun _ h => h) fun q _ => hV q) fun _ h => h
      generalize hAeq : askN w e.m = A at *
      have H3 := HP.pick [_, _, _, _, _, _] [3, 4, 0, 5] (by decide) rfl (HP.sep_assoc (⟨h1, h2, d, l1, l2, H1, H2⟩ : (HP.sep (HP.sep (NodR wb A.2.2 r) (HP.sep (e.m.Dro e.ca) (HP.sep (e.m.Vro e.va) (HP.sep (A.2.1.Dro rca) (A.2.1.Vro rva))))) (Ls kMs a1 es1.length es1)).p R h) |> fun H => HP.sep_mono H (fun _ h => h) fun y hy => HP.sep_assoc hy |> fun H => HP.sep_mono H (fun _ h => h) fun y hy => HP.sep_assoc hy |> fun H => HP.sep_mono H (fun _ h => h) fun y hy => HP.sep_assoc hy)
      refine ⟨A.2.1.fr, A.2.1.to, A.2.1.num, A.2.1.rep, A.2.1.kind, A.2.1.ep, A.2.1.at', A.2.1.cell.what, rca, A.2.1.cell.data.length, rcc, A.2.1.Dro rca, A.2.1.br, A.2.1.bw, rva, A.2.1.val.length, rvc, A.2.1.Vro rva, A.2.1.err, A.2.1.tail, A.2.1.low, A.2.1.back, A.1, NodR wb A.2.2 r, e0, fun _ => ?_, H3⟩
      clear H1 H2 H3 e0 d l1 l2
      refine ⟨fun q => q = (A.1 && t.comes), ⟨fun h => ?_, fun h => ?_⟩, ?_⟩
      · show t.comes = _
        rw [show A.1 = true from h]; rfl
      · show false = _
        rw [show A.1 = false by simpa using h]; rfl
      rintro _ rfl
      refine ⟨fun B => ∃ g', B = ARep ob g' ∧ EnI nn p (k + 1) (wr.length + (k + 1)) tail A.2.2 [g', beginA p nn 2] 0 g', ⟨fun hq => ?_, fun _ => ⟨g, rfl, hst1⟩⟩, ?_⟩
      · have hA1 : A.1 = true := (Bool.and_eq_true_iff.1 hq).1
        refine (eTold2 ob g A.2.1 rca rcc rva rvc hA.safe (by omega) (A.2.1.Dro rca)).weak (fun _ _ h => h) ?_
        rintro v R h ⟨g', ⟨rfl, ht⟩, H⟩
        exact ⟨ARep ob g', rfl, ⟨g', rfl, hst3 hA1 g' ht⟩, H⟩
      · rintro _ ⟨g', rfl, h1⟩
        exact ⟨g', A.2.2, rfl, rfl, h1⟩
    rintro _ _ ⟨g', w', rfl, rfl, h1⟩
    exact ⟨inI64 _ (by omega) (by omega), fun _ => ⟨⟨k + 1, g', w', by omega, by omega, rfl, rfl, h1⟩, by dsimp only; omega⟩⟩
  -- one all whose asks are replied to
  refine (begin_ 2).weak (fun _ _ h => h) ?_
  rintro v R h ⟨ab, rfl, H⟩
  refine ⟨ab, ARep ab (beginA p nn 2), rfl, ?_, H⟩
  clear H
  have hE2 : EnI nn p k (wr.length + k) tail w [g, beginA p nn 2] 1 (beginA p nn 2) := ⟨hE.one, fun u hu => (hE.lv u hu).mono (by decide) (Nat.le_refl _), begin_alive hp (by omega), rfl, hE.e⟩
  have hEA := begin_enA (T := tail) hp (q := 2) (by omega) w
  have hrk := begin_rank hp (q := 2) (by omega)
  refine ⟨fun _ _ A W => ∃ (g' : AdvS) (w' : NS), A = ARep ab g' ∧ W = NodR wb w' r ∧ g'.st = 5 ∧ EnA tail w' g' ∧ w'.l.length = nn ∧ GoodP p g'.plan, ?_, ?_⟩
  · refine ⟨fun _ i A W => ∃ (q : Nat) (g' : AdvS) (w' : NS), i = q ∧ A = ARep ab g' ∧ W = NodR wb w' r ∧ EnI nn p (k + q) (wr.length + k + q) tail w' [g, g'] 1 g' ∧ EnA tail w' g' ∧ q + rankA nn g' ≤ 4 * nn + 1, fun _ i _ _ => 100 - i.toNat,
      ⟨0, _, w, rfl, rfl, rfl, hE2, hEA, by omega⟩, ?_⟩
    clear hE2 hEA hrk hE hA hwn
    rintro flag _ _ _ ⟨q, g', w', rfl, rfl, rfl, hE2, hEA, hrk⟩
    have hA := hE2.one.ai hE2.hg
    have hwn := hE2.one.len
    refine ⟨inI64 _ (by omega) (by omega), fun _ => ⟨inI64 _ (by omega) (by omega), fun _ => ⟨fun hlt => ?_, fun hge => by omega⟩⟩⟩
    refine (eAsks_ok ab g' hA.safe.s).weak (fun _ _ h => h) ?_
    rintro v R h ⟨a1, c1, es1, ⟨rfl, he1⟩, H⟩
    have hsm : es1.length ≠ 0 → a1.isSome = true := fun hn => RoC.some (HP.sep_left H).2.1 (by omega)
    refine ⟨a1, es1.length, c1, Ls kMs a1 es1.length es1, rfl, ⟨fun hz => ?_, fun hz => ?_⟩, H⟩
    · have hnil : asksL g' = [] := by
        rw [← he1, List.map_eq_nil_iff]
        exact List.eq_nil_of_length_eq_zero (by omega)
      have h5 : g'.st = 5 := (hA.asks.1 hnil).resolve_right hEA.n6
      exact ⟨g', w', rfl, rfl, h5, hEA, hwn, (hE2.one.av hE2.hg).2.2.2.2.1 (by omega) (by omega)⟩
    clear H
    have hel : 0 < es1.length := by omega
    have hmod : (q : Int).tmod (es1.length : Int) = ((q % es1.length : Nat) : Int) := by
      rw [Int.tmod_eq_emod_of_nonneg (by omega)]; rfl
    have hFl := Nat.mod_lt q hel
    rw [hmod]
    generalize q % es1.length = F at hFl
    have hje : es1[F]? = some (es1[F]'hFl) := List.getElem?_eq_getElem hFl
    generalize es1[F]'hFl = e at hje
    have hemem := List.mem_of_getElem? hje
    have hmem : e.m ∈ asksL g' := by rw [← he1]; exact List.mem_map.2 ⟨e, hemem, rfl⟩
    obtain ⟨hst1, hst2, hst3⟩ := hE2.ask hp (by omega) (by omega) (by omega) hmem
    obtain ⟨f1, f2, f3, f4, f5, _⟩ := asksL_get (g := g') (i := F) (m := e.m) (by rw [← he1, List.getElem?_map, hje]; rfl)
    refine ⟨by omega, fun _ => ⟨by omega, fun _ => ⟨hsm (by omega), fun _ => ?_⟩⟩⟩
    refine ⟨e.m.fr, e.m.to, e.m.num, e.m.rep, e.m.kind, e.m.ep, e.m.at', e.m.cell.what, e.ca, e.m.cell.data.length, e.cc, e.m.br, e.m.bw, e.va, e.m.val.length, e.vc, e.m.err, e.m.tail, e.m.low, e.m.back, ldMsI (fun _ _ h => h) rfl hje, ?_⟩
    have hstep := fun g2 ht => hEA.step (g' := g2) hE2 hp (by omega) (by omega) (by omega) hmem ht
    refine (ask18R_ok wb w' r e.m e.ca e.cc e.va e.vc (fun h7 => ⟨f5.2 h7, f2⟩) (by omega)).conseq (K := Ls kMs a1 es1.length es1) (.of fun R h H => ?_) fun v => .of fun R h ⟨h1, h2, d, l1, l2, ⟨rca, rcc, rva, rvc, e0, H1⟩, H2⟩ => ?_
    · have hx : (HP.both (e.m.Dro e.ca) (e.m.Vro e.va)).p R _ := (HP.sep_right H).2.2 e hemem
      have hD : ∀ h', (e.m.Dro e.ca).p R h' := fun _ => hx.1
      have hV : ∀ h', (e.m.Vro e.va).p R h' := fun _ => hx.2
      exact HP.sep_mono H (fun y hy => HP.sep_mono (HP.sep_tt hy) (fun _ h => h) fun z _ => HP.sep_mono (HP.sep_tt (hD z)) (fun _ h => h) fun q _ => hV q) fun _ h => h
    have hok := hE2.ok hp (by omega) (by omega) hmem
    generalize hAeq : askN w' e.m = A at *
    have H3 := HP.pick [_, _, _, _, _, _] [3, 4, 0, 5] (by decide) rfl (HP.sep_assoc (⟨h1, h2, d, l1, l2, H1, H2⟩ : (HP.sep (HP.sep (NodR wb A.2.2 r) (HP.sep (e.m.Dro e.ca) (HP.sep (e.m.Vro e.va) (HP.sep (A.2.1.Dro rca) (A.2.1.Vro rva))))) (Ls kMs a1 es1.length es1)).p R h) |> fun H => HP.sep_mono H (fun _ h => h) fun y hy => HP.sep_assoc hy |> fun H => HP.sep_mono H (fun _ h => h) fun y hy => HP.sep_assoc hy |> fun H => HP.sep_mono H (fun _ h => h) fun y hy => HP.sep_assoc hy)
    refine ⟨A.2.1.fr, A.2.1.to, A.2.1.num, A.2.1.rep, A.2.1.kind, A.2.1.ep, A.2.1.at', A.2.1.cell.what, rca, A.2.1.cell.data.length, rcc, A.2.1.Dro rca, A.2.1.br, A.2.1.bw, rva, A.2.1.val.length, rvc, A.2.1.Vro rva, A.2.1.err, A.2.1.tail, A.2.1.low, A.2.1.back, A.1, NodR wb A.2.2 r, e0, fun _ => ⟨fun h => absurd hok h, fun _ => ?_⟩, H3⟩
    clear H1 H2 H3 e0 d l1 l2
    refine (eTold2 ab g' A.2.1 rca rcc rva rvc hA.safe (by omega) (A.2.1.Dro rca)).weak (fun _ _ h => h) ?_
    rintro v R h ⟨g2, ⟨rfl, ht⟩, H⟩
    obtain ⟨_, s2, s3⟩ := hstep g2 ht
    exact ⟨ARep ab g2, rfl, ⟨inI64 _ (by omega) (by omega), fun _ => ⟨⟨q + 1, g2, A.2.2, by omega, rfl, rfl, hst3 hok g2 ht, s2, by omega⟩, by dsimp only; omega⟩⟩, H⟩
  clear hE2 hEA hrk hE hA hwn
  rintro _ _ _ _ ⟨g', w', rfl, rfl, h5, hEA, hwn, hgood⟩
  refine ⟨fun q => q = false, ?_, ?_⟩
  · refine (eState_ok ab g').weak (fun _ _ h => h) ?_
    rintro v R h ⟨rfl, H⟩
    refine ⟨g'.st, rfl, ⟨fun h => absurd h5 h, fun _ => ?_⟩, H⟩
    clear H
    refine (ePlan_ok ab g').weak (fun _ _ h => h) ?_
    rintro v R h ⟨a3, c3, es3, ⟨rfl, _⟩, H⟩
    refine ⟨g'.plan.ep, a3, es3.length, c3, Ls kCh a3 es3.length es3, rfl, ⟨fun h => absurd (show g'.plan.ep = 1 by rw [hgood.2.1, hp.e]; rfl) h, fun _ => ?_⟩, H⟩
    clear H
    refine (eTail_ok ab g').weak (fun _ _ h => h) ?_
    rintro v R h ⟨rfl, H⟩
    refine ⟨g'.tail, rfl, ?_, H⟩
    have := hEA.t4 (by omega)
    exact decide_eq_false (by omega)
  rintro _ rfl
  refine ⟨fun h => absurd h (by decide), fun _ => ⟨r.a, w'.l.length, r.c, ndLdU, ?_⟩⟩
  refine ⟨fun _ i => ∃ q : Nat, i = q ∧ q ≤ nn, fun _ i => nn - i.toNat, ⟨0, rfl, Nat.zero_le _⟩, ?_⟩
  rintro _ _ ⟨q, rfl, hq⟩
  rw [hwn]
  refine ⟨fun hql => ?_, fun _ => ?_⟩
  · have hu : w'.l[q]? = some (w'.l[q]'(by omega)) := List.getElem?_eq_getElem (by omega)
    generalize w'.l[q]'(by omega) = u at hu
    refine ⟨by omega, fun _ => ⟨hras, fun _ => ⟨u.ptr, ndLd1 hu, ?_⟩⟩⟩
    refine (nd_epoch hu).weak (fun _ _ h => h) ?_
    rintro v R h ⟨rfl, H⟩
    exact ⟨u.s.epoch, rfl, ⟨fun h => absurd (hEA.r2 (by omega) u (List.mem_of_getElem? hu)) h, fun _ => ⟨inI64 _ (by omega) (by omega), fun _ => ⟨⟨q + 1, by omega, by omega⟩, by dsimp only; omega⟩⟩⟩, H⟩
  · obtain ⟨e1, e2⟩ := hEA.s5 h5
    refine ⟨fun q => q = true, ⟨.pointer (some ⟨r.sq, 0, none⟩), ndLdS, ?_⟩, fun q hq => ?_⟩
    · refine nd_seqE.weak (fun _ _ h => h) ?_
      rintro v R h ⟨rfl, H⟩
      refine ⟨w'.e, rfl, ⟨fun _ => ⟨.pointer (some ⟨r.sq, 0, none⟩), ndLdS, ?_⟩, fun h => absurd e1 h⟩, H⟩
      clear H
      refine nd_seqN.weak (fun _ _ h => h) ?_
      rintro v R h ⟨rfl, H⟩
      exact ⟨w'.n, rfl, decide_eq_true e2, H⟩
    · subst hq
      exact .of fun R h H => rfl
end Go.Proofs.YtbmajijnjkicmaaGreatDoor



namespace Go.Proofs.YtbmajijnjkicmaaGreatDoor
open Go.Proofs.YtbmajijnjkicmaaGreatDoor RX
open Go.ChangeShapes Go.WideShapes Go.ChangeAt Go.RowKit
set_option maxRecDepth 100000

theorem fours_name : Tryz.prog.globalNamed "tideline/check.fours" = some 0 := by kernel_rfl
theorem fours_type : (Tryz.prog.globals[(0 : Nat)]?).map (·.type) = some 201 := by kernel_rfl
theorem cells32 : Tryz.prog.cellsOf 188 = 1 := by kernel_rfl
theorem gr_of {w : World} {r : List (String × DataW Unit)} {ps : List MemPlace} (h : DataW.LaidVars Tryz.prog w (("tideline/check.fours", Rows.laid_tideline_check_fours) :: r) ps) : GR (allOf w) := by
  obtain ⟨g, t, cs, fuel, p, q, hg, ht, hv, htr, _, _⟩ := h
  rw [fours_name] at hg
  cases hg
  rw [fours_type] at ht
  cases ht
  unfold World.var? at hv
  rw [fours_name] at hv
  simp only [Option.bind_some] at hv
  obtain ⟨ty, fr, hh⟩ : ∃ ty fr, w.heap[(0 : Nat)]? = some (.cells cs ty fr) := by
    split at hv
    · rename_i c ty fr e; cases hv; exact ⟨ty, fr, e⟩
    · cases hv
  refine ⟨cs, ty, fr, hh, fun i v hi => ?_⟩
  obtain ⟨xs, m, _, hx, hl, hn, hel⟩ := DataW.trod_array undF htr
  have hi16 : i < 16 := (List.getElem?_eq_some_iff.1 hi).1
  have hd : xs.map (·.1) = fours.map fun n : Nat => DataW.lit (.int .u32 ((n : Nat) : Int)) := by
    have := congrArg Prod.fst hx
    unfold Rows.laid_tideline_check_fours at this
    injection this with this
    exact this.symm
  have h1 := hel i hi16
  rw [cells32, Nat.mul_one] at h1
  have h3 : (xs.map (·.1))[i]? = some (DataW.lit (.int .u32 (v : Int))) := by rw [hd, List.getElem?_map, hi]; rfl
  rw [List.getElem?_map] at h3
  obtain ⟨y, hy, hy2⟩ := Option.map_eq_some_iff.1 h3
  rw [hy] at h1
  obtain ⟨z, hz, hz2, _⟩ := DataW.trod_int und32 h1
  rw [hz2] at hy2
  have e : z = (v : Int) := by
    injection hy2 with e
    injection e
  subst e
  have h5 : (List.take 1 (cs.toList.drop i))[0]? = some (Value.int .u32 (v : Int)) := by rw [hz]; rfl
  rw [List.getElem?_take, if_pos (by decide), List.getElem?_drop, Nat.add_zero] at h5
  simpa using h5
end Go.Proofs.YtbmajijnjkicmaaGreatDoor



namespace Go.Proofs.YtbmajijnjkicmaaGreatDoor
open Go.RowKit Go.ChangeShapes Go.WideShapes Go.Deep RX

set_option maxRecDepth 100000 in
theorem advanceEnds_walk {H : Type} (enc : TypeId × Value → H) (base : Nat) (v0 v1 v2 : Value) (w : World)
    (k0 : Value.okWide Tryz.prog w .any base 3 v0) (h0 : ∃ d p, DataW.Trod enc Tryz.prog w 0 (fun _ => true) true 3 v0 d p ∧ Small Tryz.prog 3 d)
    (k1 : Value.okWide Tryz.prog w .any base 54 v1) (h1 : ∃ d p, DataW.Trod enc Tryz.prog w 0 (fun _ => true) true 54 v1 d p ∧ Small Tryz.prog 54 d)
    (k2 : Value.okWide Tryz.prog w .any base 60 v2) (h2 : ∃ d p, DataW.Trod enc Tryz.prog w 0 (fun _ => true) true 60 v2 d p ∧ Small Tryz.prog 60 d) (hG : GR (allOf w)) :
    Calls Tryz.prog 5 #[v0, v1, v2] w fun e w' => e = .returned (.bool true) ∧ Below w.heap.size w w' := by
  obtain ⟨n0, rfl, r0⟩ := int_openR k0 h0
  obtain ⟨a1, l1, c1, rfl, b1, z1⟩ := slice_open kTurn18 Tryz.underlying54 (by kernel_rfl) (of_decide_eq_true (by kernel_rfl)) Turn18.of_trod k1 h1
  obtain ⟨a2, l2, c2, rfl, b2, z2⟩ := slice_open kInt Tryz.underlying60 (by kernel_rfl) (of_decide_eq_true (by kernel_rfl)) kInt_trod k2 h2
  exact Tri.run (advEnds_ok n0 a1 l1 c1 a2 l2 c2) ⟨PH.none', _, PH.none_dj _, PH.none_le _, PH.le.refl _, z1 _, z2 _⟩ hG
end Go.Proofs.YtbmajijnjkicmaaGreatDoor



namespace Go.Proofs.YtbmajijnjkicmaaGreatDoor.advanceEnds
open Go.ChangeShapes Go.WideShapes Go.ChangeAt Go.RowKit
set_option linter.unusedVariables false

theorem own : ownKnob Tryz.prog.godebug = none := by kernel_rfl
theorem laidOut : laidOutB Tryz.prog = true := by kernel_rfl

def laidL : List (String × DataW Unit) := [("tideline/check.fours", Rows.laid_tideline_check_fours)]
set_option maxRecDepth 100000 in
theorem plainL (w : World) : laidMetH Tryz.prog laidL w = laidMet Tryz.prog laidL w := MakeChecks.laidMetH_plain _ _ _ (by kernel_rfl)
set_option maxRecDepth 100000 in
theorem door_met (os : Os) (args : Array Value) : laidMetH Tryz.prog laidL ((World.laidAll Tryz.prog os laidL).forCall (fun _ _ => 0) ⟨#[], args, []⟩).memory := by
  rw [plainL]
  exact laidMet_laidAll _ (by kernel_rfl) (by kernel_rfl)
end Go.Proofs.YtbmajijnjkicmaaGreatDoor.advanceEnds




namespace Go.Proofs.YtbmajijnjkicmaaGreatDoor.advanceEnds
open Go.ChangeShapes Go.WideShapes Go.ChangeAt Go.RowKit
set_option linter.unusedVariables false

set_option maxRecDepth 100000 in
theorem lifted (os : Os) (started : os.Started) (H : Type) (enc : TypeId × Value → H) :
    ReturnsInHanded {} Tryz.checked os 5 .any (fun w args => (Rows.advanceEndsSpec.pre enc Tryz.prog Tryz.f5 [] false w args ∧ laidMetH Tryz.prog laidL w) ∧ sizedMet enc Tryz.prog Tryz.f5 (OpenSpec.ofChange Rows.advanceEndsSpec) false w args) (Rows.advanceEndsSpec.post enc Tryz.prog Tryz.f5 false true false false) := by
  refine returnsInHanded_of_change_and (C := Tryz.checked) (X := fun w _ => laidMetH Tryz.prog laidL w) (fun _ _ _ hh h => h.of_heap hh) own started (by kernel_rfl) Tryz.func5
    (ChangeSpec.witness_shaped (enc := enc) (C := Tryz.checked) (os := os) (X := fun w _ => laidMetH Tryz.prog laidL w) false (World.laidAll Tryz.prog os laidL) #[.int .i64 0, .slice none 0 0, .slice none 0 0] 8 (World.laidAll_os _ _ _) (World.shaped_of_ZipB (by kernel_rfl) (by kernel_rfl)) (by kernel_rfl) (by kernel_rfl) (by kernel_rfl) (door_met os _)) ?_
  intro W base args ds gs before hval0 hW hcnd hsz0 hX _
  have hG : GR (allOf W) := by rw [plainL] at hX; obtain ⟨_, hv, _⟩ := hX; exact gr_of hv
  have hval : ∀ (j : Nat) t v, Tryz.f5.params[j]? = some t → args[j]? = some v → Value.okWide Tryz.prog W .any base t v := hval0
  have hW' := hW
  obtain ⟨p, q, hA0, hV, rfl, hfz, hnd⟩ := hW
  have hA : DataW.TrodAll enc Tryz.prog W 0 (fun _ => true) true Tryz.f5.params.toList args.toList ds p := hA0
  have hsz : (DataW.weightsEach Tryz.prog (Tryz.f5.params.toList ++ Rows.advanceEndsSpec.plain.varTypes Tryz.prog) (ds ++ gs)).all (· ≤ reachBytes) = true := hsz0
  clear hsz0
  rw [Tryz.params5] at hA hval hsz
  obtain ⟨v0, vs0, d0, ds0, p0, q0, hargs, rfl, rfl, h0, r0⟩ := trodAll_cons hA
  obtain ⟨v1, vs1, d1, ds1, p1, q1, rfl, rfl, rfl, h1, r1⟩ := trodAll_cons r0
  obtain ⟨v2, vs2, d2, ds2, p2, q2, rfl, rfl, rfl, h2, r2⟩ := trodAll_cons r1
  obtain ⟨rfl, rfl, rfl⟩ := trodAll_nil r2
  obtain rfl : args = #[v0, v1, v2] := by cases args; simp_all
  obtain ⟨rfl, rfl⟩ := trodVars_none hV
  have lt0 : ∀ x ∈ p0, x.block < W.heap.size := by obtain ⟨m, hm⟩ := h0; exact DataW.trod_lt m _ _ _ hm
  have lt1 : ∀ x ∈ p1, x.block < W.heap.size := by obtain ⟨m, hm⟩ := h1; exact DataW.trod_lt m _ _ _ hm
  have lt2 : ∀ x ∈ p2, x.block < W.heap.size := by obtain ⟨m, hm⟩ := h2; exact DataW.trod_lt m _ _ _ hm
  refine (advanceEnds_walk enc base v0 v1 v2 W (hval 0 3 v0 rfl rfl) ⟨_, _, h0, Small.arg hsz (j := 0) rfl rfl⟩ (hval 1 54 v1 rfl rfl) ⟨_, _, h1, Small.arg hsz (j := 1) rfl rfl⟩ (hval 2 60 v2 rfl rfl) ⟨_, _, h2, Small.arg hsz (j := 2) rfl rfl⟩ hG).mono fun e W' ⟨he, bel⟩ => ?_
  subst he
  exact ⟨_, rfl, _, _, _, [], _, [], hW', trodAll_mk1 (shut_bool Tryz.underlying4 _), (trodAll_cons_mk (Below.trod laidOut (by kernel_rfl) (of_decide_eq_true (by kernel_rfl)) h0 bel lt0) (trodAll_cons_mk (Below.trod laidOut (by kernel_rfl) (of_decide_eq_true (by kernel_rfl)) h1 bel lt1) (trodAll_cons_mk (Below.trod laidOut (by kernel_rfl) (of_decide_eq_true (by kernel_rfl)) h2 bel lt2) trodAll_mk0))), rfl, bel.frame _, fun h => by cases h⟩

end Go.Proofs.YtbmajijnjkicmaaGreatDoor.advanceEnds




namespace Go.Proofs.YtbmajijnjkicmaaGreatDoor.advanceEnds
open Go.ChangeShapes Go.WideShapes Go.ChangeAt Go.RowKit
set_option linter.unusedVariables false

theorem and2 {a b : Bool} (h1 : a = true) (h2 : b = true) : (a && b) = true := by rw [h1, h2]; rfl
theorem c0 : (fun (P : Program) (f : FuncId) (fn : Func) (s : ChangeSpec) (c : OpenClaim) => (c.wf (OpenSpec.ofChange s) : Bool)) Tryz.pinned.checked.prog 5 Tryz.f5 Rows.advanceEndsSpec Rows.advanceEndsRow = true := by kernel_rfl
theorem c1 : (fun (P : Program) (f : FuncId) (fn : Func) (s : ChangeSpec) (c : OpenClaim) => (laidOutB P : Bool)) Tryz.pinned.checked.prog 5 Tryz.f5 Rows.advanceEndsSpec Rows.advanceEndsRow = true := by kernel_rfl
theorem c2 : (fun (P : Program) (f : FuncId) (fn : Func) (s : ChangeSpec) (c : OpenClaim) => (mapsRowed P : Bool)) Tryz.pinned.checked.prog 5 Tryz.f5 Rows.advanceEndsSpec Rows.advanceEndsRow = true := by kernel_rfl
theorem c3 : (fun (P : Program) (f : FuncId) (fn : Func) (s : ChangeSpec) (c : OpenClaim) => (fn.params.all (P.readableRec ·) : Bool)) Tryz.pinned.checked.prog 5 Tryz.f5 Rows.advanceEndsSpec Rows.advanceEndsRow = true := by kernel_rfl
theorem c4 : (fun (P : Program) (f : FuncId) (fn : Func) (s : ChangeSpec) (c : OpenClaim) => (namedTie P c.named s.vars : Bool)) Tryz.pinned.checked.prog 5 Tryz.f5 Rows.advanceEndsSpec Rows.advanceEndsRow = true := by kernel_rfl
theorem c5 : (fun (P : Program) (f : FuncId) (fn : Func) (s : ChangeSpec) (c : OpenClaim) => ((c.stops == []) : Bool)) Tryz.pinned.checked.prog 5 Tryz.f5 Rows.advanceEndsSpec Rows.advanceEndsRow = true := by kernel_rfl
theorem c6 : (fun (P : Program) (f : FuncId) (fn : Func) (s : ChangeSpec) (c : OpenClaim) => ((P.stops == []) : Bool)) Tryz.pinned.checked.prog 5 Tryz.f5 Rows.advanceEndsSpec Rows.advanceEndsRow = true := by kernel_rfl
theorem c7 : (fun (P : Program) (f : FuncId) (fn : Func) (s : ChangeSpec) (c : OpenClaim) => ((c.knobs == []) : Bool)) Tryz.pinned.checked.prog 5 Tryz.f5 Rows.advanceEndsSpec Rows.advanceEndsRow = true := by kernel_rfl
theorem c8 : (fun (P : Program) (f : FuncId) (fn : Func) (s : ChangeSpec) (c : OpenClaim) => ((P.stopKnobs == []) : Bool)) Tryz.pinned.checked.prog 5 Tryz.f5 Rows.advanceEndsSpec Rows.advanceEndsRow = true := by kernel_rfl
theorem c9 : (fun (P : Program) (f : FuncId) (fn : Func) (s : ChangeSpec) (c : OpenClaim) => ((c.inPlace == P.inPlace f) : Bool)) Tryz.pinned.checked.prog 5 Tryz.f5 Rows.advanceEndsSpec Rows.advanceEndsRow = true := by kernel_rfl
theorem c10 : (fun (P : Program) (f : FuncId) (fn : Func) (s : ChangeSpec) (c : OpenClaim) => ((c.unfollowed == P.unfollowed f) : Bool)) Tryz.pinned.checked.prog 5 Tryz.f5 Rows.advanceEndsSpec Rows.advanceEndsRow = true := by kernel_rfl
theorem c11 : (fun (P : Program) (f : FuncId) (fn : Func) (s : ChangeSpec) (c : OpenClaim) => ((c.recurses == P.recurses f) : Bool)) Tryz.pinned.checked.prog 5 Tryz.f5 Rows.advanceEndsSpec Rows.advanceEndsRow = true := by kernel_rfl
theorem c12 : (fun (P : Program) (f : FuncId) (fn : Func) (s : ChangeSpec) (c : OpenClaim) => ((c.named == P.varsNamed f) : Bool)) Tryz.pinned.checked.prog 5 Tryz.f5 Rows.advanceEndsSpec Rows.advanceEndsRow = true := by kernel_rfl
theorem c13 : (fun (P : Program) (f : FuncId) (fn : Func) (s : ChangeSpec) (c : OpenClaim) => ((c.maps == (fn.params.toList ++ s.plain.varTypes P).any (P.mapsRec ·)) : Bool)) Tryz.pinned.checked.prog 5 Tryz.f5 Rows.advanceEndsSpec Rows.advanceEndsRow = true := by kernel_rfl
theorem c14 : (fun (P : Program) (f : FuncId) (fn : Func) (s : ChangeSpec) (c : OpenClaim) => ((c.ifaces == (fn.params.toList ++ s.plain.varTypes P).any (P.ifacesRec ·)) : Bool)) Tryz.pinned.checked.prog 5 Tryz.f5 Rows.advanceEndsSpec Rows.advanceEndsRow = true := by kernel_rfl
theorem c15 : (fun (P : Program) (f : FuncId) (fn : Func) (s : ChangeSpec) (c : OpenClaim) => ((c.mapsOut == P.mapsAmong fn.resultTypes.toList) : Bool)) Tryz.pinned.checked.prog 5 Tryz.f5 Rows.advanceEndsSpec Rows.advanceEndsRow = true := by kernel_rfl
theorem c16 : (fun (P : Program) (f : FuncId) (fn : Func) (s : ChangeSpec) (c : OpenClaim) => ((c.loops == (fn.params.toList ++ s.plain.varTypes P).any (P.loopsFrom ·)) : Bool)) Tryz.pinned.checked.prog 5 Tryz.f5 Rows.advanceEndsSpec Rows.advanceEndsRow = true := by kernel_rfl
theorem c17 : (fun (P : Program) (f : FuncId) (fn : Func) (s : ChangeSpec) (c : OpenClaim) => ((c.wideKeys == (fn.params.toList ++ s.plain.varTypes P ++ fn.resultTypes.toList).any (P.wideKeysFrom ·)) : Bool)) Tryz.pinned.checked.prog 5 Tryz.f5 Rows.advanceEndsSpec Rows.advanceEndsRow = true := by kernel_rfl
theorem c18 : (fun (P : Program) (f : FuncId) (fn : Func) (s : ChangeSpec) (c : OpenClaim) => (s.vars.all (P.varReadable ·) : Bool)) Tryz.pinned.checked.prog 5 Tryz.f5 Rows.advanceEndsSpec Rows.advanceEndsRow = true := by kernel_rfl
theorem c19 : (fun (P : Program) (f : FuncId) (fn : Func) (s : ChangeSpec) (c : OpenClaim) => (fn.resultTypes.all (fun t => P.readableRec t && decide (t < P.types.size)) : Bool)) Tryz.pinned.checked.prog 5 Tryz.f5 Rows.advanceEndsSpec Rows.advanceEndsRow = true := by kernel_rfl
theorem c20 : (fun (P : Program) (f : FuncId) (fn : Func) (s : ChangeSpec) (c : OpenClaim) => ((c.ifacesOut == fn.resultTypes.toList.any (P.ifacesRec ·)) : Bool)) Tryz.pinned.checked.prog 5 Tryz.f5 Rows.advanceEndsSpec Rows.advanceEndsRow = true := by kernel_rfl
theorem c21 : (fun (P : Program) (f : FuncId) (fn : Func) (s : ChangeSpec) (c : OpenClaim) => ((c.loopsOut == fn.resultTypes.toList.any (P.loopsFrom ·)) : Bool)) Tryz.pinned.checked.prog 5 Tryz.f5 Rows.advanceEndsSpec Rows.advanceEndsRow = true := by kernel_rfl
theorem c22 : (fun (P : Program) (f : FuncId) (fn : Func) (s : ChangeSpec) (c : OpenClaim) => ((c.plainKeys == P.plainKeys) : Bool)) Tryz.pinned.checked.prog 5 Tryz.f5 Rows.advanceEndsSpec Rows.advanceEndsRow = true := by kernel_rfl
theorem c23 : (fun (P : Program) (f : FuncId) (fn : Func) (s : ChangeSpec) (c : OpenClaim) => (c.shortTexts.isNone : Bool)) Tryz.pinned.checked.prog 5 Tryz.f5 Rows.advanceEndsSpec Rows.advanceEndsRow = true := by kernel_rfl
theorem c24 : (fun (P : Program) (f : FuncId) (fn : Func) (s : ChangeSpec) (c : OpenClaim) => (P.stopsHeard : Bool)) Tryz.pinned.checked.prog 5 Tryz.f5 Rows.advanceEndsSpec Rows.advanceEndsRow = true := by kernel_rfl
theorem c25 : (fun (P : Program) (f : FuncId) (fn : Func) (s : ChangeSpec) (c : OpenClaim) => (P.mayEnter : Bool)) Tryz.pinned.checked.prog 5 Tryz.f5 Rows.advanceEndsSpec Rows.advanceEndsRow = true := by kernel_rfl
theorem c26 : (fun (P : Program) (f : FuncId) (fn : Func) (s : ChangeSpec) (c : OpenClaim) => ((c.lifted == P.liftsFinal) : Bool)) Tryz.pinned.checked.prog 5 Tryz.f5 Rows.advanceEndsSpec Rows.advanceEndsRow = true := by kernel_rfl
theorem c27 : (fun (P : Program) (f : FuncId) (fn : Func) (s : ChangeSpec) (c : OpenClaim) => ((P.make == some c.make) : Bool)) Tryz.pinned.checked.prog 5 Tryz.f5 Rows.advanceEndsSpec Rows.advanceEndsRow = true := by kernel_rfl
theorem c28 : (fun (P : Program) (f : FuncId) (fn : Func) (s : ChangeSpec) (c : OpenClaim) => ((c.kinds == (if c.domain.isEmpty then [] else fn.params.toList.map fun t => match P.underlying t with | some (.int k) => some k | _ => none)) : Bool)) Tryz.pinned.checked.prog 5 Tryz.f5 Rows.advanceEndsSpec Rows.advanceEndsRow = true := by kernel_rfl
theorem c29 : (fun (P : Program) (f : FuncId) (fn : Func) (s : ChangeSpec) (c : OpenClaim) => ((c.pinned == c.pinnedBy) : Bool)) Tryz.pinned.checked.prog 5 Tryz.f5 Rows.advanceEndsSpec Rows.advanceEndsRow = true := by kernel_rfl
theorem c30 : (fun (P : Program) (f : FuncId) (fn : Func) (s : ChangeSpec) (c : OpenClaim) => ((c.veiled == (fn.params.toList ++ s.plain.varTypes P ++ fn.resultTypes.toList).any (P.veiledRec ·)) : Bool)) Tryz.pinned.checked.prog 5 Tryz.f5 Rows.advanceEndsSpec Rows.advanceEndsRow = true := by kernel_rfl
theorem c31 : (fun (P : Program) (f : FuncId) (fn : Func) (s : ChangeSpec) (c : OpenClaim) => (c.veiledFits P fn.params.toList (fn.params.toList ++ s.plain.varTypes P ++ fn.resultTypes.toList) : Bool)) Tryz.pinned.checked.prog 5 Tryz.f5 Rows.advanceEndsSpec Rows.advanceEndsRow = true := by kernel_rfl
theorem inst : Tryz.f5.isInstance Tryz.pinned.checked.prog Rows.advanceEndsRow.origin Rows.advanceEndsRow.targs := (of_decide_eq_true (by kernel_rfl))
theorem wrap : Tryz.f5.isWrapper Tryz.pinned.checked.prog Rows.advanceEndsRow.wrapper Rows.advanceEndsRow.mainSum := by unfold Func.isWrapper; first | (rw [if_pos (by decide +kernel)]; kernel_rfl) | (rw [if_neg (by decide +kernel)]; exact ⟨rfl, rfl⟩)
theorem nmd : Tryz.pinned.checked.prog.funcNamed Rows.advanceEndsRow.func = some 5 := by kernel_rfl
end Go.Proofs.YtbmajijnjkicmaaGreatDoor.advanceEnds




namespace Go.Proofs.YtbmajijnjkicmaaGreatDoor.advanceEnds
open Go.ChangeShapes Go.WideShapes Go.ChangeAt Go.RowKit
set_option linter.unusedVariables false

set_option maxRecDepth 100000 in
theorem closed : joinedFacts Tryz.pinned.checked.prog 5 Tryz.f5 Rows.advanceEndsSpec Rows.advanceEndsRow = true := (and2 (and2 (and2 (and2 (and2 (and2 (and2 (and2 (and2 (and2 (and2 (and2 (and2 (and2 (and2 (and2 (and2 (and2 (and2 (and2 (and2 (and2 (and2 (and2 (and2 (and2 (and2 (and2 (and2 (and2 (and2 c0 c1) c2) c3) c4) c5) c6) c7) c8) c9) c10) c11) c12) c13) c14) c15) c16) c17) c18) c19) c20) c21) c22) c23) c24) c25) c26) c27) c28) c29) c30) c31)
theorem over : Rows.advanceEndsRow.holds Tryz.pinned (OpenSpec.ofChange Rows.advanceEndsSpec) :=
  OpenClaim.holds_of_wide 5 Tryz.f5 rfl rfl rfl rfl rfl rfl rfl ⟨rfl, rfl, rfl, rfl, rfl⟩ rfl rfl rfl rfl rfl nmd Tryz.func5 closed inst wrap (fun os started H enc _ => lifted os started H enc)
end Go.Proofs.YtbmajijnjkicmaaGreatDoor.advanceEnds


