/- Texts of this claim, joined: PaxU, PaxL, Conv, StrK, TrLaw10S, BaE, In10, BaK, TrLaw10A, BaG, BaH, BallotAW. No condition. -/
import Derived.Test.YtmibmjehjagmbaaBoAJ1
import Derived.Test.YtmibmjehjagmbaaBoAJ2
import Derived.Test.YtmibmjehjagmbaaBoAJ3
import Derived.Test.YtmibmjehjagmbaaBoAJ5
import Derived.Test.YtmibmjehjagmbaaBoAJ6
import Derived.Lib.BufferRead
import Derived.Lib.SlBytesConst
import Derived.KernelRfl
set_option linter.unusedSimpArgs false
set_option linter.unusedVariables false
/- What a unit answers a proposer keeps Paxos's invariant. No condition. -/
namespace Go.Proofs.Ytmibmjehjagmbaa
open Go.Proofs.Ytmibmjehjagmbaa RX

abbrev UR.i1 (u : UR) : InstS := instAt u.s 1
abbrev UR.prom (u : UR) (r w : Int) : UR := { u with s := (promiseS 400 u.s u.ps 1 r w).2.2.2.2.1, ps := (promiseS 400 u.s u.ps 1 r w).2.2.2.2.2 }
abbrev UR.acc (u : UR) (r w : Int) (l : List UInt8) : UR := { u with s := (acceptS 400 u.s u.ps 1 r w l).2.1, ps := (acceptS 400 u.s u.ps 1 r w l).2.2 }
theorem inst_prom (s : USt) (r w : Int) : instAt (promS s 1 r w) 1 = { instAt s 1 with pr := r, pw := w } := by simp [instAt, promS, fput]
theorem inst_acc (s : USt) (r w : Int) (l : List UInt8) : instAt (accS s 1 r w l) 1 = ⟨r, w, r, w, l⟩ := by simp [instAt, accS, fput]
theorem lessB_bn {r w r' w' : Int} (hw : 0 ≤ w ∧ w < 1000000) (hw' : 0 ≤ w' ∧ w' < 1000000) : lessB r w r' w' = decide (bnN r w < bnN r' w') := by
  unfold lessB bnN
  by_cases h : r * 1000000 + w < r' * 1000000 + w'
  · rw [decide_eq_true h]
    by_cases h1 : r < r'
    · simp [h1]
    · have : r = r' ∧ w < w' := by omega
      simp [this]
  · rw [decide_eq_false h]
    have h1 : ¬ r < r' := by omega
    have h2 : ¬ (r = r' ∧ w < w') := by omega
    simp [h1]
    intro e
    omega
theorem prop_ok {r w : Int} (hr : 0 ≤ r ∧ r ≤ 1000000) (hw : 0 ≤ w ∧ w < 1000000) : propOk 1 r w = true := by
  unfold propOk numOk
  simp
  omega
/-- What a Promise leaves at a unit, and tells. -/
theorem prom_case (s : USt) (ps : List Pg) {r w : Int} (hr : 0 ≤ r ∧ r ≤ 1000000) (hw : 0 ≤ w ∧ w < 1000000) (hi : 0 ≤ (instAt s 1).pw ∧ (instAt s 1).pw < 1000000) :
    ((promiseS 400 s ps 1 r w).2.2.2.1 ≠ 0 ∧ (promiseS 400 s ps 1 r w).2.2.2.2.1 = s ∧ (promiseS 400 s ps 1 r w).2.2.1 = []) ∨
    (bnP (instAt s 1) ≤ bnN r w ∧ instAt (promiseS 400 s ps 1 r w).2.2.2.2.1 1 = { instAt s 1 with pr := r, pw := w } ∧ (promiseS 400 s ps 1 r w).1 = (instAt s 1).ar ∧ (promiseS 400 s ps 1 r w).2.1 = (instAt s 1).aw ∧ (promiseS 400 s ps 1 r w).2.2.1 = (instAt s 1).val) := by
  unfold promiseS
  rw [if_neg (by simp [prop_ok hr hw])]
  split
  · exact .inl ⟨by show (7 : Int) ≠ 0; decide, rfl, rfl⟩
  · rename_i h
    rw [lessB_bn hw hi, decide_eq_true_iff] at h
    split
    · rename_i h2
      refine .inr ⟨by unfold bnP; omega, ?_, rfl, rfl, rfl⟩
      show instAt s 1 = _
      rw [h2.1, h2.2]
    · split
      · exact .inl ⟨by show (4 : Int) ≠ 0; decide, rfl, rfl⟩
      · exact .inr ⟨by unfold bnP; omega, inst_prom .., rfl, rfl, rfl⟩
theorem acc_case (s : USt) (ps : List Pg) {r w : Int} (l : List UInt8) (hr : 0 ≤ r ∧ r ≤ 1000000) (hw : 0 ≤ w ∧ w < 1000000) (hi : 0 ≤ (instAt s 1).pw ∧ (instAt s 1).pw < 1000000) :
    ((acceptS 400 s ps 1 r w l).1 ≠ 0 ∧ (acceptS 400 s ps 1 r w l).2.1 = s) ∨ (bnP (instAt s 1) ≤ bnN r w ∧ instAt (acceptS 400 s ps 1 r w l).2.1 1 = ⟨r, w, r, w, l⟩) := by
  unfold acceptS
  rw [if_neg (by simp [prop_ok hr hw])]
  split
  · exact .inl ⟨by show (1 : Int) ≠ 0; decide, rfl⟩
  · split
    · exact .inl ⟨by show (7 : Int) ≠ 0; decide, rfl⟩
    · rename_i h
      rw [lessB_bn hw hi, decide_eq_true_iff] at h
      unfold lastS
      split
      · exact .inl ⟨by show (4 : Int) ≠ 0; decide, rfl⟩
      · exact .inr ⟨by unfold bnP; omega, inst_acc ..⟩
theorem set_back {α : Type} {l : List α} {k : Nat} {x : α} (h : l[k]? = some x) : l.set k x = l := by
  refine List.ext_getElem? fun j => ?_
  rw [List.getElem?_set]
  split
  · rename_i e; subst e
    rw [if_pos (List.getElem?_eq_some_iff.1 h).1]; exact h.symm
  · rfl
/-- Who may be asked at all: a proposer's values, and those of answers and units, are small, and were proposed. -/
structure PV (S : List UInt8 → Prop) (us : List InstS) (gs : List BSt) : Prop where
  g : ∀ x ∈ gs, S x.val
  small : ∀ v, S v → v.length ≤ 1000
  u : ∀ x ∈ us, x.val.length ≤ 1000
  a : ∀ x ∈ gs, ∀ y ∈ x.ans, y.2.val.length ≤ 1000
theorem PV.new {S : List UInt8 → Prop} (hs : ∀ v, S v → v.length ≤ 1000) {us : List InstS} (hz : ∀ u ∈ us, u = ⟨0, 0, 0, 0, []⟩) : PV S us [] :=
  ⟨(fun x h => by cases h), hs, (fun x hx => by rw [hz x hx]; simp), fun x h => by cases h⟩
theorem PV.more {S S' : List UInt8 → Prop} {us : List InstS} {gs : List BSt} (h : PV S us gs) (hs : ∀ v, S v → S' v) (hb : ∀ v, S' v → v.length ≤ 1000) : PV S' us gs := ⟨fun x hx => hs _ (h.g x hx), hb, h.u, h.a⟩
theorem PV.begin {S : List UInt8 → Prop} {us : List InstS} {gs : List BSt} (h : PV S us gs) {n : Nat} {r w : Int} {l : List UInt8} (hl : S l) : PV S us (gs ++ [startB n r w l]) :=
  ⟨(fun x hx => by
    rcases List.mem_append.1 hx with hx | hx
    · exact h.g x hx
    · simp at hx; subst hx; exact hl), h.small, h.u, fun x hx y hy => by
    rcases List.mem_append.1 hx with hx | hx
    · exact h.a x hx y hy
    · simp at hx; subst hx; cases hy⟩
theorem PV.setU {S : List UInt8 → Prop} {us : List InstS} {gs : List BSt} (h : PV S us gs) (k : Nat) {u : InstS} (hu : u.val.length ≤ 1000) : PV S (us.set k u) gs :=
  ⟨h.g, h.small, fun x hx => (List.mem_or_eq_of_mem_set hx).elim (h.u x) (fun e => e ▸ hu), h.a⟩
theorem PV.setG {S : List UInt8 → Prop} {us : List InstS} {gs : List BSt} (h : PV S us gs) (k : Nat) {g : BSt} (hg : S g.val) (ha : ∀ y ∈ g.ans, y.2.val.length ≤ 1000) : PV S us (gs.set k g) :=
  ⟨fun x hx => (List.mem_or_eq_of_mem_set hx).elim (h.g x) (fun e => e ▸ hg), h.small, h.u, fun x hx => (List.mem_or_eq_of_mem_set hx).elim (h.a x) (fun e => e ▸ ha)⟩
theorem PX.bound {n : Nat} {us : List InstS} {gs : List BSt} {V : Vt} (h : PX n us gs V) {i : Nat} {g : BSt} (hg : gs[i]? = some g) : g.ans.length ≤ n := by
  have hG := h.gg i g hg
  have h2 : ∀ x ∈ g.ans.map (·.1), 0 ≤ x ∧ x < (n : Int) := fun x hx => by
    obtain ⟨y, hy, rfl⟩ := List.mem_map.1 hx
    exact hG.rg y hy
  have h1 := hG.nd
  have e : g.ans.length = (g.ans.map (·.1)).length := by simp
  rw [e]
  generalize g.ans.map (·.1) = M at h1 h2
  have h3 : (M.map Int.toNat).Nodup := by
    induction M with
    | nil => exact List.nodup_nil
    | cons x M ih =>
      rw [List.nodup_cons] at h1
      rw [List.map_cons, List.nodup_cons]
      refine ⟨fun hm => ?_, ih h1.2 (fun y hy => h2 y (List.mem_cons_of_mem _ hy))⟩
      obtain ⟨y, hy, e⟩ := List.mem_map.1 hm
      have := h2 x (List.mem_cons_self ..)
      have := h2 y (List.mem_cons_of_mem _ hy)
      have : y = x := by omega
      exact h1.1 (this ▸ hy)
  have := nodup_lt_len n _ h3 fun a ha => by
    obtain ⟨y, hy, rfl⟩ := List.mem_map.1 ha
    have := h2 y hy
    omega
  rwa [List.length_map] at this
theorem map_set' {α β : Type} (f : α → β) (l : List α) (k : Nat) (x : α) : (l.set k x).map f = (l.map f).set k (f x) := by rw [List.map_set]
/-- A unit is asked to promise. -/
theorem PX.prom {n : Nat} {l : List UR} {gs : List BSt} {V : Vt} {S : List UInt8 → Prop} (h : PX n (l.map UR.i1) gs V) (hv : PV S (l.map UR.i1) gs) {k i : Nat} {u : UR} {g : BSt} (hu : l[k]? = some u) (hg : gs[i]? = some g) :
    PX n ((l.set k (u.prom g.rnd g.who)).map UR.i1) gs V ∧ PV S ((l.set k (u.prom g.rnd g.who)).map UR.i1) gs ∧ (promiseS 400 u.s u.ps 1 g.rnd g.who).2.2.1.length ≤ 1000 ∧
    (g.phase = 1 → (promiseS 400 u.s u.ps 1 g.rnd g.who).2.2.2.1 = 0 → AnP ((l.set k (u.prom g.rnd g.who)).map UR.i1) V (bnG g) ((k : Int), ⟨true, (promiseS 400 u.s u.ps 1 g.rnd g.who).1, (promiseS 400 u.s u.ps 1 g.rnd g.who).2.1, (promiseS 400 u.s u.ps 1 g.rnd g.who).2.2.1⟩)) := by
  have hG := h.gg i g hg
  have hum : (l.map UR.i1)[k]? = some u.i1 := by simp [hu]
  have hU := h.ub k _ hum
  have hul := hv.u _ (List.mem_of_getElem? hum)
  rw [map_set']
  rcases prom_case u.s u.ps hG.rnd hG.who hU.pw with ⟨h1, h2, h3⟩ | ⟨h1, h2, h3, h4, h5⟩
  · have e : UR.i1 (u.prom g.rnd g.who) = u.i1 := by show instAt (promiseS 400 u.s u.ps 1 g.rnd g.who).2.2.2.2.1 1 = _; rw [h2]
    rw [e, set_back hum]
    exact ⟨h, hv, by rw [h3]; simp, fun _ e => absurd e h1⟩
  · have e : UR.i1 (u.prom g.rnd g.who) = { u.i1 with pr := g.rnd, pw := g.who } := h2
    rw [e, h3, h4, h5]
    refine ⟨h.promise hum hG.rnd.1 hG.who h1, hv.setU k hul, hul, fun hp _ => ⟨hU.ar, hU.aw.1, hU.aw.2, fun u' hu' => ?_, fun c w hc _ => ?_, fun hn => ?_⟩⟩
    · have hlt := (List.getElem?_eq_some_iff.1 hum).1
      simp only [Int.toNat_natCast] at hu'
      rw [List.getElem?_set_self hlt] at hu'
      cases hu'
      exact Int.le_refl _
    · simp only [Int.toNat_natCast] at hc
      exact hU.top c w hc
    · simp only [Int.toNat_natCast]
      have hA : bnA u.i1 ≠ 0 := fun e => hn (by
        have h6 : 0 ≤ (instAt u.s 1).ar := hU.ar
        have h7 : 0 ≤ (instAt u.s 1).aw ∧ (instAt u.s 1).aw < 1000000 := hU.aw
        have h8 : (instAt u.s 1).ar * 1000000 + (instAt u.s 1).aw = 0 := e
        show (instAt u.s 1).ar = 0 ∧ (instAt u.s 1).aw = 0
        omega)
      have hvote := hU.last hA
      refine ⟨hvote, ?_⟩
      have hle : bnA u.i1 ≤ bnG g := Int.le_trans hU.le h1
      refine (Int.lt_or_eq_of_le hle).elim (fun h => h) fun e => ?_
      obtain ⟨_, _, _, j, g', hg', e1, e2, _⟩ := h.vt _ _ _ hvote
      have := h.gu j i g' g hg' hg (e1.trans e)
      subst this
      rw [hg] at hg'; cases hg'
      exact absurd hp e2
/-- A unit is asked to accept. -/
theorem PX.acc {n : Nat} {l : List UR} {gs : List BSt} {V : Vt} {S : List UInt8 → Prop} (h : PX n (l.map UR.i1) gs V) (hv : PV S (l.map UR.i1) gs) {k i : Nat} {u : UR} {g : BSt} (hu : l[k]? = some u) (hg : gs[i]? = some g) (h2 : g.phase = 2) :
    ∃ V', (∀ y ∈ V, y ∈ V') ∧ PX n ((l.set k (u.acc g.rnd g.who g.val)).map UR.i1) gs V' ∧ PV S ((l.set k (u.acc g.rnd g.who g.val)).map UR.i1) gs ∧
    ((acceptS 400 u.s u.ps 1 g.rnd g.who g.val).1 = 0 → (k, bnG g, g.val) ∈ V') := by
  have hG := h.gg i g hg
  have hum : (l.map UR.i1)[k]? = some u.i1 := by simp [hu]
  have hU := h.ub k _ hum
  rw [map_set']
  rcases acc_case u.s u.ps g.val hG.rnd hG.who hU.pw with ⟨h1, h3⟩ | ⟨h1, h3⟩
  · have e : UR.i1 (u.acc g.rnd g.who g.val) = u.i1 := by show instAt (acceptS 400 u.s u.ps 1 g.rnd g.who g.val).2.1 1 = _; rw [h3]
    rw [e, set_back hum]
    exact ⟨V, fun _ h => h, h, hv, fun e => absurd e h1⟩
  · have e : UR.i1 (u.acc g.rnd g.who g.val) = ⟨g.rnd, g.who, g.rnd, g.who, g.val⟩ := h3
    rw [e]
    exact ⟨_, fun _ h => List.mem_cons_of_mem _ h, h.vote hum hg h2 h1, hv.setU k (hv.small _ (hv.g g (List.mem_of_getElem? hg))), fun _ => List.mem_cons_self ..⟩
/-- .. and what the proposer takes of it. -/
theorem PX.took1 {n : Nat} {us : List InstS} {gs : List BSt} {V : Vt} {S : List UInt8 → Prop} (h : PX n us gs V) (hv : PV S us gs) {i : Nat} {g g' : BSt} (hg : gs[i]? = some g) (a : Nat) (r w : Int) (l : List UInt8) (e : Int) (hl : l.length ≤ 1000)
    (ha : g.phase = 1 → e = 0 → AnP us V (bnG g) ((a : Int), ⟨true, r, w, l⟩)) (hP : PromB g a r w l e g') : PX n us (gs.set i g') V ∧ PV S us (gs.set i g') := by
  have hx := h.promised hg a r w l e ha hP
  refine ⟨hx, ?_⟩
  have hmem := List.mem_of_getElem? hg
  have hG := h.gg i g hg
  unfold PromB at hP
  split at hP
  · rename_i hc
    obtain ⟨t, tm⟩ := takeB_took g a (promA r w l e)
    have hpl : (promA r w l e).val.length ≤ 1000 := by unfold promA; split <;> simp [hl]
    have hans : ∀ y ∈ (takeB g a (promA r w l e)).1.ans, y.2.val.length ≤ 1000 := fun y hy => by
      rw [t.ans] at hy
      rcases List.mem_append.1 hy with hy | hy
      · exact hv.a g hmem y hy
      · simp at hy; subst hy; exact hpl
    split at hP
    · obtain ⟨val, hch, rfl⟩ := hP
      refine hv.setG i ?_ (fun y hy => by cases hy)
      show S val
      obtain ⟨q1, q2, q3⟩ := asked_hasB hc.2
      have hok : GOk n us V (takeB g a (promA r w l e)).1 := t.ok hG q1 ⟨q2, by rw [← hG.acc]; exact q3⟩ (fun e1 ho => by
        unfold promA at ho ⊢
        split at ho
        · rename_i e0; rw [if_pos e0]; exact ha e1 e0
        · cases ho) (fun e2 ho => by rw [hc.1] at e2; cases e2) (by rw [hc.1]; decide)
      rename_i hm
      rcases hch with ⟨_, rfl⟩ | ⟨k, x, hk, hcx, rfl, _⟩
      · exact hv.g g hmem
      · obtain ⟨y, hy, e1, e2, e3, e4⟩ := ansF_mem hk
        have := (hok.p1 ((tm hm).2.2.trans hc.1) (k, y) hy (e1.trans hcx.1)).2.2.2.2.2 (by dsimp only; rw [e2, e3]; exact hcx.2)
        obtain ⟨_, _, _, j, gj, hj, _, _, hjv⟩ := h.vt _ _ _ this.1
        rw [← e4]
        dsimp only at hjv
        rw [← hjv]
        exact hv.g gj (List.mem_of_getElem? hj)
    · subst hP
      exact hv.setG i (by rw [t.val]; exact hv.g g hmem) hans
  · subst hP
    rw [set_back hg]; exact hv
theorem PX.took2 {n : Nat} {us : List InstS} {gs : List BSt} {V : Vt} {S : List UInt8 → Prop} (h : PX n us gs V) (hv : PV S us gs) {i : Nat} {g : BSt} (hg : gs[i]? = some g) (a : Nat) (e : Int) (ha : g.phase = 2 → e = 0 → (a, bnG g, g.val) ∈ V) :
    PX n us (gs.set i (accB g a e)) V ∧ PV S us (gs.set i (accB g a e)) := by
  refine ⟨h.accepted hg a e ha, ?_⟩
  have hmem := List.mem_of_getElem? hg
  have hans : ∀ y ∈ (takeB g a ⟨decide (e = 0), 0, 0, []⟩).1.ans, y.2.val.length ≤ 1000 := fun y hy => by
    rw [(takeB_took g a _).1.ans] at hy
    rcases List.mem_append.1 hy with hy | hy
    · exact hv.a g hmem y hy
    · simp at hy; subst hy; simp
  have hval : (takeB g a ⟨decide (e = 0), 0, 0, []⟩).1.val = g.val := (takeB_took g a _).1.val
  unfold accB
  split
  · split
    · exact hv.setG i (by show S (takeB g a ⟨decide (e = 0), 0, 0, []⟩).1.val; rw [hval]; exact hv.g g hmem) hans
    · exact hv.setG i (by rw [hval]; exact hv.g g hmem) hans
  · rw [set_back hg]; exact hv
theorem ChosB.more {n : Nat} {V V' : Vt} {b : Int} {v : List UInt8} (h : ChosB n V b v) (hs : ∀ y ∈ V, y ∈ V') : ChosB n V' b v := by
  obtain ⟨Q, a, b, c, d⟩ := h; exact ⟨Q, a, b, c, fun y hy => hs _ (d y hy)⟩
end Go.Proofs.Ytmibmjehjagmbaa

/- Paxos: a proposer whose asks are all answered ends. No condition. -/
namespace Go.Proofs.Ytmibmjehjagmbaa
open Go.Proofs.Ytmibmjehjagmbaa RX

/-- Where one that is always answered stands, by how often it has asked. -/
def LiveG (n t : Nat) (g : BSt) : Prop := g.acc = n ∧
  ((t < n / 2 + 1 ∧ g.phase = 1 ∧ g.agreed = t ∧ g.ans.map (·.1) = (List.range t).map fun (k : Nat) => (k : Int)) ∨
   (n / 2 + 1 ≤ t ∧ t < 2 * (n / 2 + 1) ∧ g.phase = 2 ∧ g.agreed = (t - (n / 2 + 1) : Nat) ∧ g.ans.map (·.1) = (List.range (t - (n / 2 + 1))).map fun (k : Nat) => (((n / 2 + 1 + k) % n : Nat) : Int)) ∨
   (2 * (n / 2 + 1) ≤ t ∧ g.phase = 3))
theorem live_start (n : Nat) (hn : 1 ≤ n) (r w : Int) (l : List UInt8) : LiveG n 0 (startB n r w l) := ⟨by show max (n : Int) 1 = n; omega, .inl ⟨by omega, rfl, rfl, rfl⟩⟩
theorem live_asked {n t : Nat} {g : BSt} (hn : 1 ≤ n ∧ n ≤ 4) (ht : t < 2 * n) (h : LiveG n t g) (hp : g.phase = 1 ∨ g.phase = 2) : askedB g ((t % n : Nat) : Int) = true := by
  obtain ⟨ha, h⟩ := h
  have hm : t % n < n := Nat.mod_lt _ (by omega)
  have key : ((t % n : Nat) : Int) ∉ g.ans.map (·.1) := by
    rcases h with ⟨h1, h2, h3, h4⟩ | ⟨h1, h2, h3, h4, h5⟩ | ⟨h1, h2⟩
    · rw [h4]
      intro hx
      obtain ⟨k, hk, e⟩ := List.mem_map.1 hx
      have := List.mem_range.1 hk
      have : t < n ∨ (n = 1 ∧ t = 0) ∨ (n = 2 ∧ t = 1) := by omega
      have e2 : t % n = t := Nat.mod_eq_of_lt (by omega)
      rw [e2] at e
      omega
    · rw [h5]
      intro hx
      obtain ⟨k, hk, e⟩ := List.mem_map.1 hx
      have hk := List.mem_range.1 hk
      have e : (n / 2 + 1 + k) % n = t % n := by omega
      have hn4 : n = 1 ∨ n = 2 ∨ n = 3 ∨ n = 4 := by omega
      rcases hn4 with rfl | rfl | rfl | rfl <;> omega
    · rcases hp with e | e <;> rw [h2] at e <;> cases e
  unfold askedB hasB
  rw [decide_eq_true ⟨hp, by omega, by rw [ha]; omega⟩, decide_eq_false key]
  rfl
theorem live_prom {n t : Nat} {g g' : BSt} (hn : 1 ≤ n ∧ n ≤ 4) (ht : t < 2 * n) (h : LiveG n t g) (hp : g.phase = 1) {r w : Int} {l : List UInt8} (hP : PromB g ((t % n : Nat) : Int) r w l 0 g') : LiveG n (t + 1) g' := by
  have hk := live_asked hn ht h (.inl hp)
  unfold PromB at hP
  rw [if_pos ⟨hp, hk⟩] at hP
  have e : promA r w l 0 = ⟨true, r, w, l⟩ := rfl
  rw [e] at hP
  obtain ⟨ha, h⟩ := h
  rcases h with ⟨h1, h2, h3, h4⟩ | ⟨_, _, h2, _⟩ | ⟨_, h2⟩
  · have e2 : t % n = t := Nat.mod_eq_of_lt (by omega)
    simp only [takeB, if_true] at hP
    by_cases hm : t + 1 < n / 2 + 1
    · rw [if_neg (by rw [ha, mostB_iff, h3]; omega)] at hP
      subst hP
      refine ⟨ha, .inl ⟨hm, hp, by show g.agreed + 1 = _; omega, ?_⟩⟩
      rw [List.range_succ, List.map_append, List.map_append, h4, e2]; rfl
    · rw [if_pos (by rw [ha, mostB_iff, h3]; omega)] at hP
      obtain ⟨val, _, rfl⟩ := hP
      exact ⟨ha, .inr (.inl ⟨by omega, by omega, rfl, by show (0 : Int) = _; omega, by rw [show t + 1 - (n / 2 + 1) = 0 by omega]; rfl⟩)⟩
  · rw [hp] at h2; cases h2
  · rw [hp] at h2; cases h2
theorem live_acc {n t : Nat} {g : BSt} (hn : 1 ≤ n ∧ n ≤ 4) (ht : t < 2 * n) (h : LiveG n t g) (hp : g.phase = 2) : LiveG n (t + 1) (accB g ((t % n : Nat) : Int) 0) := by
  have hk := live_asked hn ht h (.inr hp)
  unfold accB
  rw [if_pos ⟨hp, hk⟩]
  obtain ⟨ha, h⟩ := h
  rcases h with ⟨_, h2, _⟩ | ⟨h0, h1, h2, h3, h4⟩ | ⟨_, h2⟩
  · rw [hp] at h2; cases h2
  · simp only [takeB, decide_true, if_true]
    by_cases hm : t + 1 < 2 * (n / 2 + 1)
    · rw [if_neg (by rw [ha, mostB_iff, h3]; omega)]
      refine ⟨ha, .inr (.inl ⟨by omega, hm, hp, by show g.agreed + 1 = _; omega, ?_⟩)⟩
      rw [show t + 1 - (n / 2 + 1) = (t - (n / 2 + 1)) + 1 by omega, List.range_succ, List.map_append, List.map_append, h4]
      have e3 : n / 2 + 1 + (t - (n / 2 + 1)) = t := by omega
      simp only [List.map_cons, List.map_nil, e3]
    · rw [if_pos (by rw [ha, mostB_iff, h3]; omega)]
      exact ⟨ha, .inr (.inr ⟨by omega, rfl⟩)⟩
  · rw [hp] at h2; cases h2
theorem live_done {n t : Nat} {g : BSt} (h : LiveG n t g) (h1 : g.phase ≠ 1) (h2 : g.phase ≠ 2) : LiveG n (t + 1) g := by
  obtain ⟨ha, ⟨_, h, _⟩ | ⟨_, _, h, _⟩ | ⟨h3, h⟩⟩ := h
  · exact absurd h h1
  · exact absurd h h2
  · exact ⟨ha, .inr (.inr ⟨by omega, h⟩)⟩
theorem live_end {n : Nat} {g : BSt} (hn : 1 ≤ n) (h : LiveG n (2 * n) g) : g.phase = 3 := by
  obtain ⟨ha, ⟨h, _⟩ | ⟨_, h, _⟩ | ⟨h3, h⟩⟩ := h
  · omega
  · omega
  · exact h
theorem prom_len (u : UR) (r w : Int) : (u.prom r w).ps.length ≤ u.ps.length + 1 := by
  show (promiseS 400 u.s u.ps 1 r w).2.2.2.2.2.length ≤ _
  unfold promiseS
  split
  · exact Nat.le_succ _
  · split
    · exact Nat.le_succ _
    · split
      · exact Nat.le_succ _
      · split
        · exact Nat.le_succ _
        · simp
theorem acc_len (u : UR) (r w : Int) (l : List UInt8) : (u.acc r w l).ps.length ≤ u.ps.length + 1 := by
  show (acceptS 400 u.s u.ps 1 r w l).2.2.length ≤ _
  unfold acceptS
  split
  · exact Nat.le_succ _
  · split
    · exact Nat.le_succ _
    · split
      · exact Nat.le_succ _
      · unfold lastS
        split
        · exact Nat.le_succ _
        · simp
theorem prom_zero (u : UR) {r w : Int} (hr : 0 ≤ r ∧ r ≤ 1000000) (hw : 0 ≤ w ∧ w < 1000000) (hi : 0 ≤ u.i1.pw ∧ u.i1.pw < 1000000) (hle : bnP u.i1 ≤ bnN r w) (hps : u.ps.length < 400) : (promiseS 400 u.s u.ps 1 r w).2.2.2.1 = 0 := by
  unfold promiseS
  rw [if_neg (by simp [prop_ok hr hw]), lessB_bn hw hi, if_neg (by rw [decide_eq_true_iff]; exact Int.not_lt.2 hle)]
  split
  · rfl
  · rw [if_neg (by omega)]
theorem acc_zero (u : UR) {r w : Int} {l : List UInt8} (hl : l.length ≤ 1000) (hr : 0 ≤ r ∧ r ≤ 1000000) (hw : 0 ≤ w ∧ w < 1000000) (hi : 0 ≤ u.i1.pw ∧ u.i1.pw < 1000000) (hle : bnP u.i1 ≤ bnN r w) (hps : u.ps.length < 400) : (acceptS 400 u.s u.ps 1 r w l).1 = 0 := by
  unfold acceptS
  rw [if_neg (by simp [prop_ok hr hw]), if_neg (by omega), lessB_bn hw hi, if_neg (by rw [decide_eq_true_iff]; exact Int.not_lt.2 hle)]
  unfold lastS
  rw [if_neg (by omega)]
theorem prom_low (u : UR) {r w B : Int} (hr : 0 ≤ r ∧ r ≤ 1000000) (hw : 0 ≤ w ∧ w < 1000000) (hi : 0 ≤ u.i1.pw ∧ u.i1.pw < 1000000) (hu : bnP u.i1 ≤ B) (hb : bnN r w ≤ B) : bnP (u.prom r w).i1 ≤ B := by
  rcases prom_case u.s u.ps hr hw hi with ⟨_, h2, _⟩ | ⟨_, h2, _⟩
  · show bnP (instAt (promiseS 400 u.s u.ps 1 r w).2.2.2.2.1 1) ≤ B; rw [h2]; exact hu
  · show bnP (instAt (promiseS 400 u.s u.ps 1 r w).2.2.2.2.1 1) ≤ B; rw [h2]; exact hb
theorem acc_low (u : UR) {r w B : Int} (l : List UInt8) (hr : 0 ≤ r ∧ r ≤ 1000000) (hw : 0 ≤ w ∧ w < 1000000) (hi : 0 ≤ u.i1.pw ∧ u.i1.pw < 1000000) (hu : bnP u.i1 ≤ B) (hb : bnN r w ≤ B) : bnP (u.acc r w l).i1 ≤ B := by
  rcases acc_case u.s u.ps l hr hw hi with ⟨_, h2⟩ | ⟨_, h2⟩
  · show bnP (instAt (acceptS 400 u.s u.ps 1 r w l).2.1 1) ≤ B; rw [h2]; exact hu
  · show bnP (instAt (acceptS 400 u.s u.ps 1 r w l).2.1 1) ≤ B; rw [h2]; exact hb
/-- Units that a ballot is above of, and how full they are. -/
def LowU (B : Int) (k : Nat) (l : List UR) : Prop := ∀ u ∈ l, bnP u.i1 ≤ B ∧ u.ps.length ≤ k
theorem LowU.set {B : Int} {k : Nat} {l : List UR} (h : LowU B k l) {i : Nat} {u : UR} (h1 : bnP u.i1 ≤ B) (h2 : u.ps.length ≤ k + 1) : LowU B (k + 1) (l.set i u) := fun x hx => by
  rcases List.mem_or_eq_of_mem_set hx with hx | hx
  · exact ⟨(h x hx).1, Nat.le_succ_of_le (h x hx).2⟩
  · subst hx; exact ⟨h1, h2⟩
theorem LowU.more {B : Int} {k : Nat} {l : List UR} (h : LowU B k l) : LowU B (k + 1) l := fun x hx => ⟨(h x hx).1, Nat.le_succ_of_le (h x hx).2⟩
/-- Ballots by place. -/
def Bals (gs : List BSt) : Prop := ∀ (i : Nat) (g : BSt), gs[i]? = some g → g.rnd = 1 + (i : Int) / 2 ∧ g.who = i
theorem Bals.new : Bals [] := fun i g h => by simp at h
theorem Bals.begin {gs : List BSt} (h : Bals gs) (n : Int) (l : List UInt8) : Bals (gs ++ [startB n (1 + (gs.length : Int) / 2) gs.length l]) := fun j x hx => by
  by_cases hj : j < gs.length
  · rw [List.getElem?_append_left hj] at hx; exact h j x hx
  · rw [List.getElem?_append_right (by omega)] at hx
    have h0 : j - gs.length = 0 := by
      have := (List.getElem?_eq_some_iff.1 hx).1
      simp at this; omega
    rw [h0] at hx
    simp at hx
    have : j = gs.length := by omega
    subst this; subst hx
    exact ⟨rfl, rfl⟩
theorem Bals.differ {gs : List BSt} (h : Bals gs) (hl : gs.length ≤ 1000) : ∀ (i : Nat) (g : BSt), gs[i]? = some g → bnG g ≠ bnN (1 + (gs.length : Int) / 2) gs.length := fun i g hg => by
  have := h i g hg
  have := (List.getElem?_eq_some_iff.1 hg).1
  unfold bnG bnN
  omega
theorem Bals.below {gs : List BSt} (h : Bals gs) (hl : gs.length ≤ 1000) : ∀ (i : Nat) (g : BSt), gs[i]? = some g → bnG g < bnN 1000 0 := fun i g hg => by
  have := h i g hg
  have := (List.getElem?_eq_some_iff.1 hg).1
  unfold bnG bnN
  omega
theorem Bals.set {gs : List BSt} (h : Bals gs) {i : Nat} {g g' : BSt} (hg : gs[i]? = some g) (hr : g'.rnd = g.rnd) (hw : g'.who = g.who) : Bals (gs.set i g') := fun j x hx => by
  rw [List.getElem?_set] at hx
  split at hx
  · rename_i e; subst e
    split at hx
    · cases hx
      have := h i g hg
      exact ⟨hr.trans this.1, hw.trans this.2⟩
    · cases hx
  · exact h j x hx
theorem acc_bal (g : BSt) (f e : Int) : (accB g f e).rnd = g.rnd ∧ (accB g f e).who = g.who ∧ (accB g f e).val = g.val ∧ (accB g f e).acc = g.acc := by
  have t := (takeB_took g f ⟨decide (e = 0), 0, 0, []⟩).1
  unfold accB
  split
  · split
    · exact ⟨t.rnd, t.who, t.val, t.acc⟩
    · exact ⟨t.rnd, t.who, t.val, t.acc⟩
  · exact ⟨rfl, rfl, rfl, rfl⟩
theorem prom_bal {g g' : BSt} {f r w : Int} {l : List UInt8} {e : Int} (h : PromB g f r w l e g') : g'.rnd = g.rnd ∧ g'.who = g.who ∧ g'.acc = g.acc := by
  have t := (takeB_took g f (promA r w l e)).1
  unfold PromB at h
  split at h
  · split at h
    · obtain ⟨v, _, rfl⟩ := h; exact ⟨t.rnd, t.who, t.acc⟩
    · subst h; exact ⟨t.rnd, t.who, t.acc⟩
  · subst h; exact ⟨rfl, rfl, rfl⟩
end Go.Proofs.Ytmibmjehjagmbaa

/- Conversions of bytes: a constant's row is marked; bytes are read as a text. No condition. -/
namespace Go.Proofs.Ytmibmjehjagmbaa
open Go.Proofs.Ytmibmjehjagmbaa RX

def convS (s d : TypeId) (u : Value) : Sem Next := do pure (.value (← convert s d u))
theorem semW_conv {s d ty : TypeId} {i : Nat} {u : Value} : semW (.convert s d (.tmp i)) ty [(i, u)] = convS s d u := by simp [semW, execOp, arW, convS]
theorem run_conv_mark {P : Program} (w : World) (t e : TypeId) (C : Array Value) (n c b : Nat) (hb : w.heap[b]? = some (.cells C e (0, 0))) (ht : P.underlying t = some (.slice e)) (he : P.underlying e = some (.int .u8)) :
    (convert t t (.slice (some ⟨b, 0, none⟩) n c)).run P w = .ok (.slice (some ⟨b, 0, none⟩) n c) (w.freeze ⟨b, C.size, none⟩ 1) := by
  have hsh : w.shape? b = some (e, C.size) := by
    unfold World.shape?
    rw [hb]
  simp [convert, RX.run_underlying ht, RX.run_underlying he, markStringish, hsh]
/-- The row of a constant's bytes is let be read alone from here on. -/
theorem convC_ok (b : Nat) (l : List UInt8) (n c : Nat) (hn : n = l.length) : OTri Try.prog (convS 30 30 (.slice (some ⟨b, 0, none⟩) n c)) (HP.one b (.cells (l.map u8v).toArray 5 (0, 0)))
    (fun v => HP.and (v = .slice (some ⟨b, 0, none⟩) n c) (RoB (some ⟨b, 0, none⟩) n l)) := by
  subst hn
  have h1 : OTri Try.prog (convS 30 30 (.slice (some ⟨b, 0, none⟩) l.length c)) (HP.one b (.cells (l.map u8v).toArray 5 (0, 0)))
      (fun v => HP.and (v = .slice (some ⟨b, 0, none⟩) l.length c) (HP.one b (.cells (l.map u8v).toArray 5 ((l.map u8v).toArray.size, (l.map u8v).toArray.size + 1)))) := fun w R h F s a => by
    have hb := s.oh _ _ a
    have hfr : ∀ k, (w.freeze ⟨b, (l.map u8v).toArray.size, none⟩ 1).heap[k]? = if k = b then some (.cells (l.map u8v).toArray 5 ((l.map u8v).toArray.size, (l.map u8v).toArray.size + 1)) else w.heap[k]? := fun k => by
      unfold World.freeze
      rw [if_neg (by decide)]
      dsimp only
      rw [Array.getElem?_modify]
      by_cases h : k = b
      · subst h; rw [if_pos rfl, if_pos rfl, hb]; simp
      · rw [if_neg (fun e => h e.symm), if_neg h]
    have hsz : (w.freeze ⟨b, (l.map u8v).toArray.size, none⟩ 1).heap.size = w.heap.size := by
      unfold World.freeze
      rw [if_neg (by decide)]
      dsimp only
      rw [Array.size_modify]
    refine ⟨_, _, w.freeze ⟨b, (l.map u8v).toArray.size, none⟩ 1, by unfold convS; rw [Sem.run_bind, run_conv_mark w _ 5 _ _ c b hb Try.underlying30 Try.underlying5]; rfl, rfl, ⟨?_, ?_, ?_, ?_⟩, R, _, PH.le.refl _, s.turn a (y := .cells (l.map u8v).toArray 5 ((l.map u8v).toArray.size, (l.map u8v).toArray.size + 1)) (fun k hk => ?_) ?_, rfl, if_pos rfl⟩
    · unfold World.freeze; split <;> rfl
    · unfold World.freeze; split <;> rfl
    · unfold World.freeze; split <;> rfl
    · rw [hsz]; exact Nat.le_refl _
    · rw [hfr, if_neg hk]
    · rw [hfr, if_pos rfl]
  refine h1.post fun v R h d ⟨e, H⟩ => ?_
  obtain ⟨R', h', q1, q2, q3, q4, q5⟩ := HP.ent.share b _ R h d H
  exact ⟨R', h', q1, q2, q3, q4, e, by rw [List.length_map, Nat.mul_one], fun _ => ⟨b, 0, _, _, _, rfl, q5, by show ((l.map u8v).drop 0).take (l.map u8v).length = _; rw [List.drop_zero, List.take_length]⟩⟩
theorem convT_ok {S : HP} {a : Option Addr} {n c : Nat} {l : List UInt8} (r : RdL S a n (l.map u8v)) (hl : l.length = n) : ORead Try.prog (convS 30 9 (.slice a n c)) S (.string ⟨l.toArray⟩) := fun w R h F s H => by
  have key : (convert 30 9 (.slice a n c)).run Try.prog w = .ok (.string ⟨l.toArray⟩) w := by
    cases a with
    | none =>
      have h0 := r.none R h H rfl
      subst h0
      rw [List.length_eq_zero_iff.1 hl]
      exact Lib.run_convert_nil_bytes w _ _ 5 c Try.underlying30 Try.underlying5 Try.underlying9
    | some x =>
      subst hl
      refine run_convert_bytes_back w _ _ 5 x c l Try.underlying30 Try.underlying5 Try.underlying9 (fun j hj => ?_)
      obtain ⟨g, off, e, hc⟩ := r.rd w R h F s H j (u8v l[j]) (by simp [hj])
      cases e
      have hadd : (⟨g, off, none⟩ : Addr).add j = ⟨g, off + j, none⟩ := by unfold Addr.add; split <;> simp_all
      rw [hadd, hc]
      rfl
  unfold convS
  rw [Sem.run_bind, key]
  rfl
end Go.Proofs.Ytmibmjehjagmbaa

/- Maps whose keys are strings. No condition. -/
namespace Go.Proofs.Ytmibmjehjagmbaa
open Go.Proofs.Ytmibmjehjagmbaa RX

def sE (l : List UInt8) : Value := .string ⟨l.toArray⟩
theorem bytes_beq (a b : List UInt8) : ((⟨a.toArray⟩ : ByteArray) == ⟨b.toArray⟩) = decide (a = b) := by
  have : ((⟨a.toArray⟩ : ByteArray) == ⟨b.toArray⟩) = (a.toArray == b.toArray) := rfl
  rw [this]
  by_cases h : a = b
  · subst h; simp
  · simp [h]
theorem str_enc {P : Program} {kt : TypeId} (h : P.underlying kt = some .string) : KeyEnc P kt sE where
  check em k w := by
    unfold Instr.checkKey
    simp [run_underlying h, sE]
  find k l w := by
    unfold Instr.findKey
    have hn : ∀ (l : AL (List UInt8)) (i : Nat), Instr.findNow .string (sE k) (l.map (toE sE)) i = some (alIdx k l i) := by
      intro l
      induction l with
      | nil => intro i; rfl
      | cons x l ih =>
        intro i
        simp only [List.map_cons, Instr.findNow, toE, sE, Instr.sameNow, alIdx, bytes_beq]
        by_cases e : k = x.1
        · simp [e]
        · simp only [decide_eq_false e, if_neg e]
          exact ih (i + 1)
    simp only [Sem.run_bind, run_underlying h, Result.andThen, hn, Sem.run_pure]
  bits k := by simp [Instr.sameBits, sE, bytes_beq]
theorem alFind_put_self {κ : Type} [DecidableEq κ] (k : κ) (v : Value) (c : Nat) (l : AL κ) : alFind k (alPut k v c l) = some v := by
  rw [alFind_put, if_pos rfl]
theorem alFind_put_true (k k' : List UInt8) (c : Nat) (l : AL (List UInt8)) (h : alFind k l = some (.bool true)) : alFind k (alPut k' (.bool true) c l) = some (.bool true) := by
  rw [alFind_put]
  split
  · rfl
  · exact h
end Go.Proofs.Ytmibmjehjagmbaa

/- Trees of functions, printed by rx.lean. No condition. -/
namespace Go.Proofs.Ytmibmjehjagmbaa.RX
set_option maxRecDepth 100000
-- tideline/tidelinelaw10.speaks: ρ := []
def t_speaks10 : T :=
(.new
(.op (.convert 30 30 (.tmp 4)) 30 [(4, (.w (.a (.sl (.b (.v 0) 0) (.n 1) (.n 1)))))] [((.b (.v 0)), (.cells [(.int .u8 (.i 118))] 5))] [.a, .n, .n, .p] (.w (.a (.sl (.v 1) (.v 2) (.v 3)))) [((.a 1), (.prop 4))]
(.call 24 [(.a (.int .i64 (.i 3))), (.agg [(.int .i64 (.i 1)), (.int .i64 (.i 0))]), (.a (.sl (.v 1) (.v 2) (.v 3)))] [((.a 1), (.prop 4))] [.n, .p, .p] (.w (.a (.ptr (.v 5) 0))) [((.b (.v 5)), (.prop 6)), ((.a 1), (.prop 7))]
(.call 28 [(.a (.ptr (.v 5) 0)), (.a (.int .i64 (.i 0))), (.agg [(.int .i64 (.i 0)), (.int .i64 (.i 0))]), (.a (.sl .nil (.n 0) (.n 0))), (.a (.int .i64 (.i 0)))] [((.b (.v 5)), (.prop 6))] [.p] (.tup []) [((.b (.v 5)), (.prop 8))]
(.call 28 [(.a (.ptr (.v 5) 0)), (.a (.int .i64 (.i 2))), (.agg [(.int .i64 (.i 0)), (.int .i64 (.i 0))]), (.a (.sl .nil (.n 0) (.n 0))), (.a (.int .i64 (.i 0)))] [((.b (.v 5)), (.prop 8))] [.p] (.tup []) [((.b (.v 5)), (.prop 9))]
(.call 31 [(.a (.ptr (.v 5) 0)), (.a (.int .i64 (.i 1))), (.a (.int .i64 (.i 0)))] [((.b (.v 5)), (.prop 9))] [.p] (.tup []) [((.b (.v 5)), (.prop 10))]
(.call 31 [(.a (.ptr (.v 5) 0)), (.a (.int .i64 (.i 1))), (.a (.int .i64 (.i 0)))] [((.b (.v 5)), (.prop 10))] [.p] (.tup []) [((.b (.v 5)), (.prop 11))]
(.call 25 [(.a (.ptr (.v 5) 0))] [((.b (.v 5)), (.prop 11))] [.i] (.w (.a (.int .i64 (.v 12)))) [((.b (.v 5)), (.prop 11))]
(.call 31 [(.a (.ptr (.v 5) 0)), (.a (.int .i64 (.i 0))), (.a (.int .i64 (.i 0)))] [((.b (.v 5)), (.prop 11))] [.p] (.tup []) [((.b (.v 5)), (.prop 13))]
(.br (.o2 .eq (.v 12) (.i 2))
 (.call 25 [(.a (.ptr (.v 5) 0))] [((.b (.v 5)), (.prop 13))] [.i] (.w (.a (.int .i64 (.v 14)))) [((.b (.v 5)), (.prop 13))]
 (.br (.o2 .eq (.v 14) (.i 3))
  (.call 30 [(.a (.ptr (.v 5) 0))] [((.b (.v 5)), (.prop 13))] [.a, .n, .n, .p] (.w (.a (.sl (.v 15) (.v 16) (.v 17)))) [((.a 15), (.prop 18)), ((.b (.v 5)), (.prop 13))]
  (.read (.convert 30 9 (.tmp 30)) 9 [(30, (.w (.a (.sl (.v 15) (.v 16) (.v 17)))))] [((.a 15), (.prop 18))] [.s] (.w (.a (.str (.v 19))))
  (.ret (.w (.a (.bool (.o2 .seq (.v 19) (.s [118]))))) [])))
  (.ret (.w (.a (.bool (.c false)))) [])))
 (.ret (.w (.a (.bool (.c false)))) [])))))))))))
theorem tree_speaks10 : tree Try.prog { absT := [], opq := [], hv := [], keep := [25, 27, 30], link := [], ent := [], turn := [], shr := [], vt := [], mkd := [], rlink := [], pty := [], outl := true, stay := [], snk := [] } Try.f22 [] [] 0 = t_speaks10 := by kernel_rfl
end Go.Proofs.Ytmibmjehjagmbaa.RX

/- Law 10: what reads a proposer, as a whole; the document's example holds. No condition. -/
namespace Go.Proofs.Ytmibmjehjagmbaa
set_option linter.unusedSimpArgs false
set_option linter.unusedVariables false
open Go.Proofs.Ytmibmjehjagmbaa RX
set_option maxRecDepth 100000

theorem bPhaseR_ok (b : Nat) (g : BSt) : Tri Try.prog 25 #[.pointer (some ⟨b, 0, none⟩)] (BRep b g) (fun v => HP.and (v = .int .i64 g.phase) (BRep b g)) :=
  (BRep.tri (K := HP.tt) fun va vc mp hB => (bPhase_ok b g va vc mp (RoB va g.val.length g.val) (HP.sep (MapA mp g.ans) HP.tt)).weak (fun _ _ h => h) (B' := fun v => HP.and (v = .int .i64 g.phase) (BRep b g)) fun v R h ⟨e, H⟩ =>
    ⟨e, va, vc, mp, hB, HP.sep_mono H (fun _ h => h) fun y hy => HP.sep_mono hy (fun _ h => h) fun z hz => HP.sep_left hz⟩).weak (fun R h H => HP.sep_tt H) fun _ _ _ h => h
theorem bBallotR_ok (b : Nat) (g : BSt) : Tri Try.prog 27 #[.pointer (some ⟨b, 0, none⟩)] (BRep b g) (fun v => HP.and (v = .agg #[.int .i64 g.rnd, .int .i64 g.who]) (BRep b g)) :=
  (BRep.tri (K := HP.tt) fun va vc mp hB => (bBallot_ok b g va vc mp (RoB va g.val.length g.val) (HP.sep (MapA mp g.ans) HP.tt)).weak (fun _ _ h => h) (B' := fun v => HP.and (v = .agg #[.int .i64 g.rnd, .int .i64 g.who]) (BRep b g)) fun v R h ⟨e, H⟩ =>
    ⟨e, va, vc, mp, hB, HP.sep_mono H (fun _ h => h) fun y hy => HP.sep_mono hy (fun _ h => h) fun z hz => HP.sep_left hz⟩).weak (fun R h H => HP.sep_tt H) fun _ _ _ h => h
theorem bValueR_ok (b : Nat) (g : BSt) : Tri Try.prog 30 #[.pointer (some ⟨b, 0, none⟩)] (BRep b g) (fun v => HP.ex fun a => HP.ex fun c => HP.and (v = .slice a g.val.length c) (HP.sep (RoB a g.val.length g.val) (BRep b g))) :=
  (BRep.tri (K := HP.tt) fun va vc mp hB => (bValue_ok b g va vc mp (HP.sep (MapA mp g.ans) HP.tt) hB.2.2.2.2).weak (fun _ _ h => h) (B' := fun v => HP.ex fun a => HP.ex fun c => HP.and (v = .slice a g.val.length c) (HP.sep (RoB a g.val.length g.val) (BRep b g))) fun v R h ⟨a, c, e, H⟩ =>
    ⟨a, c, e, HP.sep_mono H (fun _ h => h) fun y hy => ⟨va, vc, mp, hB, HP.sep_mono hy (fun _ h => h) fun z hz => HP.sep_mono hz (fun _ h => h) fun q hq => HP.sep_left hq⟩⟩).weak (fun R h H => HP.sep_tt H) fun _ _ _ h => h
/-- An answer OK, and empty. -/
theorem bPromised0_ok (b : Nat) (g : BSt) (f : Int) (hL : ∀ x ∈ g.ans, x.2.val.length ≤ 140737488355328) (hlen : g.ans.length ≤ 100000) :
    Tri Try.prog 28 #[.pointer (some ⟨b, 0, none⟩), .int .i64 f, .agg #[.int .i64 0, .int .i64 0], .slice none 0 0, .int .i64 0] (BRep b g) (fun v => HP.ex fun g' => HP.and (v = .tuple #[] ∧ PromB g f 0 0 [] 0 g') (BRep b g')) :=
  (bPromised_ok b g f 0 0 0 none 0 [] (by simp) hL hlen).weak (fun R h H => RoC.joinR (RoC.nil _ _ R h) H) fun _ _ _ h => h
def g0x : BSt := ⟨3, 1, 0, [118], 1, [], 0⟩
def g1x : BSt := { g0x with ans := [(0, ⟨true, 0, 0, []⟩)], agreed := 1 }
def g2x : BSt := { g0x with phase := 2 }
theorem ex1 {g : BSt} (h : PromB g0x 0 0 0 [] 0 g) : g = g1x := by
  simpa [PromB, g0x, startB, askedB, hasB, takeB, promA, mostB, g1x] using h
theorem ex2 {g : BSt} (h : PromB g1x 2 0 0 [] 0 g) : g = g2x := by
  simp [PromB, g0x, g1x, startB, askedB, hasB, takeB, promA, mostB] at h
  obtain ⟨val, hc, rfl⟩ := h
  have : val = [118] := by
    rcases hc with ⟨_, e⟩ | ⟨k, x, hk, hx, _⟩
    · exact e
    · exfalso
      simp only [ansF] at hk
      split at hk
      · cases hk; exact hx.2 ⟨rfl, rfl⟩
      · split at hk
        · cases hk; exact hx.2 ⟨rfl, rfl⟩
        · cases hk
  subst this
  rfl
theorem speaks10_ok : Tri Try.prog 22 #[] HP.tt (fun v => HP.pure (v = .bool true)) := by
  refine tri_of_tree (ρ := []) mixed Try.func22 tree_speaks10 ?_
  unfold t_speaks10
  simp only [T.den, E.prop, E.den, RX.look, F1.app, F2.app, Uni.int_i, Uni.nat_n, Uni.bool_c, Uni.str_s, Uni.adr_a, Uni.val_v, Uni.hp_p, hden, cden, V.den, W.den, A.den, BR.den, SA.den, FV.den, capV, exs, exP, allP, Cur.app, List.map_cons, List.map_nil, List.cons_append, List.nil_append, List.drop_succ_cons, List.drop_zero, List.length_cons, List.length_nil, Nat.zero_add, Nat.reduceAdd, Int.neg_neg, Bool.not_not, List.append_nil, Nat.add_zero, List.getElem?_cons_zero, List.getElem?_cons_succ, Decidable.not_not, semW_eq, semW_load, semW_store, semW_storeC, semW_append, semW_lookup, semW_lookupC, semW_update, semW_updateC, semW_updateK, semW_delete, semW_range, semW_next, semW_entry, semW_nil, ne_eq, Nat.reduceEqDiff, not_false_eq_true, semW_conv]
  intro b0
  refine (convC_ok b0 [118] 1 1 rfl).weak (fun R h H => H) ?_
  rintro v R h ⟨rfl, H⟩
  refine ⟨_, _, _, RoB (some ⟨b0, 0, none⟩) 1 [118], rfl, ?_, H⟩
  clear H
  refine (bStart_ok 3 1 0 (by decide) (RoB (some ⟨b0, 0, none⟩) 1 [118]) _ 1 1 [118] (RdL.ro _ _ _ _) rfl (by decide)).weak (fun _ _ h => h) ?_
  rintro v R h ⟨b, rfl, H⟩
  refine ⟨b, BRep b g0x, RoB (some ⟨b0, 0, none⟩) 1 [118], rfl, ?_, HP.sep_comm H⟩
  clear H
  refine (bPromised0_ok b g0x 0 (fun x hx => by cases hx) (by decide)).weak (fun _ _ h => h) ?_
  rintro v R h ⟨g, ⟨rfl, hP⟩, H⟩
  obtain rfl := ex1 hP
  refine ⟨BRep b g1x, rfl, ?_, H⟩
  clear H
  refine (bPromised0_ok b g1x 2 (fun x hx => by simp [g1x] at hx; subst hx; simp) (by decide)).weak (fun _ _ h => h) ?_
  rintro v R h ⟨g, ⟨rfl, hP⟩, H⟩
  obtain rfl := ex2 hP
  refine ⟨BRep b g2x, rfl, ?_, H⟩
  clear H
  refine (bAccepted_ok b g2x 1 0 (by decide)).weak (fun _ _ h => h) ?_
  rintro v R h ⟨rfl, H⟩
  refine ⟨BRep b (accB g2x 1 0), rfl, ?_, H⟩
  clear H
  refine (bAccepted_ok b (accB g2x 1 0) 1 0 (by decide)).weak (fun _ _ h => h) ?_
  rintro v R h ⟨rfl, H⟩
  refine ⟨BRep b (accB (accB g2x 1 0) 1 0), rfl, ?_, H⟩
  clear H
  refine (bPhaseR_ok b _).weak (fun _ _ h => h) ?_
  rintro v R h ⟨rfl, H⟩
  refine ⟨_, rfl, ?_, H⟩
  clear H
  refine (bAccepted_ok b (accB (accB g2x 1 0) 1 0) 0 0 (by decide)).weak (fun _ _ h => h) ?_
  rintro v R h ⟨rfl, H⟩
  refine ⟨BRep b (accB (accB (accB g2x 1 0) 1 0) 0 0), rfl, ?_, H⟩
  clear H
  refine ⟨fun _ => ?_, fun h => absurd (by decide) h⟩
  refine (bPhaseR_ok b _).weak (fun _ _ h => h) ?_
  rintro v R h ⟨rfl, H⟩
  refine ⟨_, rfl, ?_, H⟩
  clear H
  refine ⟨fun _ => ?_, fun h => absurd (by decide) h⟩
  refine (bValueR_ok b _).weak (fun _ _ h => h) ?_
  rintro v R h ⟨a, c, rfl, H⟩
  have hv : (accB (accB (accB g2x 1 0) 1 0) 0 0).val = [118] := by decide
  rw [hv] at H ⊢
  refine ⟨a, 1, c, RoB a 1 [118], rfl, ?_, H⟩
  clear H
  exact ⟨[118], convT_ok (RdL.ro _ _ _ _) rfl, .of fun R h H => rfl⟩
end Go.Proofs.Ytmibmjehjagmbaa

/- What comes into law 10 No condition. -/
namespace Go.Proofs.Ytmibmjehjagmbaa
open Go.RowKit Go.ChangeShapes Go.WideShapes Go.Deep RX
set_option maxRecDepth 100000
set_option linter.unusedVariables false
set_option linter.unusedSimpArgs false

structure Step10 where
  new : Bool
  comes : Bool
  p : Int
  at_ : Int
  val : List UInt8
  vala : Option Addr
  valc : Nat
abbrev Step10.vals (x : Step10) : List Value := [.bool x.new, .bool x.comes, .int .i64 x.p, .int .i64 x.at_, .slice x.vala x.val.length x.valc]
def Step10.hp (x : Step10) : HP := HP.both (HP.pure (okI x.p)) (HP.both (HP.pure (okI x.at_)) (HP.and (x.val.length ≤ 140737488355328) (RoB x.vala x.val.length x.val)))
theorem Step10.pers (x : Step10) (R h h' : PH) (H : (x.hp).p R h) : (x.hp).p R h' := ⟨H.1, ⟨H.2.1, H.2.2⟩⟩
instance : Inhabited Step10 := ⟨⟨false, false, 0, 0, [], none, 0⟩⟩
def kStep10 : Kind Step10 := ⟨5, by decide, Step10.vals, fun _ => rfl, Step10.hp, Step10.pers⟩
theorem Step10.of_trod {H : Type} {enc : TypeId × Value → H} {w : World} {cs : List Value} {n : Nat} {x : DataW H × List MemPlace} (h : DataW.trod enc Try.prog w 0 (fun _ => true) true n 58 cs = some x) (hs : Small Try.prog 58 x.1) : ∃ m : Step10, cs = kStep10.vals m ∧ ∀ h, (kStep10.hp m).p (allOf w) h := by
  obtain ⟨xs0, n0, _, hx0, hl0, hxl0, hf0⟩ := DataW.trod_struct Try.underlying58 h
  replace hxl0 : xs0.length = 5 := hxl0
  have hs0 : Small Try.prog 58 (.agg (xs0.map (·.1))) := by
    have e := hx0
    first | (subst e; exact hs) | (rw [e] at hs; exact hs) | (have e2 := congrArg Prod.fst e; rw [← e2]; exact hs) | (rw [← e]; exact hs)
  obtain ⟨c0, e0⟩ := field_bool Try.underlying4 (show 0 < xs0.length by omega) (by kernel_rfl) (hf0 0 _ rfl)
  obtain ⟨c1, e1⟩ := field_bool Try.underlying4 (show 1 < xs0.length by omega) (by kernel_rfl) (hf0 1 _ rfl)
  obtain ⟨c2, e2, w2⟩ := field_int Try.underlying3 (show 2 < xs0.length by omega) (by kernel_rfl) (hf0 2 _ rfl)
  obtain ⟨c3, e3, w3⟩ := field_int Try.underlying3 (show 3 < xs0.length by omega) (by kernel_rfl) (hf0 3 _ rfl)
  obtain ⟨a4, l4, k4, e4⟩ := field_slice Try.underlying30 (show 4 < xs0.length by omega) (by kernel_rfl) (hf0 4 _ rfl)
  have q4 := hf0 4 _ rfl
  rw [List.getElem?_eq_getElem (show 4 < xs0.length by omega)] at q4
  have g4 : DataW.trod enc Try.prog w 0 (fun _ => true) true n0 30 [.slice a4 l4 k4] = some xs0[4] := by
    rw [← take1' e4]
    exact q4
  have s4 : Small Try.prog 30 xs0[4].1 := Small.part (i := 4) hs0 Try.underlying58 rfl (by rw [List.getElem?_map, List.getElem?_eq_getElem (show 4 < xs0.length by omega)]; rfl)
  obtain ⟨b4, d4, m4, r4, y4, z4⟩ := bytes_of_trod g4 s4
  simp only [Value.slice.injEq] at r4
  obtain ⟨rfl, rfl, rfl⟩ := r4
  have hlen : cs.length = 5 := hl0.trans (by kernel_rfl)
  refine ⟨⟨c0, c1, c2, c3, d4, a4, k4⟩, ?_, fun hh => ⟨int_wf w2, ⟨int_wf w3, ⟨y4, z4 hh⟩⟩⟩⟩
  clear h hl0 hf0 q4 g4 s4
  revert e0 e1 e2 e3 e4
  match cs, hlen with
  | [u0, u1, u2, u3, u4], _ =>
    intro e0
    obtain rfl : u0 = .bool c0 := Option.some.inj e0
    intro e1
    obtain rfl : u1 = .bool c1 := Option.some.inj e1
    intro e2
    obtain rfl : u2 = .int _ c2 := Option.some.inj e2
    intro e3
    obtain rfl : u3 = .int _ c3 := Option.some.inj e3
    intro e4
    obtain rfl : u4 = .slice a4 d4.length k4 := Option.some.inj e4
    rfl
theorem Step10.load {a : Option Addr} {n : Nat} {l : List Step10} {k : Nat} {x : Step10} (hk : l[k]? = some x) : ORead Try.prog (loadS 58 (.pointer (a.map fun y => (y.add ((k : Int).toNat * 5)).add 0))) (Ls kStep10 a n l) (.agg x.vals.toArray) := by
  obtain ⟨d, hd⟩ : ∃ d, Try.prog.underlying 58 = some d := Option.isSome_iff_exists.1 (by kernel_rfl)
  exact Ls.load (K := kStep10) hd (by kernel_rfl) (by kernel_rfl) hk

end Go.Proofs.Ytmibmjehjagmbaa

/- Units and proposers in lists of pointers. No condition. -/
namespace Go.Proofs.Ytmibmjehjagmbaa
open Go.Proofs.Ytmibmjehjagmbaa RX

def kU : PK UR := ⟨26, 1, by decide, fun u => [u.ptr], fun _ => rfl, fun u x hx => by simp at hx; subst hx; rfl, UR.hp⟩
abbrev PB := Nat × BSt
def kB : PK PB := ⟨59, 1, by decide, fun x => [.pointer (some ⟨x.1, 0, none⟩)], fun _ => rfl, fun u x hx => by simp at hx; subst hx; rfl, fun x => BRep x.1 x.2⟩
theorem undBp : Try.prog.underlying 59 = some (.pointer 130) := by kernel_rfl
theorem aggB : aggT Try.prog 59 = false := by kernel_rfl
theorem szB : szT Try.prog 59 = 1 := by kernel_rfl
theorem undBs : Try.prog.underlying 55 = some (.slice 59) := by kernel_rfl
theorem infoBp : (Try.prog.info? 59).map (fun i => (i.zero, i.size, i.bytes)) = some (some (.pointer none), 1, 8) := by kernel_rfl
theorem appendUk (a : Option Addr) (n c : Nat) (l : List UR) (b : Nat) (x : UR) (Q : HP) (hb : n ≤ 1000000000) :
    OTri Try.prog (appS 52 52 (.slice a n c) (.slice (some ⟨b, 0, none⟩) 1 1)) (HP.sep (PL kU a n c l) (HP.sep (HP.one b (.cells #[x.ptr] 26 (0, 0))) (HP.sep x.hp Q)))
      (fun v => HP.ex fun a' => HP.ex fun c' => HP.and (v = .slice a' (n + 1) c') (HP.sep (PL kU a' (n + 1) c' (l ++ [x])) Q)) := by
  obtain ⟨i, hi, h1, h2, h3⟩ := info_parts infoU
  exact PL.app (K := kU) _ _ undUs hi h1 (by rw [h2]; rfl) h2 (by rw [h3]; decide) a n c l b x Q hb
theorem appendB (a : Option Addr) (n c : Nat) (l : List PB) (b : Nat) (x : PB) (Q : HP) (hb : n ≤ 1000000000) :
    OTri Try.prog (appS 55 55 (.slice a n c) (.slice (some ⟨b, 0, none⟩) 1 1)) (HP.sep (PL kB a n c l) (HP.sep (HP.one b (.cells #[.pointer (some ⟨x.1, 0, none⟩)] 59 (0, 0))) (HP.sep (BRep x.1 x.2) Q)))
      (fun v => HP.ex fun a' => HP.ex fun c' => HP.and (v = .slice a' (n + 1) c') (HP.sep (PL kB a' (n + 1) c' (l ++ [x])) Q)) := by
  obtain ⟨i, hi, h1, h2, h3⟩ := info_parts infoBp
  exact PL.app (K := kB) _ _ undBs hi h1 (by rw [h2]; rfl) h2 (by rw [h3]; decide) a n c l b x Q hb
set_option maxRecDepth 100000 in
theorem loadUk {a : Option Addr} {n c : Nat} {l : List UR} {k : Nat} {x : UR} (hk : l[k]? = some x) :
    OTri Try.prog (loadS 26 (.pointer (a.map fun y => (y.add (k * 1)).add 0))) (PL kU a n c l) (fun v => HP.and (v = x.ptr) (HP.sep x.hp (PRest kU a n c l k))) := PL.load1 undU aggU szU rfl rfl hk
theorem loadB {a : Option Addr} {n c : Nat} {l : List PB} {k : Nat} {x : PB} (hk : l[k]? = some x) :
    OTri Try.prog (loadS 59 (.pointer (a.map fun y => (y.add (k * 1)).add 0))) (PL kB a n c l) (fun v => HP.and (v = .pointer (some ⟨x.1, 0, none⟩)) (HP.sep (BRep x.1 x.2) (PRest kB a n c l k))) := by
  exact PL.load1 (K := kB) undBp aggB szB rfl rfl hk
theorem undMs : Try.prog.underlying 56 = some (.map 9 4) := by kernel_rfl
theorem sK : KeyEnc Try.prog 9 sE := str_enc (by kernel_rfl)
theorem newU_i1 (ub bd : Nat) : (newU ub bd).i1 = ⟨0, 0, 0, 0, []⟩ := rfl
theorem infoBool : (Try.prog.info? 4).map (fun i => (i.zero, i.size, i.bytes)) = some (some (.bool false), 1, 1) := by kernel_rfl
theorem OTri.pre' {P : Program} {o : Sem Next} {A A' : HP} {B : Value → HP} (t : OTri P o A B) (e : HP.ent A' A) : OTri P o A' B := t.conseq (K := HP.tt) (e.trans (.of fun _ _ H => HP.sep_tt H)) fun _ => .of fun _ _ H => HP.sep_left H
theorem Tri.preE' {P : Program} {f : FuncId} {args : Array Value} {A A' : HP} {B : Value → HP} (t : Tri P f args A B) (e : HP.ent A' A) : Tri P f args A' B := t.conseq (K := HP.tt) (e.trans (.of fun _ _ H => HP.sep_tt H)) fun _ => .of fun _ _ H => HP.sep_left H
theorem pickIx' (p : Int) {n : Nat} (h : n ≠ 0) : ∃ k : Nat, k < n ∧ (p % 65536).tmod (n : Int) = k := by
  refine ⟨(p % 65536).toNat % n, Nat.mod_lt _ (by omega), ?_⟩
  have : (p % 65536) = ((p % 65536).toNat : Int) := (Int.toNat_of_nonneg (by omega)).symm
  rw [this]
  rw [Int.toNat_natCast]
  exact Int.ofNat_tmod _ _
end Go.Proofs.Ytmibmjehjagmbaa

/- Trees of functions, printed by rx.lean. No condition. -/
namespace Go.Proofs.Ytmibmjehjagmbaa.RX
set_option maxRecDepth 100000
-- tideline/tidelinelaw10.BallotAlone: ρ := [.i acceptors, .a stepsa, .n stepsl, .n stepsc, .p stepsP, .a lasta, .n lastl, .n lastc, .p lastP]
def t_ballotAlone : T :=
(.call 22 [] [] [.c] (.w (.a (.bool (.v 9)))) []
(.br (.o1 .not (.v 9))
 (.ret (.w (.a (.bool (.c false)))) [((.a 1), (.prop 4)), ((.a 5), (.prop 8))])
 (.br (.o2 .lt (.i 100) (.o1 .ofNat (.v 2)))
  (.ret (.w (.a (.bool (.c true)))) [((.a 1), (.prop 4)), ((.a 5), (.prop 8))])
  (.br (.o2 .lt (.i 100) (.o1 .ofNat (.v 6)))
   (.ret (.w (.a (.bool (.c true)))) [((.a 1), (.prop 4)), ((.a 5), (.prop 8))])
   (.need (.o1 (.inr .i64) (.o2 .add (.o2 (.bit .and .i64) (.v 0) (.i 3)) (.i 1)))
   (.new
   (.new
   (.loop [.c, .i, .a, .n, .n, .p] [(.e (.o1 .not (.o1 .not (.c false)))), (.e (.o1 .neg (.o1 .neg (.i 0)))), (.a (.b (.v 10) 0)), (.e (.o2 .nadd (.n 0) (.n 0))), (.e (.o2 .nadd (.n 0) (.n 0))), (.p [((.b (.v 10)), (.cells [] 26))])]
    (.br (.o2 .lt (.v 13) (.o2 .add (.o2 (.bit .and .i64) (.v 0) (.i 3)) (.i 1)))
     (.call 23 [(.a (.int .i64 (.i 400)))] [] [.n, .p, .i] (.tup [(.a (.ptr (.v 18) 0)), (.a (.int .i64 (.v 20)))]) [((.b (.v 18)), (.prop 19))]
     (.call 17 [(.a (.ptr (.v 18) 0))] [((.b (.v 18)), (.prop 19))] [.n, .p, .i, .p] (.tup [(.a (.ptr (.v 21) 0)), (.a (.int .i64 (.v 23)))]) [((.b (.v 21)), (.prop 22)), ((.b (.v 18)), (.prop 24))]
     (.br (.o1 .not (.o2 .eq (.v 23) (.i 0)))
      (.ret (.w (.a (.bool (.c false)))) [((.a 1), (.prop 4)), ((.a 5), (.prop 8))])
      (.new
      (.op (.call ⟨.builtin .append, #[(.tmp 58), (.tmp 60)], #[52, 52]⟩) 52 [(58, (.w (.a (.sl (.v 14) (.v 15) (.v 16))))), (60, (.w (.a (.sl (.b (.v 25) 0) (.n 1) (.n 1)))))] [((.a 14), (.prop 17)), ((.b (.v 25)), (.cells [(.ptr (.v 21) 0)] 26)), ((.b (.v 21)), (.prop 22)), ((.b (.v 18)), (.prop 24))] [.a, .n, .n, .p] (.w (.a (.sl (.v 26) (.v 27) (.v 28)))) [((.a 26), (.prop 29))]
      (.need (.o1 (.inr .i64) (.o2 .add (.v 13) (.i 1)))
      (.again 0 [(.e (.o1 .not (.o1 .not (.v 12)))), (.e (.o1 .neg (.o1 .neg (.o2 .add (.v 13) (.i 1))))), (.a (.v 26)), (.e (.o2 .nadd (.v 27) (.n 0))), (.e (.o2 .nadd (.v 28) (.n 0))), (.p [((.a 26), (.prop 29))])])))))))
     (.new
     (.new
     (.new
     (.loop [.c, .a, .n, .n, .i, .p, .c, .s, .a, .n, .n, .p, .p] [(.e (.o1 .not (.o1 .not (.v 12)))), (.a (.b (.v 20) 0)), (.e (.o2 .nadd (.n 0) (.n 0))), (.e (.o2 .nadd (.n 0) (.n 0))), (.e (.o1 .neg (.o1 .neg (.i 0)))), (.p [((.b (.v 20)), (.cells [] 59))]), (.e (.o1 .not (.o1 .not (.c false)))), (.e (.o2 .cat (.s []) (.s []))), (.a (.v 14)), (.e (.o2 .nadd (.v 15) (.n 0))), (.e (.o2 .nadd (.v 16) (.n 0))), (.p [((.a 14), (.prop 17))]), (.p [((.a 1), (.prop 4))])]
      (.br (.o2 .lt (.v 25) (.o1 .ofNat (.v 2)))
       (.need (.o2 .le (.i 0) (.v 25))
       (.need (.o1 .isSome (.v 1))
       (.read (.load 58 (.tmp 68)) 58 [(68, (.w (.a (.eptr 1 (.v 25) 5 0))))] [((.a 1), (.prop 33))] [.c, .c, .i, .i, .a, .n, .n] (.w (.agg [(.bool (.v 34)), (.bool (.v 35)), (.int .i64 (.v 36)), (.int .i64 (.v 37)), (.sl (.v 38) (.v 39) (.v 40))]))
       (.new
       (.br (.o2 .lt (.i 100) (.o1 .ofNat (.v 39)))
        (.ret (.w (.a (.bool (.c true)))) [((.a 1), (.prop 33)), ((.a 5), (.prop 8))])
        (.br (.v 34)
         (.need (.o1 (.inr .i64) (.o2 .quo (.o1 .ofNat (.v 23)) (.i 2)))
         (.need (.o1 (.inr .i64) (.o2 .add (.i 1) (.o2 .quo (.o1 .ofNat (.v 23)) (.i 2))))
         (.call 24 [(.a (.int .i64 (.o2 .add (.o2 (.bit .and .i64) (.v 0) (.i 3)) (.i 1)))), (.agg [(.int .i64 (.o2 .add (.i 1) (.o2 .quo (.o1 .ofNat (.v 23)) (.i 2)))), (.int .i64 (.o1 .ofNat (.v 23)))]), (.a (.sl (.v 38) (.v 39) (.v 40)))] [((.a 1), (.prop 33))] [.n, .p, .p] (.w (.a (.ptr (.v 42) 0))) [((.b (.v 42)), (.prop 43)), ((.a 1), (.prop 44))]
         (.new
         (.op (.call ⟨.builtin .append, #[(.tmp 81), (.tmp 93)], #[55, 55]⟩) 55 [(81, (.w (.a (.sl (.v 22) (.v 23) (.v 24))))), (93, (.w (.a (.sl (.b (.v 45) 0) (.n 1) (.n 1)))))] [((.a 22), (.prop 26)), ((.b (.v 45)), (.cells [(.ptr (.v 42) 0)] 59)), ((.b (.v 42)), (.prop 43))] [.a, .n, .n, .p] (.w (.a (.sl (.v 46) (.v 47) (.v 48)))) [((.a 46), (.prop 49))]
         (.join [.a, .n, .n, .p, .c, .s, .p]
          (.need (.o1 .not (.o2 .eq (.o1 .ofNat (.v 47)) (.i 0)))
          (.need (.o2 .le (.i 0) (.o2 .rem (.o2 (.bit .and .i64) (.v 36) (.i 65535)) (.o1 .ofNat (.v 47))))
          (.need (.o2 .lt (.o2 .rem (.o2 (.bit .and .i64) (.v 36) (.i 65535)) (.o1 .ofNat (.v 47))) (.o1 .ofNat (.v 47)))
          (.need (.o1 .isSome (.v 46))
          (.need (.o1 .not (.o2 .eq (.o2 .add (.o2 (.bit .and .i64) (.v 0) (.i 3)) (.i 1)) (.i 0)))
          (.op (.load 59 (.tmp 103)) 59 [(103, (.w (.a (.eptr 46 (.o2 .rem (.o2 (.bit .and .i64) (.v 36) (.i 65535)) (.o1 .ofNat (.v 47))) 1 0))))] [((.a 46), (.prop 49))] [.n, .p, .p] (.w (.a (.ptr (.v 50) 0))) [((.b (.v 50)), (.prop 51)), ((.a 46), (.prop 52))]
          (.call 32 [(.a (.ptr (.v 50) 0)), (.a (.int .i64 (.o2 .rem (.o2 (.bit .and .i64) (.v 37) (.i 65535)) (.o2 .add (.o2 (.bit .and .i64) (.v 0) (.i 3)) (.i 1))))), (.a (.ptr (.v 11) 0)), (.a (.ptr (.v 19) 0)), (.a (.ptr (.v 18) 0))] [((.b (.v 50)), (.prop 51)), ((.b (.v 11)), (.cells [(.sl (.v 29) (.v 30) (.v 31))] 52)), ((.a 29), (.prop 32)), ((.b (.v 19)), (.cells [(.bool (.v 27))] 4)), ((.b (.v 18)), (.cells [(.str (.v 28))] 9))] [.p, .a, .n, .n, .p, .c, .s] (.tup []) [((.b (.v 50)), (.prop 53)), ((.b (.v 11)), (.cells [(.sl (.v 54) (.v 55) (.v 56))] 52)), ((.a 54), (.prop 57)), ((.b (.v 19)), (.cells [(.bool (.v 58))] 4)), ((.b (.v 18)), (.cells [(.str (.v 59))] 9))]
          (.again 0 [(.a (.v 54)), (.e (.o2 .nadd (.v 55) (.n 0))), (.e (.o2 .nadd (.v 56) (.n 0))), (.p [((.a 54), (.prop 57))]), (.e (.o1 .not (.o1 .not (.v 58)))), (.e (.o2 .cat (.v 59) (.s []))), (.p [((.a 46), (.prop 52)), ((.b (.v 50)), (.prop 53))])]))))))))
         (.need (.o1 (.inr .i64) (.o2 .add (.v 25) (.i 1)))
         (.again 0 [(.e (.o1 .not (.o1 .not (.v 21)))), (.a (.v 46)), (.e (.o2 .nadd (.v 47) (.n 0))), (.e (.o2 .nadd (.v 48) (.n 0))), (.e (.o1 .neg (.o1 .neg (.o2 .add (.v 25) (.i 1))))), (.p [((.a 46), (.prop 56))]), (.e (.o1 .not (.o1 .not (.v 54)))), (.e (.o2 .cat (.v 55) (.s []))), (.a (.v 50)), (.e (.o2 .nadd (.v 51) (.n 0))), (.e (.o2 .nadd (.v 52) (.n 0))), (.p [((.a 50), (.prop 53))]), (.p [((.a 1), (.prop 44))])]))))))))
         (.br (.o2 .eq (.o1 .ofNat (.v 23)) (.i 0))
          (.need (.o1 (.inr .i64) (.o2 .quo (.o1 .ofNat (.v 23)) (.i 2)))
          (.need (.o1 (.inr .i64) (.o2 .add (.i 1) (.o2 .quo (.o1 .ofNat (.v 23)) (.i 2))))
          (.call 24 [(.a (.int .i64 (.o2 .add (.o2 (.bit .and .i64) (.v 0) (.i 3)) (.i 1)))), (.agg [(.int .i64 (.o2 .add (.i 1) (.o2 .quo (.o1 .ofNat (.v 23)) (.i 2)))), (.int .i64 (.o1 .ofNat (.v 23)))]), (.a (.sl (.v 38) (.v 39) (.v 40)))] [((.a 1), (.prop 33))] [.n, .p, .p] (.w (.a (.ptr (.v 42) 0))) [((.b (.v 42)), (.prop 43)), ((.a 1), (.prop 44))]
          (.new
          (.op (.call ⟨.builtin .append, #[(.tmp 81), (.tmp 93)], #[55, 55]⟩) 55 [(81, (.w (.a (.sl (.v 22) (.v 23) (.v 24))))), (93, (.w (.a (.sl (.b (.v 45) 0) (.n 1) (.n 1)))))] [((.a 22), (.prop 26)), ((.b (.v 45)), (.cells [(.ptr (.v 42) 0)] 59)), ((.b (.v 42)), (.prop 43))] [.a, .n, .n, .p] (.w (.a (.sl (.v 46) (.v 47) (.v 48)))) [((.a 46), (.prop 49))]
          (.join [.a, .n, .n, .p, .c, .s, .p]
           (.need (.o1 .not (.o2 .eq (.o1 .ofNat (.v 47)) (.i 0)))
           (.need (.o2 .le (.i 0) (.o2 .rem (.o2 (.bit .and .i64) (.v 36) (.i 65535)) (.o1 .ofNat (.v 47))))
           (.need (.o2 .lt (.o2 .rem (.o2 (.bit .and .i64) (.v 36) (.i 65535)) (.o1 .ofNat (.v 47))) (.o1 .ofNat (.v 47)))
           (.need (.o1 .isSome (.v 46))
           (.need (.o1 .not (.o2 .eq (.o2 .add (.o2 (.bit .and .i64) (.v 0) (.i 3)) (.i 1)) (.i 0)))
           (.op (.load 59 (.tmp 103)) 59 [(103, (.w (.a (.eptr 46 (.o2 .rem (.o2 (.bit .and .i64) (.v 36) (.i 65535)) (.o1 .ofNat (.v 47))) 1 0))))] [((.a 46), (.prop 49))] [.n, .p, .p] (.w (.a (.ptr (.v 50) 0))) [((.b (.v 50)), (.prop 51)), ((.a 46), (.prop 52))]
           (.call 32 [(.a (.ptr (.v 50) 0)), (.a (.int .i64 (.o2 .rem (.o2 (.bit .and .i64) (.v 37) (.i 65535)) (.o2 .add (.o2 (.bit .and .i64) (.v 0) (.i 3)) (.i 1))))), (.a (.ptr (.v 11) 0)), (.a (.ptr (.v 19) 0)), (.a (.ptr (.v 18) 0))] [((.b (.v 50)), (.prop 51)), ((.b (.v 11)), (.cells [(.sl (.v 29) (.v 30) (.v 31))] 52)), ((.a 29), (.prop 32)), ((.b (.v 19)), (.cells [(.bool (.v 27))] 4)), ((.b (.v 18)), (.cells [(.str (.v 28))] 9))] [.p, .a, .n, .n, .p, .c, .s] (.tup []) [((.b (.v 50)), (.prop 53)), ((.b (.v 11)), (.cells [(.sl (.v 54) (.v 55) (.v 56))] 52)), ((.a 54), (.prop 57)), ((.b (.v 19)), (.cells [(.bool (.v 58))] 4)), ((.b (.v 18)), (.cells [(.str (.v 59))] 9))]
           (.again 0 [(.a (.v 54)), (.e (.o2 .nadd (.v 55) (.n 0))), (.e (.o2 .nadd (.v 56) (.n 0))), (.p [((.a 54), (.prop 57))]), (.e (.o1 .not (.o1 .not (.v 58)))), (.e (.o2 .cat (.v 59) (.s []))), (.p [((.a 46), (.prop 52)), ((.b (.v 50)), (.prop 53))])]))))))))
          (.need (.o1 (.inr .i64) (.o2 .add (.v 25) (.i 1)))
          (.again 0 [(.e (.o1 .not (.o1 .not (.v 21)))), (.a (.v 46)), (.e (.o2 .nadd (.v 47) (.n 0))), (.e (.o2 .nadd (.v 48) (.n 0))), (.e (.o1 .neg (.o1 .neg (.o2 .add (.v 25) (.i 1))))), (.p [((.a 46), (.prop 56))]), (.e (.o1 .not (.o1 .not (.v 54)))), (.e (.o2 .cat (.v 55) (.s []))), (.a (.v 50)), (.e (.o2 .nadd (.v 51) (.n 0))), (.e (.o2 .nadd (.v 52) (.n 0))), (.p [((.a 50), (.prop 53))]), (.p [((.a 1), (.prop 44))])]))))))))
          (.need (.o2 .le (.i 0) (.o2 .rem (.o2 (.bit .and .i64) (.v 36) (.i 65535)) (.o1 .ofNat (.v 23))))
          (.need (.o2 .lt (.o2 .rem (.o2 (.bit .and .i64) (.v 36) (.i 65535)) (.o1 .ofNat (.v 23))) (.o1 .ofNat (.v 23)))
          (.need (.o1 .isSome (.v 22))
          (.need (.o1 .not (.o2 .eq (.o2 .add (.o2 (.bit .and .i64) (.v 0) (.i 3)) (.i 1)) (.i 0)))
          (.op (.load 59 (.tmp 103)) 59 [(103, (.w (.a (.eptr 22 (.o2 .rem (.o2 (.bit .and .i64) (.v 36) (.i 65535)) (.o1 .ofNat (.v 23))) 1 0))))] [((.a 22), (.prop 26))] [.n, .p, .p] (.w (.a (.ptr (.v 42) 0))) [((.b (.v 42)), (.prop 43)), ((.a 22), (.prop 44))]
          (.call 32 [(.a (.ptr (.v 42) 0)), (.a (.int .i64 (.o2 .rem (.o2 (.bit .and .i64) (.v 37) (.i 65535)) (.o2 .add (.o2 (.bit .and .i64) (.v 0) (.i 3)) (.i 1))))), (.a (.ptr (.v 11) 0)), (.a (.ptr (.v 19) 0)), (.a (.ptr (.v 18) 0))] [((.b (.v 42)), (.prop 43)), ((.b (.v 11)), (.cells [(.sl (.v 29) (.v 30) (.v 31))] 52)), ((.a 29), (.prop 32)), ((.b (.v 19)), (.cells [(.bool (.v 27))] 4)), ((.b (.v 18)), (.cells [(.str (.v 28))] 9))] [.p, .a, .n, .n, .p, .c, .s] (.tup []) [((.b (.v 42)), (.prop 45)), ((.b (.v 11)), (.cells [(.sl (.v 46) (.v 47) (.v 48))] 52)), ((.a 46), (.prop 49)), ((.b (.v 19)), (.cells [(.bool (.v 50))] 4)), ((.b (.v 18)), (.cells [(.str (.v 51))] 9))]
          (.need (.o1 (.inr .i64) (.o2 .add (.v 25) (.i 1)))
          (.again 0 [(.e (.o1 .not (.o1 .not (.v 21)))), (.a (.v 22)), (.e (.o2 .nadd (.v 23) (.n 0))), (.e (.o2 .nadd (.v 24) (.n 0))), (.e (.o1 .neg (.o1 .neg (.o2 .add (.v 25) (.i 1))))), (.p [((.a 22), (.prop 44)), ((.b (.v 42)), (.prop 45))]), (.e (.o1 .not (.o1 .not (.v 50)))), (.e (.o2 .cat (.v 51) (.s []))), (.a (.v 46)), (.e (.o2 .nadd (.v 47) (.n 0))), (.e (.o2 .nadd (.v 48) (.n 0))), (.p [((.a 46), (.prop 49))]), (.p [((.a 1), (.prop 33))])])))))))))))))))
       (.call 24 [(.a (.int .i64 (.o2 .add (.o2 (.bit .and .i64) (.v 0) (.i 3)) (.i 1)))), (.agg [(.int .i64 (.i 1000)), (.int .i64 (.i 0))]), (.a (.sl (.v 5) (.v 6) (.v 7)))] [((.a 5), (.prop 8))] [.n, .p, .p] (.w (.a (.ptr (.v 34) 0))) [((.b (.v 34)), (.prop 35)), ((.a 5), (.prop 36))]
       (.loop [.i, .p, .c, .s, .a, .n, .n, .p] [(.e (.o1 .neg (.o1 .neg (.i 0)))), (.p [((.b (.v 34)), (.prop 35))]), (.e (.o1 .not (.o1 .not (.v 27)))), (.e (.o2 .cat (.v 28) (.s []))), (.a (.v 29)), (.e (.o2 .nadd (.v 30) (.n 0))), (.e (.o2 .nadd (.v 31) (.n 0))), (.p [((.a 29), (.prop 32))])]
        (.need (.o1 (.inr .i64) (.o2 .mul (.i 2) (.o2 .add (.o2 (.bit .and .i64) (.v 0) (.i 3)) (.i 1))))
        (.br (.o2 .lt (.v 37) (.o2 .mul (.i 2) (.o2 .add (.o2 (.bit .and .i64) (.v 0) (.i 3)) (.i 1))))
         (.need (.o1 .not (.o2 .eq (.o2 .add (.o2 (.bit .and .i64) (.v 0) (.i 3)) (.i 1)) (.i 0)))
         (.call 32 [(.a (.ptr (.v 34) 0)), (.a (.int .i64 (.o2 .rem (.v 37) (.o2 .add (.o2 (.bit .and .i64) (.v 0) (.i 3)) (.i 1))))), (.a (.ptr (.v 11) 0)), (.a (.ptr (.v 19) 0)), (.a (.ptr (.v 18) 0))] [((.b (.v 34)), (.prop 38)), ((.b (.v 11)), (.cells [(.sl (.v 41) (.v 42) (.v 43))] 52)), ((.a 41), (.prop 44)), ((.b (.v 19)), (.cells [(.bool (.v 39))] 4)), ((.b (.v 18)), (.cells [(.str (.v 40))] 9))] [.p, .a, .n, .n, .p, .c, .s] (.tup []) [((.b (.v 34)), (.prop 45)), ((.b (.v 11)), (.cells [(.sl (.v 46) (.v 47) (.v 48))] 52)), ((.a 46), (.prop 49)), ((.b (.v 19)), (.cells [(.bool (.v 50))] 4)), ((.b (.v 18)), (.cells [(.str (.v 51))] 9))]
         (.need (.o1 (.inr .i64) (.o2 .add (.v 37) (.i 1)))
         (.again 0 [(.e (.o1 .neg (.o1 .neg (.o2 .add (.v 37) (.i 1))))), (.p [((.b (.v 34)), (.prop 45))]), (.e (.o1 .not (.o1 .not (.v 50)))), (.e (.o2 .cat (.v 51) (.s []))), (.a (.v 46)), (.e (.o2 .nadd (.v 47) (.n 0))), (.e (.o2 .nadd (.v 48) (.n 0))), (.p [((.a 46), (.prop 49))])]))))
         (.call 25 [(.a (.ptr (.v 34) 0))] [((.b (.v 34)), (.prop 38))] [.i] (.w (.a (.int .i64 (.v 45)))) [((.b (.v 34)), (.prop 38))]
         (.br (.o2 .eq (.v 45) (.i 3))
          (.br (.o1 .not (.v 27))
           (.ret (.w (.a (.bool (.c true)))) [((.a 1), (.prop 33)), ((.a 5), (.prop 36))])
           (.call 30 [(.a (.ptr (.v 34) 0))] [((.b (.v 34)), (.prop 38))] [.a, .n, .n, .p] (.w (.a (.sl (.v 46) (.v 47) (.v 48)))) [((.a 46), (.prop 49)), ((.b (.v 34)), (.prop 38))]
           (.read (.convert 30 9 (.tmp 138)) 9 [(138, (.w (.a (.sl (.v 46) (.v 47) (.v 48)))))] [((.a 46), (.prop 49))] [.s] (.w (.a (.str (.v 50))))
           (.ret (.w (.a (.bool (.o2 .seq (.v 50) (.v 28))))) [((.a 1), (.prop 33)), ((.a 5), (.prop 36))]))))
          (.ret (.w (.a (.bool (.c false)))) [((.a 1), (.prop 33)), ((.a 5), (.prop 36))])))))))))))))))))))))
theorem tree_ballotAlone : tree Try.prog { absT := [], opq := [], hv := [(0, [(.b (.v 10)), (.b (.v 11))]), (2, [(.b (.v 20)), (.b (.v 19)), (.b (.v 18)), (.b (.v 11)), (.a 14), (.a 1)]), (4, [(.b (.v 34)), (.b (.v 19)), (.b (.v 18)), (.b (.v 11)), (.a 29)])], keep := [25, 27, 30], link := [(17, 0)], ent := [], turn := [], shr := [], vt := [], mkd := [], rlink := [], pty := [], outl := true, stay := [], snk := [], jn := [((95, 50), some { ss := [.a, .n, .n, .p, .c, .s, .p], n := 57, tv := [(95, none), (96, none), (97, none), (98, none), (99, none), (100, none), (101, none), (102, none), (103, none), (104, none), (105, none), (106, none), (107, none), (108, none), (109, none), (110, none)], h := [((.b (.v 11)), (.cells [(.sl (.v 50) (.v 51) (.v 52))] 52)), ((.a 50), (.prop 53)), ((.b (.v 19)), (.cells [(.bool (.v 54))] 4)), ((.b (.v 18)), (.cells [(.str (.v 55))] 9)), ((.a 46), (.prop 56)), ((.a 1), (.prop 44)), ((.b (.v 41)), (.cells [(.bool (.v 34)), (.bool (.v 35)), (.int .i64 (.v 36)), (.int .i64 (.v 37)), (.sl (.v 38) (.v 39) (.v 40))] 58)), ((.a 5), (.prop 8))], lk := [] })] } Try.f5 [(.a (.int .i64 (.v 0))), (.a (.sl (.v 1) (.v 2) (.v 3))), (.a (.sl (.v 5) (.v 6) (.v 7)))] [((.a 1), (.prop 4)), ((.a 5), (.prop 8))] 9 = t_ballotAlone := by kernel_rfl
-- tideline/tidelinelaw10.BallotAlone$1: ρ := [.n p, .p pP, .i a, .n units, .a unitsa, .n unitsl, .n unitsc, .p unitsP, .n any, .c any, .n chosen, .s chosen]
def t_askA : T :=
(.call 25 [(.a (.ptr (.v 0) 0))] [((.b (.v 0)), (.prop 1))] [.i] (.w (.a (.int .i64 (.v 12)))) [((.b (.v 0)), (.prop 1))]
(.br (.o2 .eq (.v 12) (.i 1))
 (.join [.n, .a, .n, .n, .i, .i, .i, .p, .p]
  (.need (.o2 .le (.i 0) (.v 2))
  (.need (.o2 .lt (.v 2) (.o1 .ofNat (.v 5)))
  (.need (.o1 .isSome (.v 4))
  (.all
   (.op (.load 26 (.tmp 16)) 26 [(16, (.w (.a (.eptr 4 (.v 2) 1 0))))] [((.a 4), (.prop 7))] [.n, .p, .p] (.w (.a (.ptr (.v 13) 0))) [((.b (.v 13)), (.prop 14)), ((.a 4), (.prop 15))]
   (.all
    (.call 27 [(.a (.ptr (.v 0) 0))] [((.b (.v 0)), (.prop 1))] [.i, .i] (.w (.agg [(.int .i64 (.v 16)), (.int .i64 (.v 17))])) [((.b (.v 0)), (.prop 1))]
    (.all
     (.call 26 [(.a (.ptr (.v 13) 0)), (.a (.int .i64 (.i 1))), (.agg [(.int .i64 (.v 16)), (.int .i64 (.v 17))])] [((.b (.v 13)), (.prop 14))] [.i, .i, .a, .n, .n, .p, .i, .p] (.tup [(.agg [(.int .i64 (.v 18)), (.int .i64 (.v 19))]), (.a (.sl (.v 20) (.v 21) (.v 22))), (.a (.int .i64 (.v 24)))]) [((.a 20), (.prop 23)), ((.b (.v 13)), (.prop 25))]
     (.new
     (.again 0 [(.n (.v 26)), (.a (.v 20)), (.e (.o2 .nadd (.v 21) (.n 0))), (.e (.o2 .nadd (.v 22) (.n 0))), (.e (.o1 .neg (.o1 .neg (.v 24)))), (.e (.o1 .neg (.o1 .neg (.v 18)))), (.e (.o1 .neg (.o1 .neg (.v 19)))), (.p [((.a 20), (.prop 23))]), (.p [((.a 4), (.prop 15)), ((.b (.v 13)), (.prop 25))])])))
     (.new
     (.call 26 [(.a (.ptr (.v 13) 0)), (.a (.int .i64 (.i 1))), (.agg [(.int .i64 (.v 16)), (.int .i64 (.v 17))])] [((.b (.v 13)), (.prop 14))] [.i, .i, .a, .n, .n, .p, .i, .p] (.tup [(.agg [(.int .i64 (.v 19)), (.int .i64 (.v 20))]), (.a (.sl (.v 21) (.v 22) (.v 23))), (.a (.int .i64 (.v 25)))]) [((.a 21), (.prop 24)), ((.b (.v 13)), (.prop 26))]
     (.again 0 [(.n (.v 18)), (.a (.v 21)), (.e (.o2 .nadd (.v 22) (.n 0))), (.e (.o2 .nadd (.v 23) (.n 0))), (.e (.o1 .neg (.o1 .neg (.v 25)))), (.e (.o1 .neg (.o1 .neg (.v 19)))), (.e (.o1 .neg (.o1 .neg (.v 20)))), (.p [((.a 21), (.prop 24))]), (.p [((.a 4), (.prop 15)), ((.b (.v 13)), (.prop 26))])])))))
    (.new
    (.call 27 [(.a (.ptr (.v 0) 0))] [((.b (.v 0)), (.prop 1))] [.i, .i] (.w (.agg [(.int .i64 (.v 17)), (.int .i64 (.v 18))])) [((.b (.v 0)), (.prop 1))]
    (.call 26 [(.a (.ptr (.v 13) 0)), (.a (.int .i64 (.i 1))), (.agg [(.int .i64 (.v 17)), (.int .i64 (.v 18))])] [((.b (.v 13)), (.prop 14))] [.i, .i, .a, .n, .n, .p, .i, .p] (.tup [(.agg [(.int .i64 (.v 19)), (.int .i64 (.v 20))]), (.a (.sl (.v 21) (.v 22) (.v 23))), (.a (.int .i64 (.v 25)))]) [((.a 21), (.prop 24)), ((.b (.v 13)), (.prop 26))]
    (.again 0 [(.n (.v 16)), (.a (.v 21)), (.e (.o2 .nadd (.v 22) (.n 0))), (.e (.o2 .nadd (.v 23) (.n 0))), (.e (.o1 .neg (.o1 .neg (.v 25)))), (.e (.o1 .neg (.o1 .neg (.v 19)))), (.e (.o1 .neg (.o1 .neg (.v 20)))), (.p [((.a 21), (.prop 24))]), (.p [((.a 4), (.prop 15)), ((.b (.v 13)), (.prop 26))])]))))))
   (.all
    (.call 27 [(.a (.ptr (.v 0) 0))] [((.b (.v 0)), (.prop 1))] [.i, .i] (.w (.agg [(.int .i64 (.v 13)), (.int .i64 (.v 14))])) [((.b (.v 0)), (.prop 1))]
    (.all
     (.op (.load 26 (.tmp 16)) 26 [(16, (.w (.a (.eptr 4 (.v 2) 1 0))))] [((.a 4), (.prop 7))] [.n, .p, .p] (.w (.a (.ptr (.v 15) 0))) [((.b (.v 15)), (.prop 16)), ((.a 4), (.prop 17))]
     (.all
      (.call 26 [(.a (.ptr (.v 15) 0)), (.a (.int .i64 (.i 1))), (.agg [(.int .i64 (.v 13)), (.int .i64 (.v 14))])] [((.b (.v 15)), (.prop 16))] [.i, .i, .a, .n, .n, .p, .i, .p] (.tup [(.agg [(.int .i64 (.v 18)), (.int .i64 (.v 19))]), (.a (.sl (.v 20) (.v 21) (.v 22))), (.a (.int .i64 (.v 24)))]) [((.a 20), (.prop 23)), ((.b (.v 15)), (.prop 25))]
      (.new
      (.again 0 [(.n (.v 26)), (.a (.v 20)), (.e (.o2 .nadd (.v 21) (.n 0))), (.e (.o2 .nadd (.v 22) (.n 0))), (.e (.o1 .neg (.o1 .neg (.v 24)))), (.e (.o1 .neg (.o1 .neg (.v 18)))), (.e (.o1 .neg (.o1 .neg (.v 19)))), (.p [((.a 20), (.prop 23))]), (.p [((.a 4), (.prop 17)), ((.b (.v 15)), (.prop 25))])])))
      (.new
      (.call 26 [(.a (.ptr (.v 15) 0)), (.a (.int .i64 (.i 1))), (.agg [(.int .i64 (.v 13)), (.int .i64 (.v 14))])] [((.b (.v 15)), (.prop 16))] [.i, .i, .a, .n, .n, .p, .i, .p] (.tup [(.agg [(.int .i64 (.v 19)), (.int .i64 (.v 20))]), (.a (.sl (.v 21) (.v 22) (.v 23))), (.a (.int .i64 (.v 25)))]) [((.a 21), (.prop 24)), ((.b (.v 15)), (.prop 26))]
      (.again 0 [(.n (.v 18)), (.a (.v 21)), (.e (.o2 .nadd (.v 22) (.n 0))), (.e (.o2 .nadd (.v 23) (.n 0))), (.e (.o1 .neg (.o1 .neg (.v 25)))), (.e (.o1 .neg (.o1 .neg (.v 19)))), (.e (.o1 .neg (.o1 .neg (.v 20)))), (.p [((.a 21), (.prop 24))]), (.p [((.a 4), (.prop 17)), ((.b (.v 15)), (.prop 26))])])))))
     (.new
     (.op (.load 26 (.tmp 16)) 26 [(16, (.w (.a (.eptr 4 (.v 2) 1 0))))] [((.a 4), (.prop 7))] [.n, .p, .p] (.w (.a (.ptr (.v 16) 0))) [((.b (.v 16)), (.prop 17)), ((.a 4), (.prop 18))]
     (.call 26 [(.a (.ptr (.v 16) 0)), (.a (.int .i64 (.i 1))), (.agg [(.int .i64 (.v 13)), (.int .i64 (.v 14))])] [((.b (.v 16)), (.prop 17))] [.i, .i, .a, .n, .n, .p, .i, .p] (.tup [(.agg [(.int .i64 (.v 19)), (.int .i64 (.v 20))]), (.a (.sl (.v 21) (.v 22) (.v 23))), (.a (.int .i64 (.v 25)))]) [((.a 21), (.prop 24)), ((.b (.v 16)), (.prop 26))]
     (.again 0 [(.n (.v 15)), (.a (.v 21)), (.e (.o2 .nadd (.v 22) (.n 0))), (.e (.o2 .nadd (.v 23) (.n 0))), (.e (.o1 .neg (.o1 .neg (.v 25)))), (.e (.o1 .neg (.o1 .neg (.v 19)))), (.e (.o1 .neg (.o1 .neg (.v 20)))), (.p [((.a 21), (.prop 24))]), (.p [((.a 4), (.prop 18)), ((.b (.v 16)), (.prop 26))])]))))))
    (.new
    (.all
     (.op (.load 26 (.tmp 16)) 26 [(16, (.w (.a (.eptr 4 (.v 2) 1 0))))] [((.a 4), (.prop 7))] [.n, .p, .p] (.w (.a (.ptr (.v 14) 0))) [((.b (.v 14)), (.prop 15)), ((.a 4), (.prop 16))]
     (.call 27 [(.a (.ptr (.v 0) 0))] [((.b (.v 0)), (.prop 1))] [.i, .i] (.w (.agg [(.int .i64 (.v 17)), (.int .i64 (.v 18))])) [((.b (.v 0)), (.prop 1))]
     (.call 26 [(.a (.ptr (.v 14) 0)), (.a (.int .i64 (.i 1))), (.agg [(.int .i64 (.v 17)), (.int .i64 (.v 18))])] [((.b (.v 14)), (.prop 15))] [.i, .i, .a, .n, .n, .p, .i, .p] (.tup [(.agg [(.int .i64 (.v 19)), (.int .i64 (.v 20))]), (.a (.sl (.v 21) (.v 22) (.v 23))), (.a (.int .i64 (.v 25)))]) [((.a 21), (.prop 24)), ((.b (.v 14)), (.prop 26))]
     (.again 0 [(.n (.v 13)), (.a (.v 21)), (.e (.o2 .nadd (.v 22) (.n 0))), (.e (.o2 .nadd (.v 23) (.n 0))), (.e (.o1 .neg (.o1 .neg (.v 25)))), (.e (.o1 .neg (.o1 .neg (.v 19)))), (.e (.o1 .neg (.o1 .neg (.v 20)))), (.p [((.a 21), (.prop 24))]), (.p [((.a 4), (.prop 16)), ((.b (.v 14)), (.prop 26))])]))))
     (.call 27 [(.a (.ptr (.v 0) 0))] [((.b (.v 0)), (.prop 1))] [.i, .i] (.w (.agg [(.int .i64 (.v 14)), (.int .i64 (.v 15))])) [((.b (.v 0)), (.prop 1))]
     (.op (.load 26 (.tmp 16)) 26 [(16, (.w (.a (.eptr 4 (.v 2) 1 0))))] [((.a 4), (.prop 7))] [.n, .p, .p] (.w (.a (.ptr (.v 16) 0))) [((.b (.v 16)), (.prop 17)), ((.a 4), (.prop 18))]
     (.call 26 [(.a (.ptr (.v 16) 0)), (.a (.int .i64 (.i 1))), (.agg [(.int .i64 (.v 14)), (.int .i64 (.v 15))])] [((.b (.v 16)), (.prop 17))] [.i, .i, .a, .n, .n, .p, .i, .p] (.tup [(.agg [(.int .i64 (.v 19)), (.int .i64 (.v 20))]), (.a (.sl (.v 21) (.v 22) (.v 23))), (.a (.int .i64 (.v 25)))]) [((.a 21), (.prop 24)), ((.b (.v 16)), (.prop 26))]
     (.again 0 [(.n (.v 13)), (.a (.v 21)), (.e (.o2 .nadd (.v 22) (.n 0))), (.e (.o2 .nadd (.v 23) (.n 0))), (.e (.o1 .neg (.o1 .neg (.v 25)))), (.e (.o1 .neg (.o1 .neg (.v 19)))), (.e (.o1 .neg (.o1 .neg (.v 20)))), (.p [((.a 21), (.prop 24))]), (.p [((.a 4), (.prop 18)), ((.b (.v 16)), (.prop 26))])])))))))))))
 (.call 28 [(.a (.ptr (.v 0) 0)), (.a (.int .i64 (.v 2))), (.agg [(.int .i64 (.v 18)), (.int .i64 (.v 19))]), (.a (.sl (.v 14) (.v 15) (.v 16))), (.a (.int .i64 (.v 17)))] [((.b (.v 0)), (.prop 1)), ((.a 14), (.prop 20))] [.p, .p] (.tup []) [((.b (.v 0)), (.prop 22)), ((.a 14), (.prop 23))]
 (.call 25 [(.a (.ptr (.v 0) 0))] [((.b (.v 0)), (.prop 22))] [.i] (.w (.a (.int .i64 (.v 24)))) [((.b (.v 0)), (.prop 22))]
 (.br (.o2 .eq (.v 24) (.i 3))
  (.br (.o1 .not (.v 9))
   (.join [.s]
    (.call 30 [(.a (.ptr (.v 0) 0))] [((.b (.v 0)), (.prop 22))] [.a, .n, .n, .p] (.w (.a (.sl (.v 25) (.v 26) (.v 27)))) [((.a 25), (.prop 28)), ((.b (.v 0)), (.prop 22))]
    (.all
     (.read (.convert 30 9 (.tmp 53)) 9 [(53, (.w (.a (.sl (.v 25) (.v 26) (.v 27)))))] [((.a 25), (.prop 28))] [.s] (.w (.a (.str (.v 29))))
     (.again 0 [(.e (.o2 .cat (.v 29) (.s [])))]))
     (.read (.convert 30 9 (.tmp 53)) 9 [(53, (.w (.a (.sl (.v 25) (.v 26) (.v 27)))))] [((.a 25), (.prop 28))] [.s] (.w (.a (.str (.v 29))))
     (.again 0 [(.e (.o2 .cat (.v 29) (.s [])))]))))
   (.ret (.tup []) [((.b (.v 0)), (.prop 22)), ((.b (.v 3)), (.cells [(.sl (.v 4) (.v 5) (.v 6))] 52)), ((.a 4), (.prop 21)), ((.b (.v 8)), (.cells [(.bool (.c true))] 4)), ((.b (.v 10)), (.cells [(.str (.v 25))] 9))]))
   (.ret (.tup []) [((.b (.v 0)), (.prop 22)), ((.b (.v 3)), (.cells [(.sl (.v 4) (.v 5) (.v 6))] 52)), ((.a 4), (.prop 21)), ((.b (.v 8)), (.cells [(.bool (.v 9))] 4)), ((.b (.v 10)), (.cells [(.str (.v 11))] 9))]))
  (.ret (.tup []) [((.b (.v 0)), (.prop 22)), ((.b (.v 3)), (.cells [(.sl (.v 4) (.v 5) (.v 6))] 52)), ((.a 4), (.prop 21)), ((.b (.v 8)), (.cells [(.bool (.v 9))] 4)), ((.b (.v 10)), (.cells [(.str (.v 11))] 9))])))))
 (.call 25 [(.a (.ptr (.v 0) 0))] [((.b (.v 0)), (.prop 1))] [.i] (.w (.a (.int .i64 (.v 13)))) [((.b (.v 0)), (.prop 1))]
 (.br (.o2 .eq (.v 13) (.i 2))
  (.join [.p, .p]
   (.need (.o2 .le (.i 0) (.v 2))
   (.need (.o2 .lt (.v 2) (.o1 .ofNat (.v 5)))
   (.need (.o1 .isSome (.v 4))
   (.all
    (.op (.load 26 (.tmp 37)) 26 [(37, (.w (.a (.eptr 4 (.v 2) 1 0))))] [((.a 4), (.prop 7))] [.n, .p, .p] (.w (.a (.ptr (.v 14) 0))) [((.b (.v 14)), (.prop 15)), ((.a 4), (.prop 16))]
    (.call 27 [(.a (.ptr (.v 0) 0))] [((.b (.v 0)), (.prop 1))] [.i, .i] (.w (.agg [(.int .i64 (.v 17)), (.int .i64 (.v 18))])) [((.b (.v 0)), (.prop 1))]
    (.call 30 [(.a (.ptr (.v 0) 0))] [((.b (.v 0)), (.prop 1))] [.a, .n, .n, .p] (.w (.a (.sl (.v 19) (.v 20) (.v 21)))) [((.a 19), (.prop 22)), ((.b (.v 0)), (.prop 1))]
    (.call 29 [(.a (.ptr (.v 14) 0)), (.a (.int .i64 (.i 1))), (.agg [(.int .i64 (.v 17)), (.int .i64 (.v 18))]), (.a (.sl (.v 19) (.v 20) (.v 21)))] [((.b (.v 14)), (.prop 15)), ((.a 19), (.prop 22))] [.i, .p, .p] (.w (.a (.int .i64 (.v 23)))) [((.b (.v 14)), (.prop 24)), ((.a 19), (.prop 25))]
    (.call 31 [(.a (.ptr (.v 0) 0)), (.a (.int .i64 (.v 2))), (.a (.int .i64 (.v 23)))] [((.b (.v 0)), (.prop 1))] [.p] (.tup []) [((.b (.v 0)), (.prop 26))]
    (.again 0 [(.p [((.b (.v 0)), (.prop 26))]), (.p [((.a 4), (.prop 16)), ((.b (.v 14)), (.prop 24))])]))))))
    (.call 27 [(.a (.ptr (.v 0) 0))] [((.b (.v 0)), (.prop 1))] [.i, .i] (.w (.agg [(.int .i64 (.v 14)), (.int .i64 (.v 15))])) [((.b (.v 0)), (.prop 1))]
    (.all
     (.op (.load 26 (.tmp 37)) 26 [(37, (.w (.a (.eptr 4 (.v 2) 1 0))))] [((.a 4), (.prop 7))] [.n, .p, .p] (.w (.a (.ptr (.v 16) 0))) [((.b (.v 16)), (.prop 17)), ((.a 4), (.prop 18))]
     (.call 30 [(.a (.ptr (.v 0) 0))] [((.b (.v 0)), (.prop 1))] [.a, .n, .n, .p] (.w (.a (.sl (.v 19) (.v 20) (.v 21)))) [((.a 19), (.prop 22)), ((.b (.v 0)), (.prop 1))]
     (.call 29 [(.a (.ptr (.v 16) 0)), (.a (.int .i64 (.i 1))), (.agg [(.int .i64 (.v 14)), (.int .i64 (.v 15))]), (.a (.sl (.v 19) (.v 20) (.v 21)))] [((.b (.v 16)), (.prop 17)), ((.a 19), (.prop 22))] [.i, .p, .p] (.w (.a (.int .i64 (.v 23)))) [((.b (.v 16)), (.prop 24)), ((.a 19), (.prop 25))]
     (.call 31 [(.a (.ptr (.v 0) 0)), (.a (.int .i64 (.v 2))), (.a (.int .i64 (.v 23)))] [((.b (.v 0)), (.prop 1))] [.p] (.tup []) [((.b (.v 0)), (.prop 26))]
     (.again 0 [(.p [((.b (.v 0)), (.prop 26))]), (.p [((.a 4), (.prop 18)), ((.b (.v 16)), (.prop 24))])])))))
     (.call 30 [(.a (.ptr (.v 0) 0))] [((.b (.v 0)), (.prop 1))] [.a, .n, .n, .p] (.w (.a (.sl (.v 16) (.v 17) (.v 18)))) [((.a 16), (.prop 19)), ((.b (.v 0)), (.prop 1))]
     (.op (.load 26 (.tmp 37)) 26 [(37, (.w (.a (.eptr 4 (.v 2) 1 0))))] [((.a 4), (.prop 7))] [.n, .p, .p] (.w (.a (.ptr (.v 20) 0))) [((.b (.v 20)), (.prop 21)), ((.a 4), (.prop 22))]
     (.call 29 [(.a (.ptr (.v 20) 0)), (.a (.int .i64 (.i 1))), (.agg [(.int .i64 (.v 14)), (.int .i64 (.v 15))]), (.a (.sl (.v 16) (.v 17) (.v 18)))] [((.b (.v 20)), (.prop 21)), ((.a 16), (.prop 19))] [.i, .p, .p] (.w (.a (.int .i64 (.v 23)))) [((.b (.v 20)), (.prop 24)), ((.a 16), (.prop 25))]
     (.call 31 [(.a (.ptr (.v 0) 0)), (.a (.int .i64 (.v 2))), (.a (.int .i64 (.v 23)))] [((.b (.v 0)), (.prop 1))] [.p] (.tup []) [((.b (.v 0)), (.prop 26))]
     (.again 0 [(.p [((.b (.v 0)), (.prop 26))]), (.p [((.a 4), (.prop 22)), ((.b (.v 20)), (.prop 24))])])))))))))))
  (.call 25 [(.a (.ptr (.v 0) 0))] [((.b (.v 0)), (.prop 14))] [.i] (.w (.a (.int .i64 (.v 16)))) [((.b (.v 0)), (.prop 14))]
  (.br (.o2 .eq (.v 16) (.i 3))
   (.br (.o1 .not (.v 9))
    (.join [.s]
     (.call 30 [(.a (.ptr (.v 0) 0))] [((.b (.v 0)), (.prop 14))] [.a, .n, .n, .p] (.w (.a (.sl (.v 17) (.v 18) (.v 19)))) [((.a 17), (.prop 20)), ((.b (.v 0)), (.prop 14))]
     (.all
      (.read (.convert 30 9 (.tmp 53)) 9 [(53, (.w (.a (.sl (.v 17) (.v 18) (.v 19)))))] [((.a 17), (.prop 20))] [.s] (.w (.a (.str (.v 21))))
      (.again 0 [(.e (.o2 .cat (.v 21) (.s [])))]))
      (.read (.convert 30 9 (.tmp 53)) 9 [(53, (.w (.a (.sl (.v 17) (.v 18) (.v 19)))))] [((.a 17), (.prop 20))] [.s] (.w (.a (.str (.v 21))))
      (.again 0 [(.e (.o2 .cat (.v 21) (.s [])))]))))
    (.ret (.tup []) [((.b (.v 0)), (.prop 14)), ((.b (.v 3)), (.cells [(.sl (.v 4) (.v 5) (.v 6))] 52)), ((.a 4), (.prop 15)), ((.b (.v 8)), (.cells [(.bool (.c true))] 4)), ((.b (.v 10)), (.cells [(.str (.v 17))] 9))]))
    (.ret (.tup []) [((.b (.v 0)), (.prop 14)), ((.b (.v 3)), (.cells [(.sl (.v 4) (.v 5) (.v 6))] 52)), ((.a 4), (.prop 15)), ((.b (.v 8)), (.cells [(.bool (.v 9))] 4)), ((.b (.v 10)), (.cells [(.str (.v 11))] 9))]))
   (.ret (.tup []) [((.b (.v 0)), (.prop 14)), ((.b (.v 3)), (.cells [(.sl (.v 4) (.v 5) (.v 6))] 52)), ((.a 4), (.prop 15)), ((.b (.v 8)), (.cells [(.bool (.v 9))] 4)), ((.b (.v 10)), (.cells [(.str (.v 11))] 9))]))))
  (.call 25 [(.a (.ptr (.v 0) 0))] [((.b (.v 0)), (.prop 1))] [.i] (.w (.a (.int .i64 (.v 14)))) [((.b (.v 0)), (.prop 1))]
  (.br (.o2 .eq (.v 14) (.i 3))
   (.br (.o1 .not (.v 9))
    (.join [.s]
     (.call 30 [(.a (.ptr (.v 0) 0))] [((.b (.v 0)), (.prop 1))] [.a, .n, .n, .p] (.w (.a (.sl (.v 15) (.v 16) (.v 17)))) [((.a 15), (.prop 18)), ((.b (.v 0)), (.prop 1))]
     (.all
      (.read (.convert 30 9 (.tmp 53)) 9 [(53, (.w (.a (.sl (.v 15) (.v 16) (.v 17)))))] [((.a 15), (.prop 18))] [.s] (.w (.a (.str (.v 19))))
      (.again 0 [(.e (.o2 .cat (.v 19) (.s [])))]))
      (.read (.convert 30 9 (.tmp 53)) 9 [(53, (.w (.a (.sl (.v 15) (.v 16) (.v 17)))))] [((.a 15), (.prop 18))] [.s] (.w (.a (.str (.v 19))))
      (.again 0 [(.e (.o2 .cat (.v 19) (.s [])))]))))
    (.ret (.tup []) [((.b (.v 0)), (.prop 1)), ((.b (.v 3)), (.cells [(.sl (.v 4) (.v 5) (.v 6))] 52)), ((.a 4), (.prop 7)), ((.b (.v 8)), (.cells [(.bool (.c true))] 4)), ((.b (.v 10)), (.cells [(.str (.v 15))] 9))]))
    (.ret (.tup []) [((.b (.v 0)), (.prop 1)), ((.b (.v 3)), (.cells [(.sl (.v 4) (.v 5) (.v 6))] 52)), ((.a 4), (.prop 7)), ((.b (.v 8)), (.cells [(.bool (.v 9))] 4)), ((.b (.v 10)), (.cells [(.str (.v 11))] 9))]))
   (.ret (.tup []) [((.b (.v 0)), (.prop 1)), ((.b (.v 3)), (.cells [(.sl (.v 4) (.v 5) (.v 6))] 52)), ((.a 4), (.prop 7)), ((.b (.v 8)), (.cells [(.bool (.v 9))] 4)), ((.b (.v 10)), (.cells [(.str (.v 11))] 9))])))))))
theorem tree_askA : tree Try.prog { absT := [], opq := [], hv := [], keep := [25, 27, 30], link := [(17, 0)], ent := [], turn := [], shr := [], vt := [], mkd := [], rlink := [], pty := [], outl := true, stay := [], snk := [], jn := [((14, 13), some { ss := [.n, .a, .n, .n, .i, .i, .i, .p, .p], n := 22, tv := [(14, none), (15, none), (16, none), (17, none), (18, none), (19, none), (20, none), (13, none), (21, none), (22, none), (23, none), (7, some (.w (.a (.ptr (.v 13) 0)))), (8, some (.w (.a (.sl (.v 14) (.v 15) (.v 16))))), (9, some (.w (.a (.int .i64 (.v 17)))))], h := [((.b (.v 13)), (.cells [(.int .i64 (.v 18)), (.int .i64 (.v 19))] 34)), ((.a 14), (.prop 20)), ((.b (.v 0)), (.prop 1)), ((.a 4), (.prop 21)), ((.b (.v 3)), (.cells [(.sl (.v 4) (.v 5) (.v 6))] 52)), ((.b (.v 8)), (.cells [(.bool (.v 9))] 4)), ((.b (.v 10)), (.cells [(.str (.v 11))] 9))], lk := [] }), ((52, 25), some { ss := [.s], n := 26, tv := [(52, none), (53, none), (54, none)], h := [((.b (.v 10)), (.cells [(.str (.v 25))] 9)), ((.b (.v 8)), (.cells [(.bool (.c true))] 4)), ((.b (.v 0)), (.prop 22)), ((.a 14), (.prop 23)), ((.b (.v 13)), (.cells [(.int .i64 (.v 18)), (.int .i64 (.v 19))] 34)), ((.a 4), (.prop 21)), ((.b (.v 3)), (.cells [(.sl (.v 4) (.v 5) (.v 6))] 52))], lk := [] }), ((33, 14), some { ss := [.p, .p], n := 16, tv := [(33, none), (34, none), (35, none), (36, none), (37, none), (38, none), (39, none), (40, none), (41, none), (42, none), (43, none), (44, none)], h := [((.b (.v 0)), (.prop 14)), ((.a 4), (.prop 15)), ((.b (.v 3)), (.cells [(.sl (.v 4) (.v 5) (.v 6))] 52)), ((.b (.v 8)), (.cells [(.bool (.v 9))] 4)), ((.b (.v 10)), (.cells [(.str (.v 11))] 9))], lk := [] }), ((52, 17), some { ss := [.s], n := 18, tv := [(52, none), (53, none), (54, none)], h := [((.b (.v 10)), (.cells [(.str (.v 17))] 9)), ((.b (.v 8)), (.cells [(.bool (.c true))] 4)), ((.b (.v 0)), (.prop 14)), ((.a 4), (.prop 15)), ((.b (.v 3)), (.cells [(.sl (.v 4) (.v 5) (.v 6))] 52))], lk := [] }), ((52, 15), some { ss := [.s], n := 16, tv := [(52, none), (53, none), (54, none)], h := [((.b (.v 10)), (.cells [(.str (.v 15))] 9)), ((.b (.v 8)), (.cells [(.bool (.c true))] 4)), ((.b (.v 0)), (.prop 1)), ((.b (.v 3)), (.cells [(.sl (.v 4) (.v 5) (.v 6))] 52)), ((.a 4), (.prop 7))], lk := [] })] } Try.f32 [(.a (.ptr (.v 0) 0)), (.a (.int .i64 (.v 2))), (.a (.ptr (.v 3) 0)), (.a (.ptr (.v 8) 0)), (.a (.ptr (.v 10) 0))] [((.b (.v 0)), (.prop 1)), ((.b (.v 3)), (.cells [(.sl (.v 4) (.v 5) (.v 6))] 52)), ((.a 4), (.prop 7)), ((.b (.v 8)), (.cells [(.bool (.v 9))] 4)), ((.b (.v 10)), (.cells [(.str (.v 11))] 9))] 12 = t_askA := by kernel_rfl
end Go.Proofs.Ytmibmjehjagmbaa.RX

/- BallotAlone's closure, as a contract. No condition. -/
namespace Go.Proofs.Ytmibmjehjagmbaa
set_option linter.unusedSimpArgs false
set_option linter.unusedVariables false
open Go.Proofs.Ytmibmjehjagmbaa RX

/-- What an ask does to a proposer and to who is asked. -/
def AskG (l : List UR) (g : BSt) (a : Nat) (l' : List UR) (g' : BSt) : Prop :=
  ∃ u, l[a]? = some u ∧
  ((g.phase = 1 ∧ l' = l.set a (u.prom g.rnd g.who) ∧ PromB g a (promiseS 400 u.s u.ps 1 g.rnd g.who).1 (promiseS 400 u.s u.ps 1 g.rnd g.who).2.1 (promiseS 400 u.s u.ps 1 g.rnd g.who).2.2.1 (promiseS 400 u.s u.ps 1 g.rnd g.who).2.2.2.1 g') ∨
   (g.phase = 2 ∧ l' = l.set a (u.acc g.rnd g.who g.val) ∧ g' = accB g a (acceptS 400 u.s u.ps 1 g.rnd g.who g.val).1) ∨
   (g.phase ≠ 1 ∧ g.phase ≠ 2 ∧ l' = l ∧ g' = g))
/-- .. and to what has been chosen first. -/
def AskR (l : List UR) (g : BSt) (a : Nat) (any : Bool) (ch : List UInt8) (l' : List UR) (g' : BSt) (any' : Bool) (ch' : List UInt8) : Prop :=
  AskG l g a l' g' ∧ (any', ch') = if g'.phase = 3 ∧ any = false then (true, g'.val) else (any, ch)
set_option maxRecDepth 100000 in
set_option maxHeartbeats 8000000 in
theorem askA_ok (gb : Nat) (g : BSt) (a : Nat) (ub : Nat) (ua : Option Addr) (n cap : Nat) (l : List UR) (ab : Nat) (any : Bool) (cb : Nat) (ch : List UInt8) (ha : a < n) (hl : l.length = n) (hua : ua.isSome = true)
    (hvl : g.val.length ≤ 1000) (hans : ∀ y ∈ g.ans, y.2.val.length ≤ 1000) (hanl : g.ans.length ≤ 100000) (hpl : ∀ u, l[a]? = some u → (promiseS 400 u.s u.ps 1 g.rnd g.who).2.2.1.length ≤ 1000) :
    Tri Try.prog 32 #[.pointer (some ⟨gb, 0, none⟩), .int .i64 a, .pointer (some ⟨ub, 0, none⟩), .pointer (some ⟨ab, 0, none⟩), .pointer (some ⟨cb, 0, none⟩)]
    (HP.sep (BRep gb g) (HP.sep (HP.one ub (.cells #[.slice ua n cap] 52 (0, 0))) (HP.sep (PL kU ua n cap l) (HP.sep (HP.one ab (.cells #[.bool any] 4 (0, 0))) (HP.one cb (.cells #[.string ⟨ch.toArray⟩] 9 (0, 0)))))))
    (fun v => HP.and (v = .tuple #[]) (HP.ex fun g' => HP.ex fun l' => HP.ex fun any' => HP.ex fun ch' => HP.and (AskR l g a any ch l' g' any' ch')
      (HP.sep (BRep gb g') (HP.sep (HP.one ub (.cells #[.slice ua n cap] 52 (0, 0))) (HP.sep (PL kU ua n cap l') (HP.sep (HP.one ab (.cells #[.bool any'] 4 (0, 0))) (HP.one cb (.cells #[.string ⟨ch'.toArray⟩] 9 (0, 0))))))))) := by
  refine tri_of_tree (ρ := [.n gb, .p (BRep gb g), .i a, .n ub, .a ua, .n n, .n cap, .p (PL kU ua n cap l), .n ab, .c any, .n cb, .s ch]) mixed Try.func32 tree_askA ?_
  unfold t_askA
  simp (maxSteps := 3000000) only [T.den, E.prop, E.den, RX.look, F1.app, F2.app, Uni.int_i, Uni.nat_n, Uni.bool_c, Uni.str_s, Uni.adr_a, Uni.val_v, Uni.hp_p, hden, cden, V.den, W.den, A.den, BR.den, SA.den, FV.den, capV, exs, exP, allP, Cur.app, List.map_cons, List.map_nil, List.cons_append, List.nil_append, List.drop_succ_cons, List.drop_zero, List.length_cons, List.length_nil, Nat.zero_add, Nat.reduceAdd, Int.neg_neg, Bool.not_not, List.append_nil, Nat.add_zero, List.getElem?_cons_zero, List.getElem?_cons_succ, Decidable.not_not, semW_eq, semW_load, semW_store, semW_storeC, semW_append, semW_lookup, semW_lookupC, semW_update, semW_updateC, semW_updateK, semW_delete, semW_range, semW_next, semW_entry, semW_nil, ne_eq, Nat.reduceEqDiff, not_false_eq_true, semW_conv, Int.toNat_natCast]
  have hul : l[a]? = some l[a] := List.getElem?_eq_getElem (by omega)
  generalize l[a] = u at hul
  have hpl := hpl u hul
  have hans' : ∀ y ∈ g.ans, y.2.val.length ≤ 140737488355328 := fun y hy => by
    have := hans y hy
    omega
  refine (bPhaseR_ok gb g).weak (fun _ _ h => h) ?_
  rintro v R h ⟨rfl, H⟩
  refine ⟨_, rfl, ⟨fun h1 => ?_, fun h1 => ?_⟩, H⟩
  all_goals clear H
  -- it asks for a promise
  · refine ⟨fun _ ra rn _ e r w Vv Uu => rn = (promiseS 400 u.s u.ps 1 g.rnd g.who).2.2.1.length ∧ e = (promiseS 400 u.s u.ps 1 g.rnd g.who).2.2.2.1 ∧ r = (promiseS 400 u.s u.ps 1 g.rnd g.who).1 ∧ w = (promiseS 400 u.s u.ps 1 g.rnd g.who).2.1 ∧
      HP.ent Vv (RoB ra (promiseS 400 u.s u.ps 1 g.rnd g.who).2.2.1.length (promiseS 400 u.s u.ps 1 g.rnd g.who).2.2.1) ∧ HP.ent Uu (PL kU ua n cap (l.set a (u.prom g.rnd g.who))), ?_, ?_⟩
    · simp only [RX.look, List.drop_succ_cons, List.drop_zero, Uni.nat_n, Uni.int_i, Uni.adr_a, Uni.hp_p, List.getElem?_cons_zero]
      refine ⟨by omega, fun _ => ⟨by omega, fun _ => ⟨hua, fun _ => ?_⟩⟩⟩
      repeat' (first
        | intro (_ : Nat)
        | exact ⟨rfl, rfl, rfl, rfl, .refl _, .of fun R h H => PL.join (K := kU) (y := u.prom g.rnd g.who) hul rfl H⟩
        | refine And.intro ?_ ?_
        | (refine (loadUk (k := a) hul).weak (fun _ _ h => h) ?_
           rintro v R h ⟨rfl, H⟩
           refine ⟨u.ub, u.hp, PRest kU ua n cap l a, rfl, ?_, H⟩
           clear H)
        | (refine (bBallotR_ok gb g).weak (fun _ _ h => h) ?_
           rintro v R h ⟨rfl, H⟩
           refine ⟨_, _, rfl, ?_, H⟩
           clear H)
        | (refine (uPromise_ok u.ub u.bd 400 u.s u.ps 1 g.rnd g.who).weak (fun _ _ h => h) ?_
           rintro v R h ⟨ra, rc, rfl, H⟩
           refine ⟨_, _, ra, _, rc, _, _, _, rfl, ?_, HP.sep_comm H⟩
           clear H)
        | fail)
    · rintro _ ra _ rc _ _ _ Vv Uu ⟨rfl, rfl, rfl, rfl, hVv, hU'⟩
      refine ((bPromised_ok gb g a _ _ _ ra rc _ (by omega) hans' hanl).preE' ((HP.ent.refl _).sep2 hVv)).weak (fun _ _ h => h) ?_
      rintro v R h ⟨g', ⟨rfl, hProm⟩, H⟩
      refine ⟨BRep gb g', HP.tt, rfl, ?_, HP.sep_tt H⟩
      clear H
      have hrel : AskG l g a (l.set a (u.prom g.rnd g.who)) g' := ⟨u, hul, .inl ⟨h1, rfl, hProm⟩⟩
      generalize l.set a (u.prom g.rnd g.who) = l' at hrel hU'
      refine (bPhaseR_ok gb g').weak (fun _ _ h => h) ?_
      rintro v R h ⟨rfl, H⟩
      refine ⟨_, rfl, ⟨fun h3 => ⟨fun hany => ?_, fun hany => ?_⟩, fun h3 => ?_⟩, H⟩
      · refine ⟨fun s => s = g'.val, ?_, ?_⟩
        · refine (bValueR_ok gb g').weak (fun _ _ h => h) ?_
          rintro v R h ⟨va, vc, rfl, H⟩
          refine ⟨va, g'.val.length, vc, RoB va g'.val.length g'.val, rfl, ?_, H⟩
          clear H
          simp only [RX.look, Uni.str_s, List.getElem?_cons_zero]
          exact ⟨⟨g'.val, convT_ok (RdL.ro _ _ _ _) rfl, rfl⟩, g'.val, convT_ok (RdL.ro _ _ _ _) rfl, rfl⟩
        · rintro _ rfl
          exact ((HP.ent.refl _).sep2 ((HP.ent.refl _).sep2 (hU'.sep2 (.refl _)))).trans (.of fun R h H => ⟨trivial, g', l', true, g'.val, ⟨hrel, by rw [if_pos ⟨h3, by simpa using hany⟩]⟩, H⟩)
      · exact ((HP.ent.refl _).sep2 ((HP.ent.refl _).sep2 (hU'.sep2 (.refl _)))).trans (.of fun R h H => ⟨trivial, g', l', any, ch, ⟨hrel, by rw [if_neg (fun e => by rw [e.2] at hany; simp at hany)]⟩, H⟩)
      · exact ((HP.ent.refl _).sep2 ((HP.ent.refl _).sep2 (hU'.sep2 (.refl _)))).trans (.of fun R h H => ⟨trivial, g', l', any, ch, ⟨hrel, by rw [if_neg (fun e => h3 e.1)]⟩, H⟩)
  refine (bPhaseR_ok gb g).weak (fun _ _ h => h) ?_
  rintro v R h ⟨rfl, H⟩
  refine ⟨_, rfl, ⟨fun h2 => ?_, fun h2 => ?_⟩, H⟩
  all_goals clear H
  -- it asks for a vote
  · refine ⟨fun G Uu => G = BRep gb (accB g a (acceptS 400 u.s u.ps 1 g.rnd g.who g.val).1) ∧ HP.ent Uu (PL kU ua n cap (l.set a (u.acc g.rnd g.who g.val))), ?_, ?_⟩
    · simp only [RX.look, List.drop_succ_cons, List.drop_zero, Uni.nat_n, Uni.int_i, Uni.adr_a, Uni.hp_p, List.getElem?_cons_zero]
      refine ⟨by omega, fun _ => ⟨by omega, fun _ => ⟨hua, fun _ => ?_⟩⟩⟩
      repeat' (first
        | intro (_ : Nat)
        | exact ⟨rfl, .of fun R h H => PL.join (K := kU) (y := u.acc g.rnd g.who g.val) hul rfl H⟩
        | refine And.intro ?_ ?_
        | (refine (loadUk (k := a) hul).weak (fun _ _ h => h) ?_
           rintro v R h ⟨rfl, H⟩
           refine ⟨u.ub, u.hp, PRest kU ua n cap l a, rfl, ?_, H⟩
           clear H)
        | (refine (bBallotR_ok gb g).weak (fun _ _ h => h) ?_
           rintro v R h ⟨rfl, H⟩
           refine ⟨_, _, rfl, ?_, H⟩
           clear H)
        | (refine (bValueR_ok gb g).weak (fun _ _ h => h) ?_
           rintro v R h ⟨va, vc, rfl, H⟩
           have hva : g.val.length ≠ 0 → va.isSome = true := fun h => RoC.some (HP.sep_left H) (by omega)
           refine ⟨va, _, vc, RoB va g.val.length g.val, rfl, ?_, H⟩
           clear H)
        | (refine (uAccept_ok u.ub u.bd 400 u.s u.ps 1 g.rnd g.who va _ vc g.val (RoB va g.val.length g.val) (RdL.ro _ _ _ _) rfl hva).weak (fun _ _ h => h) ?_
           rintro v R h ⟨rfl, H⟩
           refine ⟨_, _, _, rfl, ?_, H⟩
           clear H)
        | (refine (bAccepted_ok gb g a _ hanl).weak (fun _ _ h => h) ?_
           rintro v R h ⟨rfl, H⟩
           refine ⟨_, rfl, ?_, H⟩
           clear H)
        | fail)
    · rintro _ Uu ⟨rfl, hU'⟩
      have hrel : AskG l g a (l.set a (u.acc g.rnd g.who g.val)) (accB g a (acceptS 400 u.s u.ps 1 g.rnd g.who g.val).1) := ⟨u, hul, .inr (.inl ⟨h2, rfl, rfl⟩)⟩
      generalize l.set a (u.acc g.rnd g.who g.val) = l' at hrel hU'
      generalize accB g a (acceptS 400 u.s u.ps 1 g.rnd g.who g.val).1 = g' at hrel ⊢
      refine (bPhaseR_ok gb g').weak (fun _ _ h => h) ?_
      rintro v R h ⟨rfl, H⟩
      refine ⟨_, rfl, ⟨fun h3 => ⟨fun hany => ?_, fun hany => ?_⟩, fun h3 => ?_⟩, H⟩
      · refine ⟨fun s => s = g'.val, ?_, ?_⟩
        · refine (bValueR_ok gb g').weak (fun _ _ h => h) ?_
          rintro v R h ⟨va, vc, rfl, H⟩
          refine ⟨va, g'.val.length, vc, RoB va g'.val.length g'.val, rfl, ?_, H⟩
          clear H
          simp only [RX.look, Uni.str_s, List.getElem?_cons_zero]
          exact ⟨⟨g'.val, convT_ok (RdL.ro _ _ _ _) rfl, rfl⟩, g'.val, convT_ok (RdL.ro _ _ _ _) rfl, rfl⟩
        · rintro _ rfl
          exact ((HP.ent.refl _).sep2 ((HP.ent.refl _).sep2 (hU'.sep2 (.refl _)))).trans (.of fun R h H => ⟨trivial, g', l', true, g'.val, ⟨hrel, by rw [if_pos ⟨h3, by simpa using hany⟩]⟩, H⟩)
      · exact ((HP.ent.refl _).sep2 ((HP.ent.refl _).sep2 (hU'.sep2 (.refl _)))).trans (.of fun R h H => ⟨trivial, g', l', any, ch, ⟨hrel, by rw [if_neg (fun e => by rw [e.2] at hany; simp at hany)]⟩, H⟩)
      · exact ((HP.ent.refl _).sep2 ((HP.ent.refl _).sep2 (hU'.sep2 (.refl _)))).trans (.of fun R h H => ⟨trivial, g', l', any, ch, ⟨hrel, by rw [if_neg (fun e => h3 e.1)]⟩, H⟩)
  -- it has come to its end
  · have hrel : AskG l g a l g := ⟨u, hul, .inr (.inr ⟨h1, h2, rfl, rfl⟩)⟩
    have hU' : HP.ent (PL kU ua n cap l) (PL kU ua n cap l) := .refl _
    refine (bPhaseR_ok gb g).weak (fun _ _ h => h) ?_
    rintro v R h ⟨rfl, H⟩
    refine ⟨_, rfl, ⟨fun h3 => ⟨fun hany => ?_, fun hany => ?_⟩, fun h3 => ?_⟩, H⟩
    · refine ⟨fun s => s = g.val, ?_, ?_⟩
      · refine (bValueR_ok gb g).weak (fun _ _ h => h) ?_
        rintro v R h ⟨va, vc, rfl, H⟩
        refine ⟨va, g.val.length, vc, RoB va g.val.length g.val, rfl, ?_, H⟩
        clear H
        simp only [RX.look, Uni.str_s, List.getElem?_cons_zero]
        exact ⟨⟨g.val, convT_ok (RdL.ro _ _ _ _) rfl, rfl⟩, g.val, convT_ok (RdL.ro _ _ _ _) rfl, rfl⟩
      · rintro _ rfl
        exact ((HP.ent.refl _).sep2 ((HP.ent.refl _).sep2 (hU'.sep2 (.refl _)))).trans (.of fun R h H => ⟨trivial, g, l, true, g.val, ⟨hrel, by rw [if_pos ⟨h3, by simpa using hany⟩]⟩, H⟩)
    · exact ((HP.ent.refl _).sep2 ((HP.ent.refl _).sep2 (hU'.sep2 (.refl _)))).trans (.of fun R h H => ⟨trivial, g, l, any, ch, ⟨hrel, by rw [if_neg (fun e => by rw [e.2] at hany; simp at hany)]⟩, H⟩)
    · exact ((HP.ent.refl _).sep2 ((HP.ent.refl _).sep2 (hU'.sep2 (.refl _)))).trans (.of fun R h H => ⟨trivial, g, l, any, ch, ⟨hrel, by rw [if_neg (fun e => h3 e.1)]⟩, H⟩)
end Go.Proofs.Ytmibmjehjagmbaa

/- BallotAlone, over what came in as assertions. No condition. -/
namespace Go.Proofs.Ytmibmjehjagmbaa
set_option linter.unusedSimpArgs false
set_option linter.unusedVariables false
open Go.Proofs.Ytmibmjehjagmbaa RX

/-- What BallotAlone knows between two asks. -/
structure AloB (n : Nat) (l : List UR) (gs : List BSt) (V : Vt) (any : Bool) (ch : List UInt8) (t : Nat) : Prop where
  px : PX n (l.map UR.i1) gs V
  pv : PV (fun v => v.length ≤ 1000) (l.map UR.i1) gs
  ch : any = true → ∃ b, ChosB n V b ch
  low : LowU (bnN 1000 0) t l
theorem AloB.new {n : Nat} {l : List UR} (hl : l.length = n) (hz : ∀ u ∈ l, u.s = s0 ∧ u.ps = []) (ch : List UInt8) : AloB n l [] [] false ch 0 := by
  have h : ∀ u ∈ l.map UR.i1, u = ⟨0, 0, 0, 0, []⟩ := fun u hu => by
    obtain ⟨x, hx, rfl⟩ := List.mem_map.1 hu
    show instAt x.s 1 = _
    rw [(hz x hx).1]; rfl
  refine ⟨PX.new (by rw [List.length_map]; exact hl) h, PV.new (fun v hv => hv) h, fun h => (by cases h), fun u hu => ?_⟩
  have h1 := h u.i1 (List.mem_map_of_mem hu)
  rw [h1, (hz u hu).2]
  exact ⟨by decide, Nat.le_refl _⟩
theorem AloB.begin {n : Nat} {l : List UR} {gs : List BSt} {V : Vt} {any : Bool} {ch : List UInt8} {t : Nat} (h : AloB n l gs V any ch t) (hn : 1 ≤ n) {r w : Int} (v : List UInt8) (hv : v.length ≤ 1000) (hr : 0 ≤ r ∧ r ≤ 1000000) (hw : 0 ≤ w ∧ w < 1000000) (h0 : 0 < bnN r w) (hnew : ∀ (i : Nat) (g : BSt), gs[i]? = some g → bnG g ≠ bnN r w) :
    AloB n l (gs ++ [startB n r w v]) V any ch t := ⟨h.px.begin hn v hr hw h0 hnew, h.pv.begin hv, h.ch, h.low⟩
theorem AloB.more {n : Nat} {l : List UR} {gs : List BSt} {V : Vt} {any : Bool} {ch : List UInt8} {t : Nat} (h : AloB n l gs V any ch t) : AloB n l gs V any ch (t + 1) := ⟨h.px, h.pv, h.ch, h.low.more⟩
theorem AloB.unit {n : Nat} {l : List UR} {gs : List BSt} {V : Vt} {any : Bool} {ch : List UInt8} {t : Nat} (h : AloB n l gs V any ch t) {a : Nat} {u : UR} (hu : l[a]? = some u) : (0 ≤ u.i1.pw ∧ u.i1.pw < 1000000) ∧ bnP u.i1 ≤ bnN 1000 0 ∧ u.ps.length ≤ t :=
  ⟨(h.px.ub a u.i1 (by simp [hu])).pw, h.low u (List.mem_of_getElem? hu)⟩
theorem AloB.ask {n : Nat} {l l' : List UR} {gs : List BSt} {V : Vt} {any any' : Bool} {ch ch' : List UInt8} {t : Nat} (h : AloB n l gs V any ch t) {a q : Nat} {g g' : BSt} (hg : gs[q]? = some g) (hb : bnG g ≤ bnN 1000 0) (hA : AskR l g a any ch l' g' any' ch') :
    ∃ V', (∀ y ∈ V, y ∈ V') ∧ AloB n l' (gs.set q g') V' any' ch' (t + 1) ∧ g'.rnd = g.rnd ∧ g'.who = g.who := by
  obtain ⟨⟨u, hu, hc⟩, hch⟩ := hA
  have hG := h.px.gg q g hg
  obtain ⟨hw, hle, hps⟩ := h.unit hu
  have key : ∃ V', (∀ y ∈ V, y ∈ V') ∧ PX n (l'.map UR.i1) (gs.set q g') V' ∧ PV (fun v => v.length ≤ 1000) (l'.map UR.i1) (gs.set q g') ∧ LowU (bnN 1000 0) (t + 1) l' ∧ g'.rnd = g.rnd ∧ g'.who = g.who := by
    rcases hc with ⟨hp, rfl, hP⟩ | ⟨hp, rfl, rfl⟩ | ⟨hp1, hp2, rfl, rfl⟩
    · obtain ⟨h1, h2, h3, h4⟩ := h.px.prom h.pv hu hg
      obtain ⟨h5, h6⟩ := h1.took1 h2 hg a _ _ _ _ h3 h4 hP
      obtain ⟨e1, e2, _⟩ := prom_bal hP
      exact ⟨V, fun _ h => h, h5, h6, h.low.set (prom_low u hG.rnd hG.who hw hle hb) (Nat.le_trans (prom_len ..) (Nat.succ_le_succ hps)), e1, e2⟩
    · obtain ⟨V', hs, h1, h2, h3⟩ := h.px.acc h.pv hu hg hp
      obtain ⟨h5, h6⟩ := h1.took2 h2 hg a _ fun _ e => h3 e
      obtain ⟨e1, e2, _⟩ := acc_bal g a (acceptS 400 u.s u.ps 1 g.rnd g.who g.val).1
      exact ⟨V', hs, h5, h6, h.low.set (acc_low u _ hG.rnd hG.who hw hle hb) (Nat.le_trans (acc_len ..) (Nat.succ_le_succ hps)), e1, e2⟩
    · rw [set_back hg]
      exact ⟨V, fun _ h => h, h.px, h.pv, h.low.more, rfl, rfl⟩
  obtain ⟨V', hs, h1, h2, h3, h4, h5⟩ := key
  refine ⟨V', hs, ⟨h1, h2, fun ha => ?_, h3⟩, h4, h5⟩
  split at hch
  · rename_i hc3
    cases hch
    have hlt : q < gs.length := (List.getElem?_eq_some_iff.1 hg).1
    exact ⟨_, (h1.gg q g' (by simp [hlt])).p3 hc3.1⟩
  · cases hch
    obtain ⟨b, hb⟩ := h.ch ha
    exact ⟨b, hb.more hs⟩
theorem live_ask {n : Nat} {l l' : List UR} {gs : List BSt} {V : Vt} {any : Bool} {ch : List UInt8} {t k : Nat} (h : AloB n l gs V any ch k) (hk : k < 400) {q : Nat} {g g' : BSt} (hg : gs[q]? = some g) (hb : bnG g = bnN 1000 0) (hn : 1 ≤ n ∧ n ≤ 4) (ht : t < 2 * n) (hL : LiveG n t g) (hA : AskG l g (t % n) l' g') : LiveG n (t + 1) g' := by
  obtain ⟨u, hu, hc⟩ := hA
  have hG := h.px.gg q g hg
  obtain ⟨hw, hle, hps⟩ := h.unit hu
  have hle' : bnP u.i1 ≤ bnN g.rnd g.who := by
    have : bnG g = bnN g.rnd g.who := rfl
    omega
  rcases hc with ⟨hp, _, hP⟩ | ⟨hp, _, rfl⟩ | ⟨hp1, hp2, _, rfl⟩
  · rw [prom_zero u hG.rnd hG.who hw hle' (by omega)] at hP
    exact live_prom hn ht hL hp hP
  · rw [acc_zero u (h.pv.g g (List.mem_of_getElem? hg)) hG.rnd hG.who hw hle' (by omega)]
    exact live_acc hn ht hL hp
  · exact live_done hL hp1 hp2
theorem set_last {α : Type} (l : List α) (x y : α) : (l ++ [x]).set l.length y = l ++ [y] := by
  rw [List.set_append_right _ _ (Nat.le_refl _), Nat.sub_self]; rfl
theorem AloB.cond {n : Nat} {l : List UR} {gs : List BSt} {V : Vt} {any : Bool} {ch : List UInt8} {t : Nat} (h : AloB n l gs V any ch t) (hn : n ≤ 4) {q : Nat} {g : BSt} (hg : gs[q]? = some g) :
    g.val.length ≤ 1000 ∧ (∀ y ∈ g.ans, y.2.val.length ≤ 1000) ∧ g.ans.length ≤ 100000 ∧ ∀ (a : Nat) (u : UR), l[a]? = some u → (promiseS 400 u.s u.ps 1 g.rnd g.who).2.2.1.length ≤ 1000 :=
  ⟨h.pv.g _ (List.mem_of_getElem? hg), h.pv.a _ (List.mem_of_getElem? hg), by have := h.px.bound hg; omega, fun a u hu => (h.px.prom h.pv hu hg).2.2.1⟩
set_option maxRecDepth 100000 in
set_option maxHeartbeats 8000000 in
theorem ballotAlone_ok (size : Int) (sa : Option Addr) (sc : Nat) (steps : List Step10) (la : Option Addr) (lc : Nat) (last : List UInt8) :
    Tri Try.prog 5 #[.int .i64 size, .slice sa steps.length sc, .slice la last.length lc] (HP.sep (Ls kStep10 sa steps.length steps) (RoB la last.length last)) (fun v => HP.pure (v = .bool true)) := by
  refine Tri.fact (φ := steps.length ≠ 0 → sa.isSome = true) (fun R h H hn => RoC.some (HP.sep_left H).2.1 (by omega)) fun hsa => ?_
  refine tri_of_tree (ρ := [.i size, .a sa, .n steps.length, .n sc, .p (Ls kStep10 sa steps.length steps), .a la, .n last.length, .n lc, .p (RoB la last.length last)]) mixed Try.func5 tree_ballotAlone ?_
  unfold t_ballotAlone
  simp (maxSteps := 3000000) only [T.den, E.prop, E.den, RX.look, F1.app, F2.app, Uni.int_i, Uni.nat_n, Uni.bool_c, Uni.str_s, Uni.adr_a, Uni.val_v, Uni.hp_p, hden, cden, V.den, W.den, A.den, BR.den, SA.den, FV.den, capV, exs, exP, allP, Cur.app, List.map_cons, List.map_nil, List.cons_append, List.nil_append, List.drop_succ_cons, List.drop_zero, List.length_cons, List.length_nil, Nat.zero_add, Nat.reduceAdd, Int.neg_neg, Bool.not_not, List.append_nil, Nat.add_zero, List.getElem?_cons_zero, List.getElem?_cons_succ, Decidable.not_not, semW_eq, semW_load, semW_store, semW_storeC, semW_append, semW_lookup, semW_lookupC, semW_update, semW_updateC, semW_updateK, semW_delete, semW_range, semW_next, semW_entry, semW_nil, ne_eq, Nat.reduceEqDiff, not_false_eq_true, semW_conv, and3, andffff]
  refine speaks10_ok.weak (fun _ _ _ => trivial) ?_
  rintro v R h rfl
  refine ⟨true, rfl, ⟨fun h => absurd rfl h, fun _ => ⟨fun _ => .of fun R h H => trivial, fun h100 => ⟨fun _ => .of fun R h H => trivial, fun hl100 => ?_⟩⟩⟩, trivial⟩
  obtain ⟨n, hn⟩ : ∃ n : Nat, size % 4 + 1 = n := ⟨_, (Int.toNat_of_nonneg (by omega)).symm⟩
  have hn1 : 1 ≤ n := by omega
  have hn4 : n ≤ 4 := by omega
  simp only [hn]
  refine ⟨inI64 _ (by omega) (by omega), fun _ => ?_⟩
  intro y xub
  refine ⟨fun _ i ia len cap P => ∃ (k : Nat) (l : List UR), i = k ∧ k ≤ n ∧ len = k ∧ (∀ u ∈ l, u.s = s0 ∧ u.ps = []) ∧ l.length = k ∧ (k ≠ 0 → ia.isSome = true) ∧ HP.ent P (PL kU ia k cap l), fun _ i _ _ _ _ => n - i.toNat,
    ⟨0, [], rfl, Nat.zero_le _, rfl, (fun u hu => by cases hu), rfl, (fun h => absurd rfl h), .of fun R h H => PL.zero (K := kU) y H⟩, ?_⟩
  rintro _ _ ia k cap P ⟨_, l, rfl, hk, rfl, hl, hll, hia, hP⟩
  refine ⟨fun hlt => ?_, fun hge xcb xab xg => ?_⟩
  · refine (dNew_ok 400 (by decide) (by decide)).weak (fun _ _ h => h) ?_
    rintro v R h ⟨bd, rfl, H⟩
    refine ⟨bd, DRep bd 400 [] 0, 0, rfl, ?_, H⟩
    clear H
    refine (uOpen_ok bd 400 [] 0 s0 rfl).weak (fun _ _ h => h) ?_
    rintro v R h ⟨ub, rfl, H⟩
    rw [forg0] at H
    refine ⟨ub, UD ub bd 400 s0 [], 0, HP.tt, rfl, ⟨fun h => absurd rfl h, fun _ y => ?_⟩, HP.sep_tt H⟩
    clear H
    refine (appendUk ia k cap l y (newU ub bd) HP.tt (by omega)).conseq (K := HP.tt) ((hP.sep _).trans (.of fun R h H => HP.sep_tt H)) fun v => .of fun R h H => ?_
    obtain ⟨a', c', rfl, H2⟩ := HP.sep_left H
    have hs' := PL.isAt (HP.sep_left H2) (by omega)
    refine ⟨a', k + 1, c', PL kU a' (k + 1) c' (l ++ [newU ub bd]), rfl, ⟨inI64 _ (by omega) (by omega), fun _ => ⟨⟨k + 1, l ++ [newU ub bd], by omega, by omega, rfl, fun u hu => ?_, by simp [hll], fun _ => hs', .refl _⟩, by dsimp only; omega⟩⟩, HP.sep_left H2⟩
    rcases List.mem_append.1 hu with h | h
    · exact hl u h
    · simp at h; subst h; exact ⟨rfl, rfl⟩
  obtain rfl : k = n := by omega
  have hiasome := hia (by omega)
  refine ⟨fun _ ga gn gc i G any ch ua un uc U S => ∃ (j : Nat) (es : List PB) (l : List UR) (V : Vt), i = j ∧ j ≤ steps.length ∧ gn = es.length ∧ (gn ≠ 0 → ga.isSome = true) ∧ es.length ≤ j ∧ HP.ent G (PL kB ga gn gc es) ∧ ia = ua ∧ k = un ∧ cap = uc ∧ HP.ent U (PL kU ia k cap l) ∧ S = Ls kStep10 sa steps.length steps ∧ l.length = k ∧ Bals (es.map (·.2)) ∧ AloB k l (es.map (·.2)) V any ch j,
    fun _ _ _ _ i _ _ _ _ _ _ _ _ => steps.length - i.toNat,
    ⟨0, [], l, [], rfl, Nat.zero_le _, rfl, fun h => absurd rfl h, Nat.le_refl _, .of fun R h H => PL.zero (K := kB) xg H, rfl, rfl, rfl, hP, rfl, hll, .new, AloB.new hll hl _⟩, ?_⟩
  clear hll hl
  rintro _ ga _ gc _ G any ch _ _ _ U _ ⟨j, es, l, V, rfl, hj, rfl, hea, hesj, hG, rfl, rfl, rfl, hU, rfl, hll, hB, hI⟩
  refine ⟨fun hlt => ⟨by omega, fun _ => ⟨hsa (by omega), fun _ => ?_⟩⟩, fun hlt => ?_⟩
  · have hjl : j < steps.length := by omega
    have hgj : steps[j]? = some steps[j] := List.getElem?_eq_getElem hjl
    generalize steps[j] = s at hgj
    have inJ : IntKind.i64.min ≤ (j : Int) + 1 ∧ (j : Int) + 1 ≤ IntKind.i64.max := inI64 _ (by omega) (by omega)
    have meas : steps.length - ((j : Int) + 1).toNat < steps.length - (j : Int).toNat := by omega
    have rS : RdL (Ls kStep10 sa steps.length steps) s.vala s.val.length (s.val.map u8v) := RdL.imp fun R y H => (H.2.2 s (List.mem_of_getElem? hgj)).2.2.2
    refine ⟨_, _, _, _, _, _, _, Step10.load (a := sa) (n := steps.length) hgj, fun _ => ⟨fun _ => .of fun R h H => trivial, fun hs100 => ?_⟩⟩
    have htd : ((es.length : Nat) : Int).tdiv 2 = (es.length : Int) / 2 := Int.tdiv_eq_ediv_of_nonneg (by omega)
    obtain ⟨a, ha, hae⟩ := pickIx' s.at_ (show k ≠ 0 by omega)
    refine ⟨fun _ => ?_, fun _ => ⟨fun _ => ?_, fun hemp => ?_⟩⟩
    · rw [htd]
      refine ⟨inI64 _ (by omega) (by omega), fun _ => ⟨inI64 _ (by omega) (by omega), fun _ => ?_⟩⟩
      refine (bStart_ok k (1 + (es.length : Int) / 2) es.length (by omega) _ s.vala _ s.valc s.val rS rfl (by omega)).weak (fun _ _ h => h) ?_
      rintro v R h ⟨b, rfl, H⟩
      refine ⟨b, BRep b (startB k (1 + (es.length : Int) / 2) es.length s.val), Ls kStep10 sa steps.length steps, rfl, fun z => ?_, HP.sep_comm H⟩
      clear H
      refine (appendB ga es.length gc es z (b, startB k (1 + (es.length : Int) / 2) es.length s.val) HP.tt (by omega)).conseq (K := HP.tt) ((hG.sep _).trans (.of fun R h H => HP.sep_tt (HP.sep_mono H (fun _ h => h) fun y hy => HP.sep_mono hy (fun _ h => h) fun w hw => HP.sep_tt hw))) fun v => .of fun R h H => ?_
      obtain ⟨a', c', rfl, H2⟩ := HP.sep_left H
      have hs' := PL.isAt (HP.sep_left H2) (by omega)
      refine ⟨a', es.length + 1, c', PL kB a' (es.length + 1) c' (es ++ [(b, startB k (1 + (es.length : Int) / 2) es.length s.val)]), rfl, ?_, HP.sep_left H2⟩
      clear H H2
      have hI2 : AloB k l ((es ++ [(b, startB k (1 + (es.length : Int) / 2) es.length s.val)]).map (·.2)) V any ch j := by
        have := hI.begin hn1 (r := 1 + ((es.map (·.2)).length : Int) / 2) (w := (es.map (·.2)).length) s.val (by omega) (by rw [List.length_map]; omega) (by rw [List.length_map]; omega) (by rw [List.length_map]; unfold bnN; omega) (hB.differ (by rw [List.length_map]; omega))
        rw [List.length_map] at this
        rw [List.map_append]; exact this
      have hB2 : Bals ((es ++ [(b, startB k (1 + (es.length : Int) / 2) es.length s.val)]).map (·.2)) := by
        have := hB.begin (k : Int) s.val
        rw [List.length_map] at this
        rw [List.map_append]; exact this
      have hle2 : (es ++ [(b, startB k (1 + (es.length : Int) / 2) es.length s.val)]).length = es.length + 1 := by simp
      rw [← hle2]
      generalize es ++ [(b, startB k (1 + (es.length : Int) / 2) es.length s.val)] = es2 at hI2 hB2 hle2 ⊢
      have hne : es2.length ≠ 0 := by omega
      obtain ⟨q, hq, hqe⟩ := pickIx' s.p hne
      have hgq : es2[q]? = some es2[q] := List.getElem?_eq_getElem hq
      generalize es2[q] = x at hgq
      have hgg : (es2.map (·.2))[q]? = some x.2 := by simp [hgq]
      obtain ⟨c1, c2, c3, c4⟩ := hI2.cond hn4 hgg
      refine ⟨fun ua un uc U' any' ch' G' => ia = ua ∧ k = un ∧ cap = uc ∧ ∃ es' l' V', es'.length = es2.length ∧ HP.ent G' (PL kB a' es2.length c' es') ∧ HP.ent U' (PL kU ia k cap l') ∧ l'.length = k ∧ Bals (es'.map (·.2)) ∧ AloB k l' (es'.map (·.2)) V' any' ch' (j + 1), ?_, ?_⟩
      · simp only [RX.look, List.drop_succ_cons, List.drop_zero, Uni.nat_n, Uni.int_i, Uni.adr_a, Uni.hp_p, Uni.bool_c, Uni.str_s, List.getElem?_cons_zero]
        refine ⟨by omega, fun _ => ⟨by rw [hqe]; omega, fun _ => ⟨by rw [hqe]; omega, fun _ => ⟨hs', fun _ => ⟨by omega, fun _ => ?_⟩⟩⟩⟩⟩
        simp only [hqe, hae, Int.toNat_natCast]
        refine (loadB (k := q) hgq).weak (fun _ _ h => h) ?_
        rintro v R h ⟨rfl, H2⟩
        refine ⟨x.1, BRep x.1 x.2, PRest kB a' es2.length c' es2 q, rfl, ?_, H2⟩
        clear H2
        refine ((askA_ok x.1 x.2 a xub ia k cap l xab any xcb ch ha hll hiasome c1 c2 c3 (c4 a)).preE' ((HP.ent.refl _).sep2 ((HP.ent.refl _).sep2 (hU.sep2 (.refl _))))).weak (fun _ _ h => h) ?_
        rintro v R h ⟨rfl, g', l', any', ch', hA, H⟩
        obtain ⟨V', hs2, hI3, e1, e2⟩ := hI2.ask hgg (Int.le_of_lt (hB2.below (by rw [List.length_map]; omega) q _ hgg)) hA
        refine ⟨BRep x.1 g', ia, k, cap, PL kU ia k cap l', any', ch', rfl, ⟨rfl, rfl, rfl, es2.set q (x.1, g'), l', V', by simp, .of fun R h H => PL.join (K := kB) (y := (x.1, g')) hgq rfl H, .refl _, by have := hI3.px.len; rw [List.length_map] at this; exact this, ?_, ?_⟩, H⟩
        · rw [List.map_set]; exact hB2.set hgg e1 e2
        · rw [List.map_set]; exact hI3
      · rintro _ _ _ U' any' ch' G' ⟨rfl, rfl, rfl, es', l', V', hle, hG', hU', hll', hB', hI'⟩
        exact ⟨inJ, fun _ => ⟨⟨j + 1, es', l', V', by omega, by omega, hle.symm, fun _ => hs', by omega, hG', rfl, rfl, rfl, hU', rfl, hll', hB', hI'⟩, meas⟩⟩
    · rw [htd]
      refine ⟨inI64 _ (by omega) (by omega), fun _ => ⟨inI64 _ (by omega) (by omega), fun _ => ?_⟩⟩
      refine (bStart_ok k (1 + (es.length : Int) / 2) es.length (by omega) _ s.vala _ s.valc s.val rS rfl (by omega)).weak (fun _ _ h => h) ?_
      rintro v R h ⟨b, rfl, H⟩
      refine ⟨b, BRep b (startB k (1 + (es.length : Int) / 2) es.length s.val), Ls kStep10 sa steps.length steps, rfl, fun z => ?_, HP.sep_comm H⟩
      clear H
      refine (appendB ga es.length gc es z (b, startB k (1 + (es.length : Int) / 2) es.length s.val) HP.tt (by omega)).conseq (K := HP.tt) ((hG.sep _).trans (.of fun R h H => HP.sep_tt (HP.sep_mono H (fun _ h => h) fun y hy => HP.sep_mono hy (fun _ h => h) fun w hw => HP.sep_tt hw))) fun v => .of fun R h H => ?_
      obtain ⟨a', c', rfl, H2⟩ := HP.sep_left H
      have hs' := PL.isAt (HP.sep_left H2) (by omega)
      refine ⟨a', es.length + 1, c', PL kB a' (es.length + 1) c' (es ++ [(b, startB k (1 + (es.length : Int) / 2) es.length s.val)]), rfl, ?_, HP.sep_left H2⟩
      clear H H2
      have hI2 : AloB k l ((es ++ [(b, startB k (1 + (es.length : Int) / 2) es.length s.val)]).map (·.2)) V any ch j := by
        have := hI.begin hn1 (r := 1 + ((es.map (·.2)).length : Int) / 2) (w := (es.map (·.2)).length) s.val (by omega) (by rw [List.length_map]; omega) (by rw [List.length_map]; omega) (by rw [List.length_map]; unfold bnN; omega) (hB.differ (by rw [List.length_map]; omega))
        rw [List.length_map] at this
        rw [List.map_append]; exact this
      have hB2 : Bals ((es ++ [(b, startB k (1 + (es.length : Int) / 2) es.length s.val)]).map (·.2)) := by
        have := hB.begin (k : Int) s.val
        rw [List.length_map] at this
        rw [List.map_append]; exact this
      have hle2 : (es ++ [(b, startB k (1 + (es.length : Int) / 2) es.length s.val)]).length = es.length + 1 := by simp
      rw [← hle2]
      generalize es ++ [(b, startB k (1 + (es.length : Int) / 2) es.length s.val)] = es2 at hI2 hB2 hle2 ⊢
      have hne : es2.length ≠ 0 := by omega
      obtain ⟨q, hq, hqe⟩ := pickIx' s.p hne
      have hgq : es2[q]? = some es2[q] := List.getElem?_eq_getElem hq
      generalize es2[q] = x at hgq
      have hgg : (es2.map (·.2))[q]? = some x.2 := by simp [hgq]
      obtain ⟨c1, c2, c3, c4⟩ := hI2.cond hn4 hgg
      refine ⟨fun ua un uc U' any' ch' G' => ia = ua ∧ k = un ∧ cap = uc ∧ ∃ es' l' V', es'.length = es2.length ∧ HP.ent G' (PL kB a' es2.length c' es') ∧ HP.ent U' (PL kU ia k cap l') ∧ l'.length = k ∧ Bals (es'.map (·.2)) ∧ AloB k l' (es'.map (·.2)) V' any' ch' (j + 1), ?_, ?_⟩
      · simp only [RX.look, List.drop_succ_cons, List.drop_zero, Uni.nat_n, Uni.int_i, Uni.adr_a, Uni.hp_p, Uni.bool_c, Uni.str_s, List.getElem?_cons_zero]
        refine ⟨by omega, fun _ => ⟨by rw [hqe]; omega, fun _ => ⟨by rw [hqe]; omega, fun _ => ⟨hs', fun _ => ⟨by omega, fun _ => ?_⟩⟩⟩⟩⟩
        simp only [hqe, hae, Int.toNat_natCast]
        refine (loadB (k := q) hgq).weak (fun _ _ h => h) ?_
        rintro v R h ⟨rfl, H2⟩
        refine ⟨x.1, BRep x.1 x.2, PRest kB a' es2.length c' es2 q, rfl, ?_, H2⟩
        clear H2
        refine ((askA_ok x.1 x.2 a xub ia k cap l xab any xcb ch ha hll hiasome c1 c2 c3 (c4 a)).preE' ((HP.ent.refl _).sep2 ((HP.ent.refl _).sep2 (hU.sep2 (.refl _))))).weak (fun _ _ h => h) ?_
        rintro v R h ⟨rfl, g', l', any', ch', hA, H⟩
        obtain ⟨V', hs2, hI3, e1, e2⟩ := hI2.ask hgg (Int.le_of_lt (hB2.below (by rw [List.length_map]; omega) q _ hgg)) hA
        refine ⟨BRep x.1 g', ia, k, cap, PL kU ia k cap l', any', ch', rfl, ⟨rfl, rfl, rfl, es2.set q (x.1, g'), l', V', by simp, .of fun R h H => PL.join (K := kB) (y := (x.1, g')) hgq rfl H, .refl _, by have := hI3.px.len; rw [List.length_map] at this; exact this, ?_, ?_⟩, H⟩
        · rw [List.map_set]; exact hB2.set hgg e1 e2
        · rw [List.map_set]; exact hI3
      · rintro _ _ _ U' any' ch' G' ⟨rfl, rfl, rfl, es', l', V', hle, hG', hU', hll', hB', hI'⟩
        exact ⟨inJ, fun _ => ⟨⟨j + 1, es', l', V', by omega, by omega, hle.symm, fun _ => hs', by omega, hG', rfl, rfl, rfl, hU', rfl, hll', hB', hI'⟩, meas⟩⟩
    · have hne : es.length ≠ 0 := by omega
      obtain ⟨q, hq, hqe⟩ := pickIx' s.p hne
      have hgq : es[q]? = some es[q] := List.getElem?_eq_getElem hq
      generalize es[q] = x at hgq
      have hgg : (es.map (·.2))[q]? = some x.2 := by simp [hgq]
      obtain ⟨c1, c2, c3, c4⟩ := hI.cond hn4 hgg
      refine ⟨by rw [hqe]; omega, fun _ => ⟨by rw [hqe]; omega, fun _ => ⟨hea hne, fun _ => ⟨by omega, fun _ => ?_⟩⟩⟩⟩
      simp only [hqe, hae, Int.toNat_natCast]
      refine ((loadB (k := q) hgq).pre' hG).weak (fun _ _ h => h) ?_
      rintro v R h ⟨rfl, H2⟩
      refine ⟨x.1, BRep x.1 x.2, PRest kB ga es.length gc es q, rfl, ?_, H2⟩
      clear H2
      refine ((askA_ok x.1 x.2 a xub ia k cap l xab any xcb ch ha hll hiasome c1 c2 c3 (c4 a)).preE' ((HP.ent.refl _).sep2 ((HP.ent.refl _).sep2 (hU.sep2 (.refl _))))).weak (fun _ _ h => h) ?_
      rintro v R h ⟨rfl, g', l', any', ch', hA, H⟩
      obtain ⟨V', hs2, hI3, e1, e2⟩ := hI.ask hgg (Int.le_of_lt (hB.below (by rw [List.length_map]; omega) q _ hgg)) hA
      refine ⟨BRep x.1 g', ia, k, cap, PL kU ia k cap l', any', ch', rfl, ⟨inJ, fun _ => ⟨⟨j + 1, es.set q (x.1, g'), l', V', by omega, by omega, by simp, hea, by simp; omega, .of fun R h H => PL.join (K := kB) (y := (x.1, g')) hgq rfl H, by trivial, by trivial, by trivial, .refl _, by trivial, by have := hI3.px.len; rw [List.length_map] at this; exact this, ?_, ?_⟩, meas⟩⟩, H⟩
      · rw [List.map_set]; exact hB.set hgg e1 e2
      · rw [List.map_set]; exact hI3
  · refine (bStart_ok k 1000 0 (by omega) (RoB la last.length last) la _ lc last (RdL.ro _ _ _ _) rfl (by omega)).weak (fun _ _ h => h) ?_
    rintro v R h ⟨pb, rfl, H⟩
    refine ⟨pb, BRep pb (startB k 1000 0 last), RoB la last.length last, rfl, ?_, HP.sep_comm H⟩
    clear H
    have hjs : j ≤ 100 := by omega
    have hgl : (es.map (·.2)).length ≤ 1000 := by rw [List.length_map]; omega
    have hI2 := hI.begin hn1 (r := 1000) (w := 0) last (by omega) (by omega) (by omega) (by decide) fun i g hg => Int.ne_of_lt (hB.below hgl i g hg)
    have hhad := hI.ch
    generalize es.map (·.2) = gs at hI2
    refine ⟨fun i P any' ch' ua un uc U => ∃ (t : Nat) (g : BSt) (l : List UR) (V : Vt), i = t ∧ t ≤ 2 * k ∧ P = BRep pb g ∧ ia = ua ∧ k = un ∧ cap = uc ∧ HP.ent U (PL kU ia k cap l) ∧ l.length = k ∧ g.rnd = 1000 ∧ g.who = 0 ∧ LiveG k t g ∧ AloB k l (gs ++ [g]) V any' ch' (j + t) ∧ (any = true → ∃ b, ChosB k V b ch),
      fun i _ _ _ _ _ _ _ => 2 * k - i.toNat, ⟨0, _, l, V, rfl, Nat.zero_le _, rfl, rfl, rfl, rfl, hU, hll, rfl, rfl, live_start k hn1 _ _ _, hI2, hhad⟩, ?_⟩
    clear hI2 hhad hI hU hll V l U
    rintro _ _ any' ch' _ _ _ U ⟨t, g, l, V, rfl, ht, rfl, rfl, rfl, rfl, hU, hll, hg1, hg2, hL, hI, hhad⟩
    refine ⟨inI64 _ (by omega) (by omega), fun _ => ⟨fun hlt => ⟨by omega, fun _ => ?_⟩, fun hge => ?_⟩⟩
    · have hgg : (gs ++ [g])[gs.length]? = some g := by simp
      obtain ⟨c1, c2, c3, c4⟩ := hI.cond hn4 hgg
      have hmod : ((t : Nat) : Int).tmod (k : Int) = ((t % k : Nat) : Int) := Int.ofNat_tmod _ _
      have hbn : bnG g = bnN 1000 0 := by unfold bnG; rw [hg1, hg2]
      rw [hmod]
      refine ((askA_ok pb g (t % k) xub ia k cap l xab any' xcb ch' (Nat.mod_lt _ (by omega)) hll hiasome c1 c2 c3 (c4 _)).preE' ((HP.ent.refl _).sep2 ((HP.ent.refl _).sep2 (hU.sep2 (.refl _))))).weak (fun _ _ h => h) ?_
      rintro v R h ⟨rfl, g', l', any2, ch2, hA, H⟩
      obtain ⟨V', hs2, hI3, e1, e2⟩ := hI.ask hgg (Int.le_of_eq hbn) hA
      rw [set_last] at hI3
      refine ⟨BRep pb g', ia, k, cap, PL kU ia k cap l', any2, ch2, rfl, ⟨inI64 _ (by omega) (by omega), fun _ => ⟨⟨t + 1, g', l', V', by omega, by omega, by trivial, by trivial, by trivial, by trivial, .refl _, by have := hI3.px.len; rw [List.length_map] at this; exact this, e1.trans hg1, e2.trans hg2, live_ask hI (by omega) hgg hbn ⟨hn1, hn4⟩ (by omega) hL hA.1, hI3, fun h => ?_⟩, by dsimp only; omega⟩⟩, H⟩
      obtain ⟨b, hb⟩ := hhad h
      exact ⟨b, hb.more hs2⟩
    · obtain rfl : t = 2 * k := by omega
      have h3 := live_end hn1 hL
      refine (bPhaseR_ok pb g).weak (fun _ _ h => h) ?_
      rintro v R h ⟨rfl, H⟩
      refine ⟨_, rfl, ⟨fun _ => ⟨fun _ => .of fun R h H => trivial, fun ha => ?_⟩, fun h => absurd h3 h⟩, H⟩
      clear H
      refine (bValueR_ok pb g).weak (fun _ _ h => h) ?_
      rintro v R h ⟨va, vc, rfl, H⟩
      refine ⟨va, g.val.length, vc, RoB va g.val.length g.val, rfl, ⟨g.val, convT_ok (RdL.ro _ _ _ _) rfl, .of fun R h H => ?_⟩, H⟩
      obtain ⟨b, hb⟩ := hhad ha
      have := hI.px.agree ((hI.px.gg gs.length g (by simp)).p3 h3) hb
      show Value.bool (decide (g.val = ch)) = Value.bool true
      rw [decide_eq_true this]
end Go.Proofs.Ytmibmjehjagmbaa

/- What comes into BallotAlone, and its walk. No condition. -/
namespace Go.Proofs.Ytmibmjehjagmbaa
open Go.RowKit Go.ChangeShapes Go.WideShapes Go.Deep RX

set_option maxRecDepth 100000 in
theorem ballotAlone_walk {H : Type} (enc : TypeId × Value → H) (base : Nat) (v0 v1 v2 : Value) (w : World)
    (k0 : Value.okWide Try.prog w .any base 3 v0) (h0 : ∃ d p, DataW.Trod enc Try.prog w 0 (fun _ => true) true 3 v0 d p ∧ Small Try.prog 3 d)
    (k1 : Value.okWide Try.prog w .any base 51 v1) (h1 : ∃ d p, DataW.Trod enc Try.prog w 0 (fun _ => true) true 51 v1 d p ∧ Small Try.prog 51 d)
    (k2 : Value.okWide Try.prog w .any base 30 v2) (h2 : ∃ d p, DataW.Trod enc Try.prog w 0 (fun _ => true) true 30 v2 d p ∧ Small Try.prog 30 d) :
    Calls Try.prog 5 #[v0, v1, v2] w fun e w' => e = .returned (.bool true) ∧ Below w.heap.size w w' := by
  obtain ⟨n0, rfl, r0⟩ := int_openR k0 h0
  obtain ⟨a1, l1, c1, rfl, b1, z1⟩ := slice_open kStep10 Try.underlying51 (by kernel_rfl) (of_decide_eq_true (by kernel_rfl)) Step10.of_trod k1 h1
  obtain ⟨a2, l2, c2, rfl, b2, z2⟩ := bytes_openR k2 h2
  exact Tri.run (ballotAlone_ok n0 a1 c1 l1 a2 c2 l2) ⟨PH.none', PH.none', PH.dj_none _, PH.le.refl _, PH.le.refl _, z1 _, z2 _⟩
end Go.Proofs.Ytmibmjehjagmbaa
