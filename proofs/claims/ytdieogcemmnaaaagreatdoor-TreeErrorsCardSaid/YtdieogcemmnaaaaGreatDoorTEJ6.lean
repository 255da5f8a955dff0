/- Texts of this claim, joined: Lw4R, TrRef04, TrRd, Rdr, Eq04, TrLaw04R, Lw4S, Reach, Arr, TrRight04, Right, Lw4X. No condition. -/
import Derived.Test.YtdieogcemmnaaaaGreatDoorTEJ1
import Derived.Test.YtdieogcemmnaaaaGreatDoorTEJ5
import Derived.KernelRfl
import Derived.Laws.StructEq
import Derived.Sort.Walk0
set_option linter.unusedSimpArgs false
set_option linter.unusedVariables false
/- Law 4: what a rename leaves; a directory has one path. Plain. No condition. -/
namespace Go.Proofs.YtdieogcemmnaaaaGreatDoor
open Go.Proofs.YtdieogcemmnaaaaGreatDoor RX
set_option maxRecDepth 100000

/-- One step down. -/
def Step (T : List Nd) (d : Nat) (nm : Nm) (k : Nat) : Prop := ∃ n, nodeAt T d = some n ∧ n.kind = 1 ∧ lk n.ents nm = some k
theorem Step.det {T : List Nd} {d : Nat} {nm : Nm} {k j : Nat} (h : Step T d nm k) (g : Step T d nm j) : k = j := by
  obtain ⟨n, h1, _, h3⟩ := h
  obtain ⟨m, g1, _, g3⟩ := g
  rw [h1] at g1; cases g1
  rw [h3] at g3; cases g3; rfl
theorem walk_snoc {T : List Nd} {a : Nat} {l : List Nm} {nm : Nm} {k : Nat} : walkS T a (l ++ [nm]) = (k, 0) ↔ ∃ d, walkS T a l = (d, 0) ∧ Step T d nm k := by
  rw [walkS_app]
  constructor
  · intro h
    split at h
    · rename_i h0
      obtain ⟨n, h1, h2, h3⟩ := walk_one h
      exact ⟨_, Prod.ext rfl h0, n, h1, h2, h3⟩
    · rename_i h0
      rw [h] at h0; exact absurd rfl h0
  · rintro ⟨d, h1, n, h2, h3, h4⟩
    rw [h1]
    simp [walkS, h2, h3, h4]
theorem walk_pre {T : List Nd} {a : Nat} {l m : List Nm} {k : Nat} (h : walkS T a (l ++ m) = (k, 0)) : ∃ d, walkS T a l = (d, 0) ∧ walkS T d m = (k, 0) := by
  rw [walkS_app] at h
  split at h
  · rename_i h0
    exact ⟨_, Prod.ext rfl h0, h⟩
  · rename_i h0
    rw [h] at h0; exact absurd rfl h0
/-- What is reached from the root. -/
inductive Rch (T : List Nd) : Nat → Prop where
  | root : Rch T 0
  | step {d k : Nat} {w : Nm} : Rch T d → Step T d w k → Rch T k
theorem Rch.walk {T : List Nd} {j : Nat} (h : Rch T j) : ∃ l, walkS T 0 l = (j, 0) := by
  induction h with
  | root => exact ⟨[], rfl⟩
  | step _ hs ih => obtain ⟨l, hl⟩ := ih; exact ⟨_, walk_snoc.2 ⟨_, hl, hs⟩⟩
theorem Rch.of_walk {T : List Nd} : ∀ (N : Nat) (l : List Nm) (j : Nat), l.length ≤ N → walkS T 0 l = (j, 0) → Rch T j := by
  intro N
  induction N with
  | zero =>
    intro l j hl h
    obtain rfl := List.length_eq_zero_iff.1 (Nat.le_zero.1 hl)
    cases h; exact .root
  | succ N ih =>
    intro l j hl h
    rcases List.eq_nil_or_concat l with rfl | ⟨l', a, rfl⟩
    · cases h; exact .root
    · rw [List.concat_eq_append] at h hl
      obtain ⟨d, h1, h2⟩ := walk_snoc.1 h
      exact .step (ih l' d (by simp at hl; omega) h1) h2
theorem Rch.of {T : List Nd} {l : List Nm} {j : Nat} (h : walkS T 0 l = (j, 0)) : Rch T j := Rch.of_walk l.length l j (Nat.le_refl _) h
theorem Rch.find {T : List Nd} {s : Nm} (h : (findS T s).2 = 0) : Rch T (findS T s).1 := by
  unfold findS at h ⊢
  split at h
  · cases h
  · rename_i l hl
    exact Rch.of (l := l) (Prod.ext rfl h)
theorem cntE_pos {l : List (Nm × Nat)} {d : Nat} {a : Nm} (h : (a, d) ∈ l) : 1 ≤ cntE l d := by
  unfold cntE
  have : 0 < l.countP fun e => decide (e.2 = d) := List.countP_pos_iff.2 ⟨_, h, by simp⟩
  omega
theorem cntE_two {d : Nat} {a c : Nm} (hac : a ≠ c) : ∀ {l : List (Nm × Nat)}, (a, d) ∈ l → (c, d) ∈ l → 2 ≤ cntE l d
  | [], h, _ => by cases h
  | y :: r, h, g => by
    have hc : cntE (y :: r) d = cntE r d + if y.2 = d then 1 else 0 := by unfold cntE; rw [List.countP_cons]; simp
    rcases List.mem_cons.1 h with rfl | h1
    · rcases List.mem_cons.1 g with e | g1
      · injection e with e _; exact absurd e.symm hac
      · have := cntE_pos g1; rw [hc]; simp; omega
    · rcases List.mem_cons.1 g with rfl | g1
      · have := cntE_pos h1; rw [hc]; simp; omega
      · have := cntE_two hac h1 g1; rw [hc]; omega
theorem refs_mem {n : Nd} {k : Nat} : ∀ {T : List Nd}, n ∈ T → cntE n.ents k ≤ refs T k
  | [], h => by cases h
  | y :: r, h => by
    rw [refs_cons]
    rcases List.mem_cons.1 h with rfl | h
    · omega
    · have := refs_mem (k := k) h; omega
theorem refs_two {n m : Nd} {k : Nat} (hnm : n ≠ m) : ∀ {T : List Nd}, n ∈ T → m ∈ T → cntE n.ents k + cntE m.ents k ≤ refs T k
  | [], h, _ => by cases h
  | y :: r, h, g => by
    rw [refs_cons]
    rcases List.mem_cons.1 h with rfl | h1
    · rcases List.mem_cons.1 g with rfl | g1
      · exact absurd rfl hnm
      · have := refs_mem (k := k) g1; omega
    · rcases List.mem_cons.1 g with rfl | g1
      · have := refs_mem (k := k) h1; omega
      · have := refs_two (k := k) hnm h1 g1; omega
/-- One entry alone leads to a directory. -/
theorem dir_one {B : Nat} {T : List Nd} (wf : TWf B T) {d p q : Nat} {a c : Nm} {x : Nd} (hx : nodeAt T d = some x) (hk : x.kind = 1) (h : Step T p a d) (g : Step T q c d) : p = q ∧ a = c := by
  obtain ⟨n, h1, _, h3⟩ := h
  obtain ⟨m, g1, _, g3⟩ := g
  obtain ⟨hn, hnn, hnm⟩ := wf.at' h1
  obtain ⟨hm, hmn, hmm⟩ := wf.at' g1
  have hd0 : d ≠ 0 := (hn.name _ (lk_mem h3)).2
  have hc := wf.cnt' hx hd0
  have hl : x.links = 1 := by
    rcases (wf.at' hx).1.kind with ⟨_, _, h⟩ | ⟨h, _⟩
    · exact h
    · rw [hk] at h; cases h
  have h2 : refs T d = 1 := by omega
  by_cases e : n = m
  · subst e
    refine ⟨by omega, Classical.byContradiction fun hac => ?_⟩
    have := cntE_two hac (lk_mem h3) (lk_mem g3)
    have := refs_mem (k := d) hnm
    omega
  · have := refs_two (k := d) e hnm hmm
    have := cntE_pos (lk_mem h3)
    have := cntE_pos (lk_mem g3)
    omega
/-- A directory has one path. -/
theorem path_one {B : Nat} {T : List Nd} (wf : TWf B T) : ∀ (N : Nat) (l m : List Nm) (d : Nat) (x : Nd), l.length ≤ N → nodeAt T d = some x → x.kind = 1 → walkS T 0 l = (d, 0) → walkS T 0 m = (d, 0) → l = m := by
  have zero : ∀ (l : List Nm) (a : Nm), walkS T 0 (l ++ [a]) ≠ (0, 0) := fun l a h => by
    obtain ⟨d, _, n, h1, _, h3⟩ := walk_snoc.1 h
    exact ((wf.at' h1).1.name _ (lk_mem h3)).2 rfl
  intro N
  induction N with
  | zero =>
    intro l m d x hl hx hk h g
    obtain rfl := List.length_eq_zero_iff.1 (Nat.le_zero.1 hl)
    cases h
    rcases List.eq_nil_or_concat m with rfl | ⟨m', c, rfl⟩
    · rfl
    · rw [List.concat_eq_append] at g
      exact absurd g (zero m' c)
  | succ N ih =>
    intro l m d x hl hx hk h g
    rcases List.eq_nil_or_concat l with rfl | ⟨l', a, rfl⟩
    · cases h
      rcases List.eq_nil_or_concat m with rfl | ⟨m', c, rfl⟩
      · rfl
      · rw [List.concat_eq_append] at g
        exact absurd g (zero m' c)
    · rw [List.concat_eq_append] at h hl ⊢
      rcases List.eq_nil_or_concat m with rfl | ⟨m', c, rfl⟩
      · cases g
        exact absurd h (zero l' a)
      · rw [List.concat_eq_append] at g ⊢
        obtain ⟨p, h1, h2⟩ := walk_snoc.1 h
        obtain ⟨q, g1, g2⟩ := walk_snoc.1 g
        obtain ⟨rfl, rfl⟩ := dir_one wf hx hk h2 g2
        obtain ⟨y, hy, hyk, _⟩ := h2
        rw [ih l' m' p y (by simp at hl; omega) hy hyk h1 g1]
theorem path_one' {B : Nat} {T : List Nd} (wf : TWf B T) {l m : List Nm} {d : Nat} {x : Nd} (hx : nodeAt T d = some x) (hk : x.kind = 1) (h : walkS T 0 l = (d, 0)) (g : walkS T 0 m = (d, 0)) : l = m :=
  path_one wf l.length l m d x (Nat.le_refl _) hx hk h g
/-! entries put and dropped -/
theorem drop_put {nm : Nm} {k : Nat} : ∀ {l : List (Nm × Nat)}, lk l nm = none → dropE nm (putE nm k l) = l
  | [], _ => by simp [putE, dropE]
  | y :: r, h => by
    unfold lk at h
    split at h
    · cases h
    · rename_i hne
      have hd : dropE nm (y :: r) = y :: dropE nm r := by unfold dropE; rw [List.filter_cons, if_pos (by simpa using Ne.symm hne)]
      have ih := drop_put (k := k) h
      have hr : dropE nm r = r := by
        unfold dropE
        rw [List.filter_eq_self]
        intro z hz
        have hlr : ∀ {l : List (Nm × Nat)}, lk l nm = none → ∀ z ∈ l, z.1 ≠ nm := fun {l} => by
          induction l with
          | nil => intro _ z hz; cases hz
          | cons w q ihq =>
            intro h z hz
            unfold lk at h
            split at h
            · cases h
            · rename_i hw
              rcases List.mem_cons.1 hz with rfl | hz
              · exact Ne.symm hw
              · exact ihq h z hz
        simpa using hlr h z hz
      unfold putE
      split
      · unfold dropE at ih ⊢
        rw [List.filter_cons, if_pos (by simpa using Ne.symm hne), ih]
      · have : dropE nm ((nm, k) :: y :: r) = dropE nm (y :: r) := by unfold dropE; rw [List.filter_cons, if_neg (by simp)]
        rw [this, hd, hr]
theorem put_drop {nm : Nm} {k : Nat} : ∀ {l : List (Nm × Nat)}, (l.map (·.1)).Pairwise (· < ·) → lk l nm = some k → putE nm k (dropE nm l) = l
  | [], _, h => by cases h
  | y :: r, hs, h => by
    rw [List.map_cons, List.pairwise_cons] at hs
    unfold lk at h
    split at h
    · rename_i e
      cases h
      subst e
      have hall : ∀ z ∈ r, y.1 < z.1 := fun z hz => hs.1 _ (List.mem_map.2 ⟨z, hz, rfl⟩)
      have hd : dropE y.1 (y :: r) = r := by
        unfold dropE
        rw [List.filter_cons, if_neg (by simp), List.filter_eq_self]
        intro z hz
        have := hall z hz
        simp only [ne_eq, decide_not, Bool.not_eq_eq_eq_not, Bool.not_true, decide_eq_false_iff_not]
        intro q
        rw [q] at this
        exact List.lt_irrefl _ this
      rw [hd]
      cases r with
      | nil => rfl
      | cons z q =>
        unfold putE
        rw [if_neg fun hl => List.lt_irrefl _ (List.lt_trans hl (hall z (by simp)))]
    · rename_i hne
      have hm := lk_mem h
      have hlt : y.1 < nm := hs.1 _ (List.mem_map.2 ⟨_, hm, rfl⟩)
      have hd : dropE nm (y :: r) = y :: dropE nm r := by unfold dropE; rw [List.filter_cons, if_pos (by simpa using Ne.symm hne)]
      rw [hd]
      unfold putE
      rw [if_pos hlt, put_drop hs.2 h]
theorem split_inj {s t : Nm} {l : List Nm} (h : splitP s = some l) (g : splitP t = some l) : s = t := by
  have key : ∀ {s : Nm} {l : List Nm}, splitP s = some l → s = joinP l := fun {s l} h => by
    cases s with
    | nil => simp [splitP] at h
    | cons b r =>
      unfold splitP at h
      by_cases e : b :: r = [47]
      · rw [if_pos e] at h; cases h; exact e
      · rw [if_neg e] at h
        simp only at h
        by_cases hb : b = 47
        · rw [if_pos hb] at h
          by_cases hc : (splitB 47 r).length ≤ 8 ∧ (splitB 47 r).all nameOk = true
          · rw [if_pos hc] at h
            cases h
            have e2 := splitB_join 47 r
            unfold joinP
            rw [if_neg]
            · rw [hb]; exact e2.symm
            · intro q; rw [q] at e2; cases e2
          · rw [if_neg hc] at h; cases h
        · rw [if_neg hb] at h; cases h
  rw [key h, key g]
theorem find_iff {T : List Nd} {s : Nm} {k : Nat} {l : List Nm} (h : splitP s = some l) : findS T s = walkS T 0 l := findS_split h
/-- What a rename that does something leaves. -/
structure Moved (T : List Nd) (p q : Nm) (T' : List Nd) : Prop where
  stat : statS T' q = statS T p
  gone : (findS T' p).2 ≠ 0
  len : T'.length = T.length
  back : renameS T' q p = (T, 0)
  rch : ∀ j, Rch T j → Rch T' j
  nums : T'.map (·.num) = T.map (·.num)
theorem lk_setE {T : List Nd} {u : Nat} {g : List (Nm × Nat) → List (Nm × Nat)} {d : Nat} {nm : Nm} {k : Nat} : Step (setP T u (fE g)) d nm k ↔ ∃ n, nodeAt T d = some n ∧ n.kind = 1 ∧ lk (if d = u then g n.ents else n.ents) nm = some k := by
  unfold Step
  rw [nodeAt_set (fE_num _)]
  by_cases e : d = u
  · subst e
    simp only [if_true]
    constructor
    · rintro ⟨n, h1, h2, h3⟩
      obtain ⟨m, h4, rfl⟩ := Option.map_eq_some_iff.1 h1
      exact ⟨m, h4, h2, h3⟩
    · rintro ⟨n, h1, h2, h3⟩
      exact ⟨fE g n, by rw [h1]; rfl, h2, h3⟩
  · simp only [if_neg e]
/-- Steps behind a rename. -/
theorem step_moved {T : List Nd} {u1 u2 a : Nat} {o nm : Nm} (hx : ∃ x, nodeAt T u1 = some x ∧ x.kind = 1 ∧ lk x.ents o = some a) (hy : ∃ y, nodeAt T u2 = some y ∧ y.kind = 1 ∧ lk y.ents nm = none) (d : Nat) (w : Nm) (k : Nat) :
    Step (setP (setP T u1 (fE (dropE o))) u2 (fE (putE nm a))) d w k ↔ (d = u2 ∧ w = nm ∧ k = a) ∨ (Step T d w k ∧ ¬ (d = u1 ∧ w = o)) := by
  obtain ⟨x, x1, x2, x3⟩ := hx
  obtain ⟨y, y1, y2, y3⟩ := hy
  rw [lk_setE]
  have key : (∃ n, nodeAt (setP T u1 (fE (dropE o))) d = some n ∧ n.kind = 1 ∧ lk (if d = u2 then putE nm a n.ents else n.ents) w = some k) ↔ ∃ n, nodeAt T d = some n ∧ n.kind = 1 ∧ lk (if d = u2 then putE nm a (if d = u1 then dropE o n.ents else n.ents) else (if d = u1 then dropE o n.ents else n.ents)) w = some k := by
    rw [nodeAt_set (fE_num _)]
    by_cases e : d = u1
    · subst e
      simp only [if_true]
      constructor
      · rintro ⟨n, h1, h2, h3⟩
        obtain ⟨m, h4, rfl⟩ := Option.map_eq_some_iff.1 h1
        exact ⟨m, h4, h2, h3⟩
      · rintro ⟨n, h1, h2, h3⟩
        exact ⟨fE (dropE o) n, by rw [h1]; rfl, h2, h3⟩
    · simp only [if_neg e]
  rw [key]
  constructor
  · rintro ⟨n, h1, h2, h3⟩
    by_cases e2 : d = u2
    · rw [if_pos e2, lk_put] at h3
      by_cases ew : w = nm
      · rw [if_pos ew] at h3; cases h3; exact .inl ⟨e2, ew, rfl⟩
      · rw [if_neg ew] at h3
        right
        by_cases e1 : d = u1
        · rw [if_pos e1, lk_drop] at h3
          by_cases eo : w = o
          · rw [if_pos eo] at h3; cases h3
          · rw [if_neg eo] at h3
            exact ⟨⟨n, h1, h2, h3⟩, fun q => eo q.2⟩
        · rw [if_neg e1] at h3
          exact ⟨⟨n, h1, h2, h3⟩, fun q => e1 q.1⟩
    · rw [if_neg e2] at h3
      right
      by_cases e1 : d = u1
      · rw [if_pos e1, lk_drop] at h3
        by_cases eo : w = o
        · rw [if_pos eo] at h3; cases h3
        · rw [if_neg eo] at h3
          exact ⟨⟨n, h1, h2, h3⟩, fun q => eo q.2⟩
      · rw [if_neg e1] at h3
        exact ⟨⟨n, h1, h2, h3⟩, fun q => e1 q.1⟩
  · rintro (⟨rfl, rfl, rfl⟩ | ⟨⟨n, h1, h2, h3⟩, hno⟩)
    · exact ⟨y, y1, y2, by rw [if_pos rfl, lk_put, if_pos rfl]⟩
    · refine ⟨n, h1, h2, ?_⟩
      have hd : lk (if d = u1 then dropE o n.ents else n.ents) w = some k := by
        by_cases e1 : d = u1
        · rw [if_pos e1, lk_drop, if_neg fun eo => hno ⟨e1, eo⟩]; exact h3
        · rw [if_neg e1]; exact h3
      by_cases e2 : d = u2
      · rw [if_pos e2, lk_put]
        by_cases ew : w = nm
        · subst e2; subst ew
          rw [y1] at h1; cases h1
          rw [y3] at h3; cases h3
        · rw [if_neg ew]; exact hd
      · rw [if_neg e2]; exact hd
/-- A walk that does not use what was dropped. -/
theorem walk_kept {T T' : List Nd} {u1 : Nat} {o : Nm} (hs : ∀ d w k, Step T d w k → ¬ (d = u1 ∧ w = o) → Step T' d w k) : ∀ (N : Nat) (l : List Nm) (k : Nat), l.length ≤ N → walkS T 0 l = (k, 0) → (∀ P Q, l = P ++ o :: Q → walkS T 0 P ≠ (u1, 0)) → walkS T' 0 l = (k, 0) := by
  intro N
  induction N with
  | zero =>
    intro l k hl h _
    obtain rfl := List.length_eq_zero_iff.1 (Nat.le_zero.1 hl)
    exact h
  | succ N ih =>
    intro l k hl h hno
    rcases List.eq_nil_or_concat l with rfl | ⟨l', a, rfl⟩
    · exact h
    · rw [List.concat_eq_append] at h hl hno ⊢
      obtain ⟨p, h1, h2⟩ := walk_snoc.1 h
      refine walk_snoc.2 ⟨p, ih l' p (by simp at hl; omega) h1 (fun P Q e => hno P (Q ++ [a]) (by rw [e]; simp)), hs _ _ _ h2 ?_⟩
      rintro ⟨rfl, rfl⟩
      exact hno l' [] (by simp) h1
theorem find_none {T : List Nd} {s : Nm} (h : splitP s = none) : (findS T s).2 = 20 := by unfold findS; rw [h]
theorem renamed {B : Nat} {T : List Nd} (wf : TWf B T) {p q : Nm} (hne : q ≠ p) (h : (renameS T p q).2 = 0) : Moved T p q (renameS T p q).1 := by
  unfold renameS at h ⊢
  by_cases c1 : (entryS T p).2.2.2 ≠ 0
  · rw [if_pos c1] at h; exact absurd h c1
  rw [if_neg c1, if_neg hne] at h ⊢
  by_cases c2 : insideP q p = true
  · rw [if_pos c2] at h; cases h
  rw [if_neg c2] at h ⊢
  by_cases c3 : (placeS T q).2.2 ≠ 0
  · rw [if_pos c3] at h; exact absurd h c3
  rw [if_neg c3]
  clear h
  have c1' : (entryS T p).2.2.2 = 0 := by simpa using c1
  have c3' : (placeS T q).2.2 = 0 := by simpa using c3
  obtain ⟨x, x1, x2, x3, ab, x4, x5, x6, x7, x8⟩ := entry_ok' c1'
  obtain ⟨y, y1, y2, y3, y4⟩ := place_at c3'
  obtain ⟨ab2, z4, z5, z6⟩ : ∃ ab2, parentS q = some (ab2, (placeS T q).2.1) ∧ (findS T ab2).1 = (placeS T q).1 ∧ (findS T ab2).2 = 0 := by
    unfold placeS at c3' ⊢
    cases hs : parentS q with
    | none => rw [hs] at c3'; simp at c3'
    | some w =>
      obtain ⟨ab2, nm⟩ := w
      rw [hs] at c3'
      simp only at c3' ⊢
      by_cases hc : (findS T ab2).2 ≠ 0
      · rw [if_pos hc] at c3'; exact absurd c3' hc
      · rw [if_neg hc] at c3' ⊢
        cases hx : nodeAt T (findS T ab2).1 with
        | none => rw [hx] at c3'; simp at c3'
        | some x =>
          rw [hx] at c3'
          simp only at c3' ⊢
          by_cases hk : x.kind ≠ 1
          · rw [if_pos hk] at c3'; simp at c3'
          · rw [if_neg hk] at c3' ⊢
            by_cases hl : (lk x.ents nm).isSome = true
            · rw [if_pos hl] at c3'; simp at c3'
            · rw [if_neg hl]
              exact ⟨ab2, rfl, rfl, by simpa using hc⟩
  clear c1 c3 c1' c3'
  generalize (entryS T p).1 = u1 at *
  generalize (entryS T p).2.1 = o at *
  generalize (entryS T p).2.2.1 = a at *
  generalize (placeS T q).1 = u2 at *
  generalize (placeS T q).2.1 = nm at *
  obtain ⟨L1, s1, s2⟩ := parentS_some x4
  obtain ⟨L2, s3, s4⟩ := parentS_some z4
  have w1 : walkS T 0 L1 = (u1, 0) := by rw [← findS_split s2]; exact Prod.ext x5 x6
  have w1o : walkS T 0 (L1 ++ [o]) = (a, 0) := by rw [← findS_split s1]; exact Prod.ext x7 x8
  have w2 : walkS T 0 L2 = (u2, 0) := by rw [← findS_split s4]; exact Prod.ext z5 z6
  have nin : ∀ Q, L2 ≠ L1 ++ o :: Q := fun Q e => c2 (by
    unfold insideP
    rw [s3, s1, e]
    have : (L1 ++ o :: Q ++ [nm]).take (L1 ++ [o]).length = L1 ++ [o] := by
      rw [show L1 ++ o :: Q ++ [nm] = (L1 ++ [o]) ++ (Q ++ [nm]) by simp, List.take_left]
    simp only [this]
    simp)
  have steps := step_moved (T := T) (u1 := u1) (u2 := u2) (a := a) (o := o) (nm := nm) ⟨x, x1, x2, x3⟩ ⟨y, y1, y2, y3⟩
  have hne12 : ¬ (u1 = u2 ∧ o = nm) := by
    rintro ⟨rfl, rfl⟩
    rw [x1] at y1; cases y1
    rw [x3] at y3; cases y3
  -- the walks behind it
  have w2' : walkS (setP (setP T u1 (fE (dropE o))) u2 (fE (putE nm a))) 0 L2 = (u2, 0) := by
    refine walk_kept (T := T) (u1 := u1) (o := o) (fun d w k hs hno => (steps d w k).2 (.inr ⟨hs, hno⟩)) L2.length L2 u2 (Nat.le_refl _) w2 fun P Q e hP => ?_
    have : P = L1 := path_one' wf x1 x2 hP w1
    subst this
    exact nin Q e
  have w1' : walkS (setP (setP T u1 (fE (dropE o))) u2 (fE (putE nm a))) 0 L1 = (u1, 0) := by
    refine walk_kept (T := T) (u1 := u1) (o := o) (fun d w k hs hno => (steps d w k).2 (.inr ⟨hs, hno⟩)) L1.length L1 u1 (Nat.le_refl _) w1 fun P Q e hP => ?_
    have : P = L1 := path_one' wf x1 x2 hP w1
    subst this
    have := congrArg List.length e
    simp at this
  have w2n : walkS (setP (setP T u1 (fE (dropE o))) u2 (fE (putE nm a))) 0 (L2 ++ [nm]) = (a, 0) := walk_snoc.2 ⟨u2, w2', (steps _ _ _).2 (.inl ⟨rfl, rfl, rfl⟩)⟩
  have nostep : ∀ k, ¬ Step (setP (setP T u1 (fE (dropE o))) u2 (fE (putE nm a))) u1 o k := fun k hk => by
    rcases (steps _ _ _).1 hk with ⟨h1, h2, _⟩ | ⟨_, h2⟩
    · exact hne12 ⟨h1, h2⟩
    · exact h2 ⟨rfl, rfl⟩
  have ha1 : a ≠ u1 := by
    rintro rfl
    have := path_one' wf x1 x2 w1 w1o
    have := congrArg List.length this
    simp at this
  have ha2 : a ≠ u2 := by
    rintro rfl
    have := path_one' wf y1 y2 w2 w1o
    exact nin [] this
  have f2n : findS (setP (setP T u1 (fE (dropE o))) u2 (fE (putE nm a))) q = (a, 0) := by rw [findS_split s3]; exact w2n
  have f2 : findS (setP (setP T u1 (fE (dropE o))) u2 (fE (putE nm a))) ab2 = (u2, 0) := by rw [findS_split s4]; exact w2'
  have f1 : findS (setP (setP T u1 (fE (dropE o))) u2 (fE (putE nm a))) ab = (u1, 0) := by rw [findS_split s2]; exact w1'
  have n1 : ∃ n, nodeAt (setP (setP T u1 (fE (dropE o))) u2 (fE (putE nm a))) u1 = some n ∧ n.kind = 1 := by
    rw [nodeAt_set (fE_num _), nodeAt_set (fE_num _)]
    by_cases e : u1 = u2
    · rw [if_pos e, ← e, if_pos rfl, x1]
      exact ⟨_, rfl, x2⟩
    · rw [if_neg e, nodeAt_set (fE_num _), if_pos rfl, x1]
      exact ⟨_, rfl, x2⟩
  constructor
  · unfold statS
    rw [f2n, if_neg (by simp), if_neg (by rw [x8]; simp), x7]
    have e : nodeAt (setP (setP T u1 (fE (dropE o))) u2 (fE (putE nm a))) a = nodeAt T a := by
      rw [nodeAt_set (fE_num _), if_neg ha2, nodeAt_set (fE_num _), if_neg ha1]
    simp only
    rw [e]
  · intro h0
    have : findS (setP (setP T u1 (fE (dropE o))) u2 (fE (putE nm a))) p = ((findS (setP (setP T u1 (fE (dropE o))) u2 (fE (putE nm a))) p).1, 0) := Prod.ext rfl h0
    rw [findS_split s1] at this
    obtain ⟨d, h1, h2⟩ := walk_snoc.1 this
    rw [w1'] at h1; cases h1
    exact nostep _ h2
  · unfold setP; simp
  · have he : entryS (setP (setP T u1 (fE (dropE o))) u2 (fE (putE nm a))) q = (u2, nm, a, 0) := by
      unfold entryS
      rw [z4]
      simp only
      rw [f2n, f2]
      simp
    have hp : placeS (setP (setP T u1 (fE (dropE o))) u2 (fE (putE nm a))) p = (u1, o, 0) := by
      unfold placeS
      rw [x4]
      simp only
      rw [f1]
      obtain ⟨n, g1, g2⟩ := n1
      simp only [ne_eq, not_true_eq_false, if_false]
      rw [g1]
      simp only [g2, not_true_eq_false, if_false]
      rw [if_neg]
      intro hs
      obtain ⟨k, hk⟩ := Option.isSome_iff_exists.1 hs
      exact nostep k ⟨n, g1, g2, hk⟩
    have hin : insideP p q ≠ true := fun hi => by
      unfold insideP at hi
      rw [s1, s3] at hi
      simp only [Bool.and_eq_true, decide_eq_true_eq] at hi
      obtain ⟨hl, e⟩ := hi
      have e2 : L1 ++ [o] = (L2 ++ [nm]) ++ (L1 ++ [o]).drop (L2 ++ [nm]).length := by
        conv => lhs; rw [← List.take_append_drop (L2 ++ [nm]).length (L1 ++ [o])]
        rw [← e]
      rw [e2] at w1o
      obtain ⟨d, h1, _⟩ := walk_pre w1o
      obtain ⟨e', h2, h3⟩ := walk_snoc.1 h1
      rw [w2] at h2; cases h2
      obtain ⟨n, g1, _, g3⟩ := h3
      rw [y1] at g1; cases g1
      rw [y3] at g3; cases g3
    unfold renameS
    rw [he, hp]
    simp only [ne_eq, not_true_eq_false, if_false]
    rw [if_neg (Ne.symm hne), if_neg hin]
    refine Prod.ext ?_ rfl
    show setP (setP (setP (setP T u1 (fE (dropE o))) u2 (fE (putE nm a))) u2 (fE (dropE nm))) u1 (fE (putE o a)) = T
    have hb : setP (setP (setP T u1 (fE (dropE o))) u2 (fE (putE nm a))) u2 (fE (dropE nm)) = setP T u1 (fE (dropE o)) := by
      unfold setP
      rw [List.map_map, List.map_map]
      refine List.map_congr_left fun n hn => ?_
      have hna : nodeAt T n.num = some n := mem_nodeAt wf.nd hn
      simp only [Function.comp]
      have hu1 : (if n.num = u1 then fE (dropE o) n else n).num = n.num := by split <;> rfl
      rw [hu1]
      by_cases e2 : n.num = u2
      · rw [if_pos e2]
        have hu2 : (fE (putE nm a) (if n.num = u1 then fE (dropE o) n else n)).num = n.num := by rw [fE_num, hu1]
        rw [hu2, if_pos e2]
        rw [e2, y1] at hna
        cases hna
        have hl : lk (if y.num = u1 then fE (dropE o) y else y).ents nm = none := by
          split
          · show lk (dropE o y.ents) nm = none
            rw [lk_drop]; split
            · rfl
            · exact y3
          · exact y3
        generalize (if y.num = u1 then fE (dropE o) y else y) = m at hl
        show ({ m with ents := dropE nm (putE nm a m.ents) } : Nd) = m
        rw [drop_put hl]
      · rw [if_neg e2, hu1, if_neg e2]
    rw [hb]
    unfold setP
    rw [List.map_map]
    conv => rhs; rw [← List.map_id T]
    refine List.map_congr_left fun n hn => ?_
    have hna : nodeAt T n.num = some n := mem_nodeAt wf.nd hn
    simp only [Function.comp, id]
    by_cases e1 : n.num = u1
    · rw [if_pos e1, fE_num, if_pos e1]
      rw [e1, x1] at hna
      cases hna
      show ({ x with ents := putE o a (dropE o x.ents) } : Nd) = x
      rw [put_drop (wf.at' x1).1.sort x3]
    · rw [if_neg e1, if_neg e1]
  · intro j hj
    induction hj with
    | root => exact .root
    | @step d k w hd hs ih =>
      by_cases e : d = u1 ∧ w = o
      · obtain ⟨rfl, rfl⟩ := e
        have : k = a := hs.det ⟨x, x1, x2, x3⟩
        rw [this]
        exact Rch.of w2n
      · exact .step ih ((steps d w k).2 (.inr ⟨hs, e⟩))
  · rw [setP_nums (fE_num _), setP_nums (fE_num _)]
theorem rename_err {T : List Nd} {p q : Nm} (h : (renameS T p q).2 ≠ 0 ∨ q = p) : (renameS T p q).1 = T := by
  unfold renameS at h ⊢
  split
  · rfl
  · split
    · rfl
    · split
      · rfl
      · split
        · rfl
        · rename_i h1 h2 h3 h4
          rw [if_neg h1, if_neg h2, if_neg h3, if_neg h4] at h
          rcases h with h | h
          · exact absurd rfl h
          · exact absurd h h2
end Go.Proofs.YtdieogcemmnaaaaGreatDoor

/- Trees of functions, printed by rx.lean. No condition. -/
namespace Go.Proofs.YtdieogcemmnaaaaGreatDoor.RX
set_option maxRecDepth 100000
-- tideline/tidelineref01.Same: ρ := [.a aa, .n al, .n ac, .p aP, .a ba, .n bl, .n bc, .p bP]
def t_same01 : T :=
(.br (.o1 .not (.o2 .eq (.o1 .ofNat (.v 1)) (.o1 .ofNat (.v 5))))
 (.ret (.w (.a (.bool (.c false)))) [((.a 0), (.prop 3)), ((.a 4), (.prop 7))])
 (.loop [.c, .i] [(.e (.o1 .not (.o1 .not (.c false)))), (.e (.o1 .neg (.o1 .neg (.i 0))))]
  (.br (.o2 .lt (.v 9) (.o1 .ofNat (.v 1)))
   (.need (.o2 .le (.i 0) (.v 9))
   (.need (.o1 .isSome (.v 0))
   (.read (.load 5 (.tmp 19)) 5 [(19, (.w (.a (.eptr 0 (.v 9) 1 0))))] [((.a 0), (.prop 3))] [.i] (.w (.a (.int .u8 (.v 10))))
   (.need (.o2 .lt (.v 9) (.o1 .ofNat (.v 5)))
   (.need (.o1 .isSome (.v 4))
   (.read (.load 5 (.tmp 23)) 5 [(23, (.w (.a (.eptr 4 (.v 9) 1 0))))] [((.a 4), (.prop 7))] [.i] (.w (.a (.int .u8 (.v 11))))
   (.br (.o1 .not (.o2 .eq (.v 10) (.v 11)))
    (.ret (.w (.a (.bool (.c false)))) [((.a 0), (.prop 3)), ((.a 4), (.prop 7))])
    (.need (.o1 (.inr .i64) (.o2 .add (.v 9) (.i 1)))
    (.again 0 [(.e (.o1 .not (.o1 .not (.v 8)))), (.e (.o1 .neg (.o1 .neg (.o2 .add (.v 9) (.i 1)))))])))))))))
   (.ret (.w (.a (.bool (.c true)))) [((.a 0), (.prop 3)), ((.a 4), (.prop 7))]))))
theorem tree_same01 : tree Tryz.prog { absT := [], opq := [], hv := [], keep := [30, 76, 78], link := [], ent := [], turn := [], shr := [], vt := [], mkd := [], rlink := [], pty := [], outl := false, stay := [], snk := [], rdf := true } Tryz.f30 [(.a (.sl (.v 0) (.v 1) (.v 2))), (.a (.sl (.v 4) (.v 5) (.v 6)))] [((.a 0), (.prop 3)), ((.a 4), (.prop 7))] 8 = t_same01 := by kernel_rfl
-- tideline/tidelineref03.SameTexts: ρ := [.a aa, .n al, .n ac, .p aP, .a ba, .n bl, .n bc, .p bP]
def t_sameTexts : T :=
(.br (.o1 .not (.o2 .eq (.o1 .ofNat (.v 1)) (.o1 .ofNat (.v 5))))
 (.ret (.w (.a (.bool (.c false)))) [((.a 0), (.prop 3)), ((.a 4), (.prop 7))])
 (.loop [.c, .i] [(.e (.o1 .not (.o1 .not (.c false)))), (.e (.o1 .neg (.o1 .neg (.i 0))))]
  (.br (.o2 .lt (.v 9) (.o1 .ofNat (.v 1)))
   (.need (.o2 .le (.i 0) (.v 9))
   (.need (.o1 .isSome (.v 0))
   (.read (.load 9 (.tmp 19)) 9 [(19, (.w (.a (.eptr 0 (.v 9) 1 0))))] [((.a 0), (.prop 3))] [.s] (.w (.a (.str (.v 10))))
   (.need (.o2 .lt (.v 9) (.o1 .ofNat (.v 5)))
   (.need (.o1 .isSome (.v 4))
   (.read (.load 9 (.tmp 23)) 9 [(23, (.w (.a (.eptr 4 (.v 9) 1 0))))] [((.a 4), (.prop 7))] [.s] (.w (.a (.str (.v 11))))
   (.br (.o1 .not (.o2 .seq (.v 10) (.v 11)))
    (.ret (.w (.a (.bool (.c false)))) [((.a 0), (.prop 3)), ((.a 4), (.prop 7))])
    (.need (.o1 (.inr .i64) (.o2 .add (.v 9) (.i 1)))
    (.again 0 [(.e (.o1 .not (.o1 .not (.v 8)))), (.e (.o1 .neg (.o1 .neg (.o2 .add (.v 9) (.i 1)))))])))))))))
   (.ret (.w (.a (.bool (.c true)))) [((.a 0), (.prop 3)), ((.a 4), (.prop 7))]))))
theorem tree_sameTexts : tree Tryz.prog { absT := [], opq := [], hv := [], keep := [30, 76, 78], link := [], ent := [], turn := [], shr := [], vt := [], mkd := [], rlink := [], pty := [], outl := false, stay := [], snk := [], rdf := true } Tryz.f76 [(.a (.sl (.v 0) (.v 1) (.v 2))), (.a (.sl (.v 4) (.v 5) (.v 6)))] [((.a 0), (.prop 3)), ((.a 4), (.prop 7))] 8 = t_sameTexts := by kernel_rfl
-- tideline/tidelineref03.Name: ρ := [.s s]
def t_name03 : T :=
(.loop [.c, .i] [(.e (.o1 .not (.o1 .not (.c false)))), (.e (.o1 .neg (.o1 .neg (.i 0))))]
 (.br (.o2 .lt (.v 2) (.o1 .ofNat (.o1 .size (.v 0))))
  (.read (.index 9 (.tmp 10) (.tmp 11)) 5 [(10, (.w (.a (.str (.v 0))))), (11, (.w (.a (.int .i64 (.v 2)))))] [] [.i] (.w (.a (.int .u8 (.v 3))))
  (.br (.o2 .eq (.v 3) (.i 47))
   (.ret (.w (.a (.bool (.c false)))) [])
   (.read (.index 9 (.tmp 15) (.tmp 16)) 5 [(15, (.w (.a (.str (.v 0))))), (16, (.w (.a (.int .i64 (.v 2)))))] [] [.i] (.w (.a (.int .u8 (.v 4))))
   (.br (.o2 .eq (.v 4) (.i 0))
    (.ret (.w (.a (.bool (.c false)))) [])
    (.need (.o1 (.inr .i64) (.o2 .add (.v 2) (.i 1)))
    (.again 0 [(.e (.o1 .not (.o1 .not (.v 1)))), (.e (.o1 .neg (.o1 .neg (.o2 .add (.v 2) (.i 1)))))]))))))
  (.br (.o2 .le (.i 1) (.o1 .ofNat (.o1 .size (.v 0))))
   (.br (.o2 .le (.o1 .ofNat (.o1 .size (.v 0))) (.i 16))
    (.br (.o1 .not (.o2 .seq (.v 0) (.s [46])))
     (.ret (.w (.a (.bool (.o1 .not (.o2 .seq (.v 0) (.s [46, 46])))))) [])
     (.ret (.w (.a (.bool (.c false)))) []))
    (.ret (.w (.a (.bool (.c false)))) []))
   (.ret (.w (.a (.bool (.c false)))) []))))
theorem tree_name03 : tree Tryz.prog { absT := [], opq := [], hv := [], keep := [30, 76, 78], link := [], ent := [], turn := [], shr := [], vt := [], mkd := [], rlink := [], pty := [], outl := false, stay := [], snk := [], rdf := true } Tryz.f78 [(.a (.str (.v 0)))] [] 1 = t_name03 := by kernel_rfl
-- tideline/tidelineref04.SameAnswer: ρ := [.i a_Err, .i a_Kind, .i a_Size, .i a_Links, .a a_Dataa, .n a_Datal, .n a_Datac, .p a_DataP, .a a_Namesa, .n a_Namesl, .n a_Namesc, .p a_NamesP, .i b_Err, .i b_Kind, .i b_Size, .i b_Links, .a b_Dataa, .n b_Datal, .n b_Datac, .p b_DataP, .a b_Namesa, .n b_Namesl, .n b_Namesc, .p b_NamesP]
def t_sameAnswer : T :=
(.new
(.new
(.br (.o2 .eq (.v 0) (.v 12))
 (.br (.o2 .eq (.v 1) (.v 13))
  (.br (.o2 .eq (.v 2) (.v 14))
   (.br (.o2 .eq (.v 3) (.v 15))
    (.call 30 [(.a (.sl (.v 4) (.v 5) (.v 6))), (.a (.sl (.v 16) (.v 17) (.v 18)))] [((.a 4), (.prop 7)), ((.a 16), (.prop 19))] [.c] (.w (.a (.bool (.v 26)))) [((.a 4), (.prop 7)), ((.a 16), (.prop 19))]
    (.br (.v 26)
     (.call 76 [(.a (.sl (.v 8) (.v 9) (.v 10))), (.a (.sl (.v 20) (.v 21) (.v 22)))] [((.a 8), (.prop 11)), ((.a 20), (.prop 23))] [.c] (.w (.a (.bool (.v 27)))) [((.a 8), (.prop 11)), ((.a 20), (.prop 23))]
     (.ret (.w (.a (.bool (.v 27)))) [((.a 4), (.prop 7)), ((.a 8), (.prop 11)), ((.a 16), (.prop 19)), ((.a 20), (.prop 23))]))
     (.ret (.w (.a (.bool (.c false)))) [((.a 4), (.prop 7)), ((.a 8), (.prop 11)), ((.a 16), (.prop 19)), ((.a 20), (.prop 23))])))
    (.ret (.w (.a (.bool (.c false)))) [((.a 4), (.prop 7)), ((.a 8), (.prop 11)), ((.a 16), (.prop 19)), ((.a 20), (.prop 23))]))
   (.ret (.w (.a (.bool (.c false)))) [((.a 4), (.prop 7)), ((.a 8), (.prop 11)), ((.a 16), (.prop 19)), ((.a 20), (.prop 23))]))
  (.ret (.w (.a (.bool (.c false)))) [((.a 4), (.prop 7)), ((.a 8), (.prop 11)), ((.a 16), (.prop 19)), ((.a 20), (.prop 23))]))
 (.ret (.w (.a (.bool (.c false)))) [((.a 4), (.prop 7)), ((.a 8), (.prop 11)), ((.a 16), (.prop 19)), ((.a 20), (.prop 23))]))))
theorem tree_sameAnswer : tree Tryz.prog { absT := [], opq := [], hv := [], keep := [30, 76, 78], link := [], ent := [], turn := [], shr := [], vt := [], mkd := [], rlink := [], pty := [], outl := false, stay := [], snk := [], rdf := true } Tryz.f21 [(.agg [(.int .i64 (.v 0)), (.int .i64 (.v 1)), (.int .i64 (.v 2)), (.int .i64 (.v 3)), (.sl (.v 4) (.v 5) (.v 6)), (.sl (.v 8) (.v 9) (.v 10))]), (.agg [(.int .i64 (.v 12)), (.int .i64 (.v 13)), (.int .i64 (.v 14)), (.int .i64 (.v 15)), (.sl (.v 16) (.v 17) (.v 18)), (.sl (.v 20) (.v 21) (.v 22))])] [((.a 4), (.prop 7)), ((.a 8), (.prop 11)), ((.a 16), (.prop 19)), ((.a 20), (.prop 23))] 24 = t_sameAnswer := by kernel_rfl
-- tideline/tidelineref04.SameNodes: ρ := [.a aa, .n al, .n ac, .p aP, .a ba, .n bl, .n bc, .p bP]
def t_sameNodes : T :=
(.br (.o1 .not (.o2 .eq (.o1 .ofNat (.v 1)) (.o1 .ofNat (.v 5))))
 (.ret (.w (.a (.bool (.c false)))) [((.a 0), (.prop 3)), ((.a 4), (.prop 7))])
 (.loop [.c, .i] [(.e (.o1 .not (.o1 .not (.c false)))), (.e (.o1 .neg (.o1 .neg (.i 0))))]
  (.br (.o2 .lt (.v 9) (.o1 .ofNat (.v 1)))
   (.join [.n, .n, .i, .i, .i, .a, .n, .n, .a, .n, .n, .i, .i, .i, .a, .n, .n, .a, .n, .n]
    (.need (.o2 .le (.i 0) (.v 9))
    (.need (.o1 .isSome (.v 0))
    (.read (.load 43 (.tmp 22)) 43 [(22, (.w (.a (.eptr 0 (.v 9) 5 0))))] [((.a 0), (.prop 3))] [.i, .i, .i, .a, .n, .n, .a, .n, .n] (.w (.agg [(.int .i64 (.v 10)), (.int .i64 (.v 11)), (.int .i64 (.v 12)), (.sl (.v 13) (.v 14) (.v 15)), (.sl (.v 16) (.v 17) (.v 18))]))
    (.need (.o2 .lt (.v 9) (.o1 .ofNat (.v 5)))
    (.need (.o1 .isSome (.v 4))
    (.read (.load 43 (.tmp 26)) 43 [(26, (.w (.a (.eptr 4 (.v 9) 5 0))))] [((.a 4), (.prop 7))] [.i, .i, .i, .a, .n, .n, .a, .n, .n] (.w (.agg [(.int .i64 (.v 19)), (.int .i64 (.v 20)), (.int .i64 (.v 21)), (.sl (.v 22) (.v 23) (.v 24)), (.sl (.v 25) (.v 26) (.v 27))]))
    (.all
     (.new
     (.new
     (.again 0 [(.n (.v 28)), (.n (.v 29)), (.e (.o1 .neg (.o1 .neg (.v 19)))), (.e (.o1 .neg (.o1 .neg (.v 20)))), (.e (.o1 .neg (.o1 .neg (.v 21)))), (.a (.v 22)), (.e (.o2 .nadd (.v 23) (.n 0))), (.e (.o2 .nadd (.v 24) (.n 0))), (.a (.v 25)), (.e (.o2 .nadd (.v 26) (.n 0))), (.e (.o2 .nadd (.v 27) (.n 0))), (.e (.o1 .neg (.o1 .neg (.v 10)))), (.e (.o1 .neg (.o1 .neg (.v 11)))), (.e (.o1 .neg (.o1 .neg (.v 12)))), (.a (.v 13)), (.e (.o2 .nadd (.v 14) (.n 0))), (.e (.o2 .nadd (.v 15) (.n 0))), (.a (.v 16)), (.e (.o2 .nadd (.v 17) (.n 0))), (.e (.o2 .nadd (.v 18) (.n 0)))])))
     (.new
     (.new
     (.again 0 [(.n (.v 29)), (.n (.v 28)), (.e (.o1 .neg (.o1 .neg (.v 19)))), (.e (.o1 .neg (.o1 .neg (.v 20)))), (.e (.o1 .neg (.o1 .neg (.v 21)))), (.a (.v 22)), (.e (.o2 .nadd (.v 23) (.n 0))), (.e (.o2 .nadd (.v 24) (.n 0))), (.a (.v 25)), (.e (.o2 .nadd (.v 26) (.n 0))), (.e (.o2 .nadd (.v 27) (.n 0))), (.e (.o1 .neg (.o1 .neg (.v 10)))), (.e (.o1 .neg (.o1 .neg (.v 11)))), (.e (.o1 .neg (.o1 .neg (.v 12)))), (.a (.v 13)), (.e (.o2 .nadd (.v 14) (.n 0))), (.e (.o2 .nadd (.v 15) (.n 0))), (.a (.v 16)), (.e (.o2 .nadd (.v 17) (.n 0))), (.e (.o2 .nadd (.v 18) (.n 0)))]))))))))))
   (.br (.o1 .not (.o2 .eq (.v 21) (.v 12)))
    (.ret (.w (.a (.bool (.c false)))) [((.a 0), (.prop 3)), ((.a 4), (.prop 7))])
    (.br (.o1 .not (.o2 .eq (.v 22) (.v 13)))
     (.ret (.w (.a (.bool (.c false)))) [((.a 0), (.prop 3)), ((.a 4), (.prop 7))])
     (.br (.o1 .not (.o2 .eq (.v 23) (.v 14)))
      (.ret (.w (.a (.bool (.c false)))) [((.a 0), (.prop 3)), ((.a 4), (.prop 7))])
      (.call 30 [(.a (.sl (.v 24) (.v 25) (.v 26))), (.a (.sl (.v 15) (.v 16) (.v 17)))] [((.a 0), (.prop 3)), ((.a 4), (.prop 7))] [.c] (.w (.a (.bool (.v 30)))) [((.a 0), (.prop 3)), ((.a 4), (.prop 7))]
      (.br (.o1 .not (.v 30))
       (.ret (.w (.a (.bool (.c false)))) [((.a 0), (.prop 3)), ((.a 4), (.prop 7))])
       (.br (.o1 .not (.o2 .eq (.o1 .ofNat (.v 28)) (.o1 .ofNat (.v 19))))
        (.ret (.w (.a (.bool (.c false)))) [((.a 0), (.prop 3)), ((.a 4), (.prop 7))])
        (.loop [.c, .i] [(.e (.o1 .not (.o1 .not (.v 8)))), (.e (.o1 .neg (.o1 .neg (.i 0))))]
         (.br (.o2 .lt (.v 32) (.o1 .ofNat (.v 28)))
          (.need (.o2 .le (.i 0) (.v 32))
          (.need (.o1 .isSome (.v 27))
          (.read (.load 140 (.tmp 74)) 140 [(74, (.w (.a (.eptr 27 (.v 32) 2 0))))] [((.a 0), (.prop 3))] [.s, .i] (.w (.agg [(.str (.v 33)), (.int .i64 (.v 34))]))
          (.need (.o2 .lt (.v 32) (.o1 .ofNat (.v 19)))
          (.need (.o1 .isSome (.v 18))
          (.read (.load 140 (.tmp 79)) 140 [(79, (.w (.a (.eptr 18 (.v 32) 2 0))))] [((.a 4), (.prop 7))] [.s, .i] (.w (.agg [(.str (.v 35)), (.int .i64 (.v 36))]))
          (.read (.binOp .neq 140 (.tmp 75) (.tmp 80) 140) 4 [(75, (.w (.agg [(.str (.v 33)), (.int .i64 (.v 34))]))), (80, (.w (.agg [(.str (.v 35)), (.int .i64 (.v 36))])))] [] [.c] (.w (.a (.bool (.v 37))))
          (.br (.v 37)
           (.ret (.w (.a (.bool (.c false)))) [((.a 0), (.prop 3)), ((.a 4), (.prop 7))])
           (.need (.o1 (.inr .i64) (.o2 .add (.v 32) (.i 1)))
           (.again 0 [(.e (.o1 .not (.o1 .not (.v 31)))), (.e (.o1 .neg (.o1 .neg (.o2 .add (.v 32) (.i 1)))))]))))))))))
          (.need (.o1 (.inr .i64) (.o2 .add (.v 9) (.i 1)))
          (.again 1 [(.e (.o1 .not (.o1 .not (.v 31)))), (.e (.o1 .neg (.o1 .neg (.o2 .add (.v 9) (.i 1)))))])))))))))))
   (.ret (.w (.a (.bool (.c true)))) [((.a 0), (.prop 3)), ((.a 4), (.prop 7))]))))
theorem tree_sameNodes : tree Tryz.prog { absT := [], opq := [], hv := [], keep := [30, 76, 78], link := [], ent := [], turn := [], shr := [], vt := [], mkd := [], rlink := [], pty := [], outl := false, stay := [], snk := [], rdf := true, jn := [((20, 10), some { ss := [.n, .n, .i, .i, .i, .a, .n, .n, .a, .n, .n, .i, .i, .i, .a, .n, .n, .a, .n, .n], n := 30, tv := [(20, none), (21, none), (22, none), (23, none), (24, none), (25, none), (26, none), (27, none), (6, some (.w (.a (.ptr (.v 10) 0)))), (7, some (.w (.a (.ptr (.v 11) 0))))], h := [((.b (.v 11)), (.cells [(.int .i64 (.v 12)), (.int .i64 (.v 13)), (.int .i64 (.v 14)), (.sl (.v 15) (.v 16) (.v 17)), (.sl (.v 18) (.v 19) (.v 20))] 43)), ((.b (.v 10)), (.cells [(.int .i64 (.v 21)), (.int .i64 (.v 22)), (.int .i64 (.v 23)), (.sl (.v 24) (.v 25) (.v 26)), (.sl (.v 27) (.v 28) (.v 29))] 43)), ((.a 0), (.prop 3)), ((.a 4), (.prop 7))], lk := [(15, (.a 4)), (18, (.a 4)), (24, (.a 0)), (27, (.a 0))] })] } Tryz.f20 [(.a (.sl (.v 0) (.v 1) (.v 2))), (.a (.sl (.v 4) (.v 5) (.v 6)))] [((.a 0), (.prop 3)), ((.a 4), (.prop 7))] 8 = t_sameNodes := by kernel_rfl
end Go.Proofs.YtdieogcemmnaaaaGreatDoor.RX

/- Trees of functions, printed by rx.lean. No condition. -/
namespace Go.Proofs.YtdieogcemmnaaaaGreatDoor.RX
set_option maxRecDepth 100000
-- tideline/octet.Read: ρ := [.a ba, .n bl, .n bc, .p bP]
def t_rRead : T :=
(.call 73 [(.a (.sl (.v 0) (.v 1) (.v 2)))] [((.a 0), (.prop 3))] [.a, .n, .n, .p, .p] (.w (.a (.sl (.v 4) (.v 5) (.v 6)))) [((.a 4), (.prop 7)), ((.a 0), (.prop 8))]
(.new
(.ret (.w (.a (.ptr (.v 9) 0))) [((.a 0), (.prop 8)), ((.b (.v 9)), (.cells [(.sl (.v 4) (.v 5) (.v 6)), (.bool (.c false))] 247)), ((.a 4), (.prop 7))])))
theorem tree_rRead : tree Tryz.prog { absT := [], opq := [], hv := [], keep := [], link := [], ent := [], turn := [], shr := [], vt := [], mkd := [], rlink := [], pty := [], outl := false, stay := [], snk := [] } Tryz.f85 [(.a (.sl (.v 0) (.v 1) (.v 2)))] [((.a 0), (.prop 3))] 4 = t_rRead := by kernel_rfl
-- (*tideline/octet.Reader).fail: ρ := [.n r, .a r_lefta, .n r_leftl, .n r_leftc, .p r_leftP, .c r_wrong]
def t_rFail : T :=
(.ret (.tup []) [((.b (.v 0)), (.cells [(.sl .nil (.n 0) (.n 0)), (.bool (.c true))] 247)), ((.a 1), (.prop 4))])
theorem tree_rFail : tree Tryz.prog { absT := [], opq := [], hv := [], keep := [], link := [], ent := [], turn := [], shr := [], vt := [], mkd := [], rlink := [], pty := [], outl := false, stay := [], snk := [] } Tryz.f203 [(.a (.ptr (.v 0) 0))] [((.b (.v 0)), (.cells [(.sl (.v 1) (.v 2) (.v 3)), (.bool (.v 5))] 247)), ((.a 1), (.prop 4))] 6 = t_rFail := by kernel_rfl
-- (*tideline/octet.Reader).take: ρ := [.n r, .a r_lefta, .n r_leftl, .n r_leftc, .p r_leftP, .c r_wrong, .i n]
def t_rTake : T :=
(.br (.v 5)
 (.ret (.w (.a (.sl .nil (.n 0) (.n 0)))) [((.b (.v 0)), (.cells [(.sl (.v 1) (.v 2) (.v 3)), (.bool (.v 5))] 247)), ((.a 1), (.prop 4))])
 (.br (.o2 .lt (.o1 .ofNat (.v 2)) (.v 6))
  (.call 203 [(.a (.ptr (.v 0) 0))] [((.b (.v 0)), (.cells [(.sl (.v 1) (.v 2) (.v 3)), (.bool (.v 5))] 247)), ((.a 1), (.prop 4))] [.a, .n, .n, .p, .c] (.tup []) [((.b (.v 0)), (.cells [(.sl (.v 7) (.v 8) (.v 9)), (.bool (.v 11))] 247)), ((.a 7), (.prop 10))]
  (.ret (.w (.a (.sl .nil (.n 0) (.n 0)))) [((.b (.v 0)), (.cells [(.sl (.v 7) (.v 8) (.v 9)), (.bool (.v 11))] 247)), ((.a 7), (.prop 10))]))
  (.read (.slice 28 (.tmp 22) (some (.const (.int .i64 0))) (some (.tmp 23)) (some (.tmp 24))) 28 [(22, (.w (.a (.sl (.v 1) (.v 2) (.v 3))))), (23, (.w (.a (.int .i64 (.v 6))))), (24, (.w (.a (.int .i64 (.v 6)))))] [((.a 1), (.prop 4))] [.a, .n, .n] (.w (.a (.sl (.v 7) (.v 8) (.v 9))))
  (.read (.slice 28 (.tmp 30) (some (.tmp 31)) none none) 28 [(30, (.w (.a (.sl (.v 1) (.v 2) (.v 3))))), (31, (.w (.a (.int .i64 (.v 6)))))] [((.a 1), (.prop 4))] [.a, .n, .n] (.w (.a (.sl (.v 10) (.v 11) (.v 12))))
  (.ret (.w (.a (.sl (.v 7) (.v 8) (.v 9)))) [((.b (.v 0)), (.cells [(.sl (.v 10) (.v 11) (.v 12)), (.bool (.v 5))] 247)), ((.a 1), (.prop 4))])))))
theorem tree_rTake : tree Tryz.prog { absT := [], opq := [], hv := [], keep := [], link := [], ent := [], turn := [], shr := [], vt := [], mkd := [], rlink := [], pty := [], outl := false, stay := [], snk := [] } Tryz.f202 [(.a (.ptr (.v 0) 0)), (.a (.int .i64 (.v 6)))] [((.b (.v 0)), (.cells [(.sl (.v 1) (.v 2) (.v 3)), (.bool (.v 5))] 247)), ((.a 1), (.prop 4))] 7 = t_rTake := by kernel_rfl
-- (*tideline/octet.Reader).Number: ρ := [.n r, .p rP, .i n]
def t_rNumber : T :=
(.call 199 [(.a (.int .i64 (.v 2)))] [] [.i] (.w (.a (.int .i64 (.v 3)))) []
(.call 202 [(.a (.ptr (.v 0) 0)), (.a (.int .i64 (.v 3)))] [((.b (.v 0)), (.prop 1))] [.a, .n, .n, .p, .p] (.w (.a (.sl (.v 4) (.v 5) (.v 6)))) [((.a 4), (.prop 7)), ((.b (.v 0)), (.prop 8))]
(.loop [.i, .i] [(.e (.o1 .neg (.o1 .neg (.i 0)))), (.e (.o1 .neg (.o1 .neg (.i 0))))]
 (.br (.o2 .lt (.v 10) (.o1 .ofNat (.v 5)))
  (.need (.o2 .le (.i 0) (.v 10))
  (.need (.o1 .isSome (.v 4))
  (.read (.load 5 (.tmp 15)) 5 [(15, (.w (.a (.eptr 4 (.v 10) 1 0))))] [((.a 4), (.prop 7))] [.i] (.w (.a (.int .u8 (.v 11))))
  (.need (.o1 (.inr .u64) (.v 11))
  (.need (.o1 (.inr .i64) (.o2 .add (.v 10) (.i 1)))
  (.again 0 [(.e (.o1 .neg (.o1 .neg (.o2 (.bit .or .u64) (.o2 (.shl .u64) (.v 9) (.i 8)) (.v 11))))), (.e (.o1 .neg (.o1 .neg (.o2 .add (.v 10) (.i 1)))))]))))))
  (.ret (.w (.a (.int .u64 (.v 9)))) [((.b (.v 0)), (.prop 8))])))))
theorem tree_rNumber : tree Tryz.prog { absT := [], opq := [], hv := [], keep := [], link := [], ent := [], turn := [], shr := [], vt := [], mkd := [], rlink := [], pty := [], outl := false, stay := [], snk := [] } Tryz.f153 [(.a (.ptr (.v 0) 0)), (.a (.int .i64 (.v 2)))] [((.b (.v 0)), (.prop 1))] 3 = t_rNumber := by kernel_rfl
-- (*tideline/octet.Reader).told: ρ := [.n r, .a r_lefta, .n r_leftl, .n r_leftc, .p r_leftP, .c r_wrong, .i most]
def t_rTold : T :=
(.call 153 [(.a (.ptr (.v 0) 0)), (.a (.int .i64 (.i 4)))] [((.b (.v 0)), (.cells [(.sl (.v 1) (.v 2) (.v 3)), (.bool (.v 5))] 247)), ((.a 1), (.prop 4))] [.i, .a, .n, .n, .p, .c] (.w (.a (.int .u64 (.v 7)))) [((.b (.v 0)), (.cells [(.sl (.v 8) (.v 9) (.v 10)), (.bool (.v 12))] 247)), ((.a 8), (.prop 11))]
(.br (.v 12)
 (.ret (.w (.a (.int .i64 (.i 0)))) [((.b (.v 0)), (.cells [(.sl (.v 8) (.v 9) (.v 10)), (.bool (.v 12))] 247)), ((.a 8), (.prop 11))])
 (.br (.o2 .lt (.v 6) (.o1 (.wrap .i64) (.v 7)))
  (.call 203 [(.a (.ptr (.v 0) 0))] [((.b (.v 0)), (.cells [(.sl (.v 8) (.v 9) (.v 10)), (.bool (.v 12))] 247)), ((.a 8), (.prop 11))] [.a, .n, .n, .p, .c] (.tup []) [((.b (.v 0)), (.cells [(.sl (.v 13) (.v 14) (.v 15)), (.bool (.v 17))] 247)), ((.a 13), (.prop 16))]
  (.ret (.w (.a (.int .i64 (.i 0)))) [((.b (.v 0)), (.cells [(.sl (.v 13) (.v 14) (.v 15)), (.bool (.v 17))] 247)), ((.a 13), (.prop 16))]))
  (.ret (.w (.a (.int .i64 (.o1 (.wrap .i64) (.v 7))))) [((.b (.v 0)), (.cells [(.sl (.v 8) (.v 9) (.v 10)), (.bool (.v 12))] 247)), ((.a 8), (.prop 11))]))))
theorem tree_rTold : tree Tryz.prog { absT := [], opq := [], hv := [], keep := [], link := [], ent := [], turn := [], shr := [], vt := [], mkd := [], rlink := [], pty := [], outl := false, stay := [], snk := [] } Tryz.f154 [(.a (.ptr (.v 0) 0)), (.a (.int .i64 (.v 6)))] [((.b (.v 0)), (.cells [(.sl (.v 1) (.v 2) (.v 3)), (.bool (.v 5))] 247)), ((.a 1), (.prop 4))] 7 = t_rTold := by kernel_rfl
-- (*tideline/octet.Reader).Byte: ρ := [.n r, .p rP]
def t_rByte : T :=
(.call 153 [(.a (.ptr (.v 0) 0)), (.a (.int .i64 (.i 1)))] [((.b (.v 0)), (.prop 1))] [.i, .p] (.w (.a (.int .u64 (.v 2)))) [((.b (.v 0)), (.prop 3))]
(.ret (.w (.a (.int .u8 (.o1 (.wrap .u8) (.v 2))))) [((.b (.v 0)), (.prop 3))]))
theorem tree_rByte : tree Tryz.prog { absT := [], opq := [], hv := [], keep := [], link := [], ent := [], turn := [], shr := [], vt := [], mkd := [], rlink := [], pty := [], outl := false, stay := [], snk := [] } Tryz.f156 [(.a (.ptr (.v 0) 0))] [((.b (.v 0)), (.prop 1))] 2 = t_rByte := by kernel_rfl
-- (*tideline/octet.Reader).Int: ρ := [.n r, .p rP]
def t_rInt : T :=
(.call 153 [(.a (.ptr (.v 0) 0)), (.a (.int .i64 (.i 8)))] [((.b (.v 0)), (.prop 1))] [.i, .p] (.w (.a (.int .u64 (.v 2)))) [((.b (.v 0)), (.prop 3))]
(.ret (.w (.a (.int .i64 (.o1 (.wrap .i64) (.v 2))))) [((.b (.v 0)), (.prop 3))]))
theorem tree_rInt : tree Tryz.prog { absT := [], opq := [], hv := [], keep := [], link := [], ent := [], turn := [], shr := [], vt := [], mkd := [], rlink := [], pty := [], outl := false, stay := [], snk := [] } Tryz.f86 [(.a (.ptr (.v 0) 0))] [((.b (.v 0)), (.prop 1))] 2 = t_rInt := by kernel_rfl
-- (*tideline/octet.Reader).Bytes: ρ := [.n r, .p rP, .i most]
def t_rBytes : T :=
(.call 154 [(.a (.ptr (.v 0) 0)), (.a (.int .i64 (.v 2)))] [((.b (.v 0)), (.prop 1))] [.i, .p] (.w (.a (.int .i64 (.v 3)))) [((.b (.v 0)), (.prop 4))]
(.call 202 [(.a (.ptr (.v 0) 0)), (.a (.int .i64 (.v 3)))] [((.b (.v 0)), (.prop 4))] [.a, .n, .n, .p, .p] (.w (.a (.sl (.v 5) (.v 6) (.v 7)))) [((.a 5), (.prop 8)), ((.b (.v 0)), (.prop 9))]
(.call 73 [(.a (.sl (.v 5) (.v 6) (.v 7)))] [((.a 5), (.prop 8))] [.a, .n, .n, .p, .p] (.w (.a (.sl (.v 10) (.v 11) (.v 12)))) [((.a 10), (.prop 13)), ((.a 5), (.prop 14))]
(.ret (.w (.a (.sl (.v 10) (.v 11) (.v 12)))) [((.b (.v 0)), (.prop 9)), ((.a 10), (.prop 13))]))))
theorem tree_rBytes : tree Tryz.prog { absT := [], opq := [], hv := [], keep := [], link := [], ent := [], turn := [], shr := [], vt := [], mkd := [], rlink := [], pty := [], outl := false, stay := [], snk := [] } Tryz.f157 [(.a (.ptr (.v 0) 0)), (.a (.int .i64 (.v 2)))] [((.b (.v 0)), (.prop 1))] 3 = t_rBytes := by kernel_rfl
-- (*tideline/octet.Reader).End: ρ := [.n r, .a r_lefta, .n r_leftl, .n r_leftc, .p r_leftP, .c r_wrong]
def t_rEnd : T :=
(.br (.v 5)
 (.ret (.w (.a (.int .i64 (.i 3)))) [((.b (.v 0)), (.cells [(.sl (.v 1) (.v 2) (.v 3)), (.bool (.v 5))] 247)), ((.a 1), (.prop 4))])
 (.br (.o2 .lt (.i 0) (.o1 .ofNat (.v 2)))
  (.ret (.w (.a (.int .i64 (.i 3)))) [((.b (.v 0)), (.cells [(.sl (.v 1) (.v 2) (.v 3)), (.bool (.v 5))] 247)), ((.a 1), (.prop 4))])
  (.ret (.w (.a (.int .i64 (.i 0)))) [((.b (.v 0)), (.cells [(.sl (.v 1) (.v 2) (.v 3)), (.bool (.v 5))] 247)), ((.a 1), (.prop 4))])))
theorem tree_rEnd : tree Tryz.prog { absT := [], opq := [], hv := [], keep := [], link := [], ent := [], turn := [], shr := [], vt := [], mkd := [], rlink := [], pty := [], outl := false, stay := [], snk := [] } Tryz.f89 [(.a (.ptr (.v 0) 0))] [((.b (.v 0)), (.cells [(.sl (.v 1) (.v 2) (.v 3)), (.bool (.v 5))] 247)), ((.a 1), (.prop 4))] 6 = t_rEnd := by kernel_rfl
end Go.Proofs.YtdieogcemmnaaaaGreatDoor.RX

/- Contracts of octet's Reader. No condition. -/
namespace Go.Proofs.YtdieogcemmnaaaaGreatDoor
set_option linter.unusedSimpArgs false
set_option linter.unusedVariables false
open Go.Proofs.YtdieogcemmnaaaaGreatDoor RX

def RRep (b : Nat) (s : List UInt8 × Bool) : HP := HP.ex fun a => HP.ex fun c => HP.and (s.1.length ≤ c ∧ s.1.length ≤ 140737488355328) (HP.sep (HP.one b (.cells #[.slice a s.1.length c, .bool s.2] 247)) (RoB a s.1.length s.1))
theorem rFail_ok (b : Nat) (s : List UInt8 × Bool) : Tri Tryz.prog 203 #[.pointer (some ⟨b, 0, none⟩)] (RRep b s) (fun v => HP.and (v = .tuple #[]) (RRep b ([], true))) := by
  refine Tri.ex fun a => Tri.ex fun c => Tri.pure fun _ => ?_
  refine tri_of_tree (ρ := [.n b, .a a, .n s.1.length, .n c, .p (RoB a s.1.length s.1), .c s.2]) mixed Tryz.func203 tree_rFail ?_
  unfold t_rFail
  simp only [T.den, E.prop, E.den, RX.look, F1.app, F2.app, Uni.int_i, Uni.nat_n, Uni.bool_c, Uni.str_s, Uni.adr_a, Uni.val_v, Uni.hp_p, hden, cden, V.den, W.den, A.den, BR.den, SA.den, FV.den, capV, exs, exP, allP, Cur.app, List.map_cons, List.map_nil, List.cons_append, List.nil_append, List.drop_succ_cons, List.drop_zero, List.length_cons, List.length_nil, Nat.zero_add, Nat.reduceAdd, Int.neg_neg, Bool.not_not, List.append_nil, Nat.add_zero, List.getElem?_cons_zero, List.getElem?_cons_succ, Decidable.not_not]
  exact .of fun R h H => ⟨trivial, none, 0, ⟨by simp, by simp⟩, HP.sep_mono H (fun _ h => h) fun _ _ => RoC.nil _ _ _ _⟩
/-- So many bytes are taken. -/
def takeR (s : List UInt8 × Bool) (n : Nat) : List UInt8 × (List UInt8 × Bool) := if s.2 then ([], s) else if s.1.length < n then ([], ([], true)) else (s.1.take n, (s.1.drop n, false))
theorem und8' : Tryz.prog.underlying 28 = some (.slice 5) := und8
theorem sz8 : szT Tryz.prog 5 = 1 := by kernel_rfl
theorem rTake_ok (b : Nat) (s : List UInt8 × Bool) (n : Nat) : Tri Tryz.prog 202 #[.pointer (some ⟨b, 0, none⟩), .int .i64 n] (RRep b s)
    (fun v => HP.ex fun a => HP.ex fun c => HP.and (v = .slice a (takeR s n).1.length c) (HP.sep (RoB a (takeR s n).1.length (takeR s n).1) (RRep b (takeR s n).2))) := by
  obtain ⟨l, wr⟩ := s
  refine Tri.ex fun a => Tri.ex fun c => Tri.pure fun hc => ?_
  simp only at hc
  refine tri_of_tree (ρ := [.n b, .a a, .n l.length, .n c, .p (RoB a l.length l), .c wr, .i n]) mixed Tryz.func202 tree_rTake ?_
  unfold t_rTake
  simp only [T.den, E.prop, E.den, RX.look, F1.app, F2.app, Uni.int_i, Uni.nat_n, Uni.bool_c, Uni.str_s, Uni.adr_a, Uni.val_v, Uni.hp_p, hden, cden, V.den, W.den, A.den, BR.den, SA.den, FV.den, capV, exs, exP, allP, Cur.app, List.map_cons, List.map_nil, List.cons_append, List.nil_append, List.drop_succ_cons, List.drop_zero, List.length_cons, List.length_nil, Nat.zero_add, Nat.reduceAdd, Int.neg_neg, Bool.not_not, List.append_nil, Nat.add_zero, List.getElem?_cons_zero, List.getElem?_cons_succ, Decidable.not_not]
  refine ⟨fun h1 => .of fun R h H => ?_, fun h1 => ⟨fun h2 => ?_, fun h2 => ?_⟩⟩
  · subst h1
    simp only [takeR, if_true]
    exact ⟨none, 0, rfl, RoC.join (RoC.nil _ _ R h) ⟨a, c, hc, H⟩⟩
  · have e : takeR (l, wr) n = ([], ([], true)) := by simp only [takeR]; rw [if_neg h1, if_pos (by omega)]
    rw [e]
    refine (rFail_ok b (l, wr)).weak (fun R h H => ⟨a, c, hc, H⟩) ?_
    rintro v R h ⟨rfl, a', c', hc', H⟩
    refine ⟨a', _, c', RoB a' 0 [], true, rfl, .of fun R h H => ⟨none, 0, rfl, RoC.join (RoC.nil _ _ R h) ⟨a', c', hc', H⟩⟩, H⟩
  · have hn : n ≤ l.length := by omega
    have hw : wr = false := by simpa using h1
    have e : takeR (l, wr) n = (l.take n, (l.drop n, false)) := by simp only [takeR]; rw [if_neg h1, if_neg (by omega)]
    rw [e]
    obtain ⟨i, hi, _⟩ := info_parts info8
    have s1 := slice_ok und8 hi (RoB a l.length l) a l.length c (some 0) (some n) (some n) (Nat.zero_le _) (Nat.le_refl _) (by simp; omega) (fun _ => rfl)
    have s2 := slice_ok und8 hi (RoB a l.length l) a l.length c (some n) none none hn hc.1 (Nat.le_refl _) (fun h => by cases h)
    refine ⟨_, _, _, s1, _, _, _, s2, ?_⟩
    simp only [Option.getD_some, Option.getD_none, Nat.sub_zero, sz8, Nat.mul_one, Nat.zero_mul]
    refine .of fun R h H => ?_
    have hro := HP.sep_right H
    have r1 := RoC.sub hro 0 n n (Nat.zero_le _) hn (Nat.le_refl _)
    have r2 := RoC.sub hro n l.length c hn (Nat.le_refl _) hc.1
    simp only [Nat.sub_zero, Nat.mul_one, Nat.zero_mul, List.drop_zero, ← List.map_take, ← List.map_drop] at r1 r2
    rw [List.take_of_length_le (by simp)] at r2
    have e1 : (l.take n).length = n := by simp [hn]
    have e2 : (l.drop n).length = l.length - n := by simp
    rw [← e2] at r2
    refine ⟨if n = 0 then a else Option.map (fun x => x.add 0) a, n, by rw [e1], ?_⟩
    rw [e1]
    refine RoC.join r1 ⟨_, c - n, ⟨by simp only [e2]; omega, by simp only [e2]; omega⟩, RoC.joinR r2 ?_⟩
    have := HP.sep_left H
    simp only [e2]
    rw [hw] at this
    exact this

def beV (l : List UInt8) : Nat := l.foldl (fun v b => v * 256 + b.toNat) 0
theorem beV_snoc (l : List UInt8) (b : UInt8) : beV (l ++ [b]) = beV l * 256 + b.toNat := by simp [beV]
theorem beV_lt (l : List UInt8) : beV l < 256 ^ l.length := by
  have key : ∀ (l : List UInt8) (v : Nat), l.foldl (fun v (b : UInt8) => v * 256 + b.toNat) v < (v + 1) * 256 ^ l.length := by
    intro l
    induction l with
    | nil => intro v; simp
    | cons b r ih =>
      intro v
      have hb := b.toNat_lt
      have h1 := ih (v * 256 + b.toNat)
      have h2 : (v * 256 + b.toNat + 1) * 256 ^ r.length ≤ (v + 1) * 256 * 256 ^ r.length := Nat.mul_le_mul_right _ (by omega)
      simp only [List.foldl_cons, List.length_cons, Nat.pow_succ]
      rw [Nat.mul_comm (256 ^ r.length) 256, ← Nat.mul_assoc]
      omega
  simpa [beV] using key l 0
/-- A number of so many bytes. -/
def numR (s : List UInt8 × Bool) (n : Nat) : Nat × (List UInt8 × Bool) := (beV (takeR s n).1, (takeR s n).2)
theorem takeR_len (s : List UInt8 × Bool) (n : Nat) : (takeR s n).1.length ≤ n := by
  unfold takeR; split
  · simp
  · split <;> simp; omega
theorem or_step (v : Nat) (b : UInt8) (hv : v < 2 ^ 56) : bits .or .u64 (IntKind.u64.wrap ((v : Int) * 2 ^ (min (8 : Int).toNat IntKind.u64.bits))) (b.toNat : Int) = ((v * 256 + b.toNat : Nat) : Int) := by
  have hb := b.toNat_lt
  have e1 : IntKind.u64.wrap ((v : Int) * 2 ^ (min (8 : Int).toNat IntKind.u64.bits)) = ((v * 256 : Nat) : Int) := by
    have : (v : Int) * 2 ^ (min (8 : Int).toNat IntKind.u64.bits) = ((v * 256 : Nat) : Int) := by
      simp [IntKind.bits]
    rw [this]
    exact wrap_in ⟨by simp [IntKind.min, IntKind.signed]; omega, by simp [IntKind.max, IntKind.signed, IntKind.bits]; omega⟩
  rw [e1]
  have e2 : (v * 256 ||| b.toNat) = v * 256 + b.toNat := by
    have := Nat.shiftLeft_add_eq_or_of_lt (a := v) (b := b.toNat) (i := 8) (by omega)
    rw [Nat.shiftLeft_eq] at this
    exact this.symm
  show IntKind.u64.wrap ((BitVec.ofInt 64 ((v * 256 : Nat) : Int) ||| BitVec.ofInt 64 (b.toNat : Int)).toNat : Int) = _
  rw [BitVec.ofInt_natCast, BitVec.ofInt_natCast, BitVec.toNat_or, BitVec.toNat_ofNat, BitVec.toNat_ofNat, Nat.mod_eq_of_lt (by omega), Nat.mod_eq_of_lt (by omega), e2]
  exact wrap_in ⟨by simp [IntKind.min, IntKind.signed]; omega, by simp [IntKind.max, IntKind.signed, IntKind.bits]; omega⟩
theorem inI64 (x : Int) (h1 : -9223372036854775808 ≤ x) (h2 : x ≤ 9223372036854775807) : IntKind.i64.min ≤ x ∧ x ≤ IntKind.i64.max := by
  simp [IntKind.min, IntKind.max, IntKind.signed, IntKind.bits]; omega
theorem inU64 (x : Int) (h1 : 0 ≤ x) (h2 : x ≤ 18446744073709551615) : IntKind.u64.min ≤ x ∧ x ≤ IntKind.u64.max := by
  simp [IntKind.min, IntKind.max, IntKind.signed, IntKind.bits]; omega
theorem und8b : Tryz.prog.underlying 5 = some (.int .u8) := by kernel_rfl
theorem agg8 : aggT Tryz.prog 5 = false := by kernel_rfl
theorem rNumber_ok (b : Nat) (s : List UInt8 × Bool) (n : Nat) (hn : n ≤ 8) : Tri Tryz.prog 153 #[.pointer (some ⟨b, 0, none⟩), .int .i64 n] (RRep b s)
    (fun v => HP.and (v = .int .u64 ((numR s n).1 : Nat)) (RRep b (numR s n).2)) := by
  refine tri_of_tree (ρ := [.n b, .p (RRep b s), .i n]) mixed Tryz.func153 tree_rNumber ?_
  unfold t_rNumber
  simp only [T.den, E.prop, E.den, RX.look, F1.app, F2.app, Uni.int_i, Uni.nat_n, Uni.bool_c, Uni.str_s, Uni.adr_a, Uni.val_v, Uni.hp_p, hden, cden, V.den, W.den, A.den, BR.den, SA.den, FV.den, capV, exs, exP, allP, Cur.app, List.map_cons, List.map_nil, List.cons_append, List.nil_append, List.drop_succ_cons, List.drop_zero, List.length_cons, List.length_nil, Nat.zero_add, Nat.reduceAdd, Int.neg_neg, Bool.not_not, List.append_nil, Nat.add_zero, List.getElem?_cons_zero, List.getElem?_cons_succ, Decidable.not_not]
  refine (width_ok n HP.tt).weak (fun _ _ h => h) ?_
  rintro r R h ⟨rfl, H⟩
  refine ⟨min (max n 0) 8, rfl, ?_, H⟩
  rw [show min (max (n : Int) 0) 8 = n by omega]
  refine (rTake_ok b s n).weak (fun _ _ h => h) ?_
  rintro r R h ⟨a, c, rfl, H⟩
  have hlen := takeR_len s n
  have ha : 0 < (takeR s n).1.length → a.isSome = true := fun h => RoC.some (HP.sep_left H) h
  refine ⟨a, _, c, RoB a _ (takeR s n).1, RRep b (takeR s n).2, rfl, ?_, H⟩
  have hpow : 256 ^ (takeR s n).1.length ≤ 256 ^ 8 := Nat.pow_le_pow_right (by decide) (by omega)
  unfold numR
  generalize (takeR s n).1 = l at *
  generalize (takeR s n).2 = s' at *
  refine ⟨fun v i => ∃ k : Nat, i = k ∧ k ≤ l.length ∧ v = ((beV (l.take k) : Nat) : Int), fun v i => l.length - i.toNat, ⟨0, rfl, Nat.zero_le _, rfl⟩, ?_⟩
  rintro v i ⟨k, rfl, hk, rfl⟩
  refine ⟨fun hlt => ⟨by omega, fun _ => ?_⟩, fun hge => ?_⟩
  · have hlt' : k < l.length := by omega
    have hb8 := l[k].toNat_lt
    have hget : l[k]? = some l[k] := List.getElem?_eq_getElem hlt'
    have hk8 : beV (l.take k) < 2 ^ 56 := by
      have h1 := beV_lt (l.take k)
      rw [List.length_take, Nat.min_eq_left hk] at h1
      have h2 : 256 ^ k ≤ 256 ^ 7 := Nat.pow_le_pow_right (by decide) (by omega)
      have h3 : (256 : Nat) ^ 7 = 2 ^ 56 := by decide
      omega
    refine ⟨ha (by omega), fun _ => ⟨(l[k].toNat : Int), ?_, inU64 _ (by omega) (by omega), fun _ => ⟨inI64 _ (by omega) (by omega), fun _ => ⟨⟨k + 1, by omega, hlt', ?_⟩, by dsimp only; omega⟩⟩⟩⟩
    · exact load1_ok und8b agg8 sz8 (RoC.rd 1 a _ (l.map u8v)) (k := (k : Int).toNat * 1) (off := 0) (v := u8v l[k]) (by simp [hget])
    · rw [or_step _ _ hk8, List.take_succ_eq_append_getElem hlt', beV_snoc]
  · have : k = l.length := by omega
    subst this
    rw [List.take_length]
    exact .of fun R h H => ⟨rfl, H⟩
theorem wrap8 (v : Nat) : IntKind.u8.wrap (v : Int) = ((v % 256 : Nat) : Int) := by
  simp only [IntKind.wrap, IntKind.bits, IntKind.signed, Bool.false_and, Bool.false_eq_true, if_false]
  omega
theorem rByte_ok (b : Nat) (s : List UInt8 × Bool) : Tri Tryz.prog 156 #[.pointer (some ⟨b, 0, none⟩)] (RRep b s) (fun v => HP.and (v = .int .u8 (((numR s 1).1 % 256 : Nat) : Int)) (RRep b (numR s 1).2)) := by
  refine tri_of_tree (ρ := [.n b, .p (RRep b s)]) mixed Tryz.func156 tree_rByte ?_
  unfold t_rByte
  simp only [T.den, E.prop, E.den, RX.look, F1.app, F2.app, Uni.int_i, Uni.nat_n, Uni.bool_c, Uni.str_s, Uni.adr_a, Uni.val_v, Uni.hp_p, hden, cden, V.den, W.den, A.den, BR.den, SA.den, FV.den, capV, exs, exP, allP, Cur.app, List.map_cons, List.map_nil, List.cons_append, List.nil_append, List.drop_succ_cons, List.drop_zero, List.length_cons, List.length_nil, Nat.zero_add, Nat.reduceAdd, Int.neg_neg, Bool.not_not, List.append_nil, Nat.add_zero, List.getElem?_cons_zero, List.getElem?_cons_succ, Decidable.not_not]
  refine (rNumber_ok b s 1 (by omega)).weak (fun _ _ h => h) ?_
  rintro v R h ⟨rfl, H⟩
  exact ⟨_, _, rfl, .of fun R h H => ⟨by rw [wrap8], H⟩, H⟩
def intOf64 (v : Nat) : Int := IntKind.i64.wrap (v : Int)
theorem rInt_ok (b : Nat) (s : List UInt8 × Bool) : Tri Tryz.prog 86 #[.pointer (some ⟨b, 0, none⟩)] (RRep b s) (fun v => HP.and (v = .int .i64 (intOf64 (numR s 8).1)) (RRep b (numR s 8).2)) := by
  refine tri_of_tree (ρ := [.n b, .p (RRep b s)]) mixed Tryz.func86 tree_rInt ?_
  unfold t_rInt
  simp only [T.den, E.prop, E.den, RX.look, F1.app, F2.app, Uni.int_i, Uni.nat_n, Uni.bool_c, Uni.str_s, Uni.adr_a, Uni.val_v, Uni.hp_p, hden, cden, V.den, W.den, A.den, BR.den, SA.den, FV.den, capV, exs, exP, allP, Cur.app, List.map_cons, List.map_nil, List.cons_append, List.nil_append, List.drop_succ_cons, List.drop_zero, List.length_cons, List.length_nil, Nat.zero_add, Nat.reduceAdd, Int.neg_neg, Bool.not_not, List.append_nil, Nat.add_zero, List.getElem?_cons_zero, List.getElem?_cons_succ, Decidable.not_not]
  refine (rNumber_ok b s 8 (by omega)).weak (fun _ _ h => h) ?_
  rintro v R h ⟨rfl, H⟩
  exact ⟨_, _, rfl, .of fun R h H => ⟨rfl, H⟩, H⟩
/-- How many there are, at most so many. -/
def toldR (s : List UInt8 × Bool) (most : Int) : Nat × (List UInt8 × Bool) :=
  if (numR s 4).2.2 then (0, (numR s 4).2) else if most < (numR s 4).1 then (0, ([], true)) else ((numR s 4).1, (numR s 4).2)
theorem numR_lt (s : List UInt8 × Bool) (n : Nat) : (numR s n).1 < 256 ^ n :=
  Nat.lt_of_lt_of_le (beV_lt _) (Nat.pow_le_pow_right (by decide) (takeR_len s n))
theorem rTold_ok (b : Nat) (s : List UInt8 × Bool) (most : Int) : Tri Tryz.prog 154 #[.pointer (some ⟨b, 0, none⟩), .int .i64 most] (RRep b s) (fun v => HP.and (v = .int .i64 ((toldR s most).1 : Nat)) (RRep b (toldR s most).2)) := by
  have hlt := numR_lt s 4
  refine Tri.ex fun a => Tri.ex fun c => Tri.pure fun hc => ?_
  refine tri_of_tree (ρ := [.n b, .a a, .n s.1.length, .n c, .p (RoB a s.1.length s.1), .c s.2, .i most]) mixed Tryz.func154 tree_rTold ?_
  unfold t_rTold
  simp only [T.den, E.prop, E.den, RX.look, F1.app, F2.app, Uni.int_i, Uni.nat_n, Uni.bool_c, Uni.str_s, Uni.adr_a, Uni.val_v, Uni.hp_p, hden, cden, V.den, W.den, A.den, BR.den, SA.den, FV.den, capV, exs, exP, allP, Cur.app, List.map_cons, List.map_nil, List.cons_append, List.nil_append, List.drop_succ_cons, List.drop_zero, List.length_cons, List.length_nil, Nat.zero_add, Nat.reduceAdd, Int.neg_neg, Bool.not_not, List.append_nil, Nat.add_zero, List.getElem?_cons_zero, List.getElem?_cons_succ, Decidable.not_not]
  refine (rNumber_ok b s 4 (by omega)).weak (fun R h H => ⟨a, c, hc, H⟩) ?_
  rintro v R h ⟨rfl, a', c', hc', H⟩
  unfold toldR
  generalize (numR s 4).1 = x at *
  generalize (numR s 4).2 = s' at *
  obtain ⟨l', w'⟩ := s'
  refine ⟨_, a', _, c', RoB a' l'.length l', w', rfl, ?_, H⟩
  have e : IntKind.i64.wrap (x : Int) = x := wrap_in (inI64 _ (by omega) (by omega))
  rw [e]
  refine ⟨fun h1 => .of fun R h H => ?_, fun h1 => ⟨fun h2 => ?_, fun h2 => .of fun R h H => ?_⟩⟩
  · simp only [h1, if_true]
    subst h1
    exact ⟨rfl, a', c', hc', H⟩
  · rw [if_neg h1, if_pos h2]
    refine (rFail_ok b (l', w')).weak (fun R h H => ⟨a', c', hc', H⟩) ?_
    rintro v R h ⟨rfl, a2, c2, hc2, H⟩
    exact ⟨a2, _, c2, RoB a2 _ [], true, rfl, .of fun R h H => ⟨rfl, a2, c2, hc2, H⟩, H⟩
  · rw [if_neg h1, if_neg h2]
    exact ⟨rfl, a', c', hc', H⟩
def bytesR (s : List UInt8 × Bool) (most : Int) : List UInt8 × (List UInt8 × Bool) := takeR (toldR s most).2 (toldR s most).1
theorem rBytes_ok (b : Nat) (s : List UInt8 × Bool) (most : Int) : Tri Tryz.prog 157 #[.pointer (some ⟨b, 0, none⟩), .int .i64 most] (RRep b s)
    (fun v => HP.ex fun a => HP.ex fun c => HP.and (v = .slice a (bytesR s most).1.length c) (HP.sep (RRep b (bytesR s most).2) (OwB a (bytesR s most).1.length c (bytesR s most).1))) := by
  refine tri_of_tree (ρ := [.n b, .p (RRep b s), .i most]) mixed Tryz.func157 tree_rBytes ?_
  unfold t_rBytes
  simp only [T.den, E.prop, E.den, RX.look, F1.app, F2.app, Uni.int_i, Uni.nat_n, Uni.bool_c, Uni.str_s, Uni.adr_a, Uni.val_v, Uni.hp_p, hden, cden, V.den, W.den, A.den, BR.den, SA.den, FV.den, capV, exs, exP, allP, Cur.app, List.map_cons, List.map_nil, List.cons_append, List.nil_append, List.drop_succ_cons, List.drop_zero, List.length_cons, List.length_nil, Nat.zero_add, Nat.reduceAdd, Int.neg_neg, Bool.not_not, List.append_nil, Nat.add_zero, List.getElem?_cons_zero, List.getElem?_cons_succ, Decidable.not_not]
  refine (rTold_ok b s most).weak (fun _ _ h => h) ?_
  rintro v R h ⟨rfl, H⟩
  refine ⟨_, RRep b (toldR s most).2, rfl, ?_, H⟩
  refine (rTake_ok b _ _).weak (fun _ _ h => h) ?_
  rintro v R h ⟨a, c, rfl, H⟩
  have hlen : (bytesR s most).1.length ≤ 140737488355328 := by
    have h1 := takeR_len (toldR s most).2 (toldR s most).1
    have h2 : (toldR s most).1 < 256 ^ 4 := by
      have := numR_lt s 4
      unfold toldR; split
      · simp
      · split
        · simp
        · exact this
    have h3 : (256 : Nat) ^ 4 = 4294967296 := by decide
    unfold bytesR
    omega
  refine ⟨a, _, c, RoB a _ (bytesR s most).1, RRep b (bytesR s most).2, rfl, ?_, H⟩
  refine (clone8_ok _ a _ c (bytesR s most).1 (RdL.ro _ _ _ _) rfl hlen).weak (fun _ _ h => h) ?_
  rintro v R h ⟨a', c', rfl, H⟩
  exact ⟨a', _, c', OwB a' _ c' _, RoB a _ (bytesR s most).1, rfl, .of fun R h H => ⟨a', c', rfl, H⟩, H⟩
theorem rEnd_ok (b : Nat) (s : List UInt8 × Bool) : Tri Tryz.prog 89 #[.pointer (some ⟨b, 0, none⟩)] (RRep b s) (fun v => HP.and (v = .int .i64 (if s.2 = true ∨ s.1 ≠ [] then 3 else 0)) (RRep b s)) := by
  obtain ⟨l, w⟩ := s
  refine Tri.ex fun a => Tri.ex fun c => Tri.pure fun hc => ?_
  refine tri_of_tree (ρ := [.n b, .a a, .n l.length, .n c, .p (RoB a l.length l), .c w]) mixed Tryz.func89 tree_rEnd ?_
  unfold t_rEnd
  simp only [T.den, E.prop, E.den, RX.look, F1.app, F2.app, Uni.int_i, Uni.nat_n, Uni.bool_c, Uni.str_s, Uni.adr_a, Uni.val_v, Uni.hp_p, hden, cden, V.den, W.den, A.den, BR.den, SA.den, FV.den, capV, exs, exP, allP, Cur.app, List.map_cons, List.map_nil, List.cons_append, List.nil_append, List.drop_succ_cons, List.drop_zero, List.length_cons, List.length_nil, Nat.zero_add, Nat.reduceAdd, Int.neg_neg, Bool.not_not, List.append_nil, Nat.add_zero, List.getElem?_cons_zero, List.getElem?_cons_succ, Decidable.not_not]
  refine ⟨fun h1 => .of fun R h H => ⟨?_, a, c, hc, H⟩, fun h1 => ⟨fun h2 => .of fun R h H => ⟨?_, a, c, hc, H⟩, fun h2 => .of fun R h H => ⟨?_, a, c, hc, H⟩⟩⟩
  · rw [if_pos (.inl h1)]
  · rw [if_pos (.inr (fun e => by subst e; simp at h2))]
  · rw [if_neg (fun e => e.elim h1 fun e => h2 (by have := List.length_pos_iff.2 e; omega))]
theorem rRead_ok (a : Option Addr) (n c : Nat) (l : List UInt8) (S : HP) (hr : RdL S a n (l.map u8v)) (hl : l.length = n) (hb : n ≤ 140737488355328) :
    Tri Tryz.prog 85 #[.slice a n c] S (fun v => HP.ex fun b => HP.and (v = .pointer (some ⟨b, 0, none⟩)) (HP.sep S (RRep b (l, false)))) := by
  refine tri_of_tree (ρ := [.a a, .n n, .n c, .p S]) mixed Tryz.func85 tree_rRead ?_
  unfold t_rRead
  simp only [T.den, E.prop, E.den, RX.look, F1.app, F2.app, Uni.int_i, Uni.nat_n, Uni.bool_c, Uni.str_s, Uni.adr_a, Uni.val_v, Uni.hp_p, hden, cden, V.den, W.den, A.den, BR.den, SA.den, FV.den, capV, exs, exP, allP, Cur.app, List.map_cons, List.map_nil, List.cons_append, List.nil_append, List.drop_succ_cons, List.drop_zero, List.length_cons, List.length_nil, Nat.zero_add, Nat.reduceAdd, Int.neg_neg, Bool.not_not, List.append_nil, Nat.add_zero, List.getElem?_cons_zero, List.getElem?_cons_succ, Decidable.not_not]
  refine (clone8_ok S a n c l hr hl hb).weak (fun _ _ h => h) ?_
  rintro v R h ⟨a', c', rfl, H⟩
  refine ⟨a', _, c', OwB a' n c' l, S, rfl, fun x => ?_, H⟩
  subst hl
  rintro R h d H
  have hle := OwC.le (HP.sep_right (HP.sep_right H))
  refine ((HP.ent.sep2 (HP.ent.refl S) (HP.ent.sep2 (HP.ent.refl _) (OwC.share 5 1 a' l.length c' (l.map u8v)))).trans ?_) R h d H
  refine .of fun R h H => ⟨x, rfl, HP.sep_mono H (fun _ h => h) fun y hy => ?_⟩
  exact ⟨a', c', ⟨hle, hb⟩, hy⟩
end Go.Proofs.YtdieogcemmnaaaaGreatDoor

/- Contracts of what law 4 compares with: bytes, texts, answers, nodes. No condition. -/
namespace Go.Proofs.YtdieogcemmnaaaaGreatDoor
set_option linter.unusedSimpArgs false
set_option linter.unusedVariables false
open Go.Proofs.YtdieogcemmnaaaaGreatDoor RX
set_option maxRecDepth 100000

instance instAns : DecidableEq AnsM := fun r s => decidable_of_iff (r.err = s.err ∧ r.kind = s.kind ∧ r.size = s.size ∧ r.links = s.links ∧ r.data = s.data ∧ r.names = s.names) ⟨fun ⟨h1, h2, h3, h4, h5, h6⟩ => by cases r; cases s; simp only at h1 h2 h3 h4 h5 h6; subst h1 h2 h3 h4 h5 h6; rfl, fun h => by subst h; exact ⟨rfl, rfl, rfl, rfl, rfl, rfl⟩⟩
theorem RdL.isSome {S : HP} {a : Option Addr} {n : Nat} {xs : List Value} (r : RdL S a n xs) {R h : PH} (H : S.p R h) (hn : n ≠ 0) : a.isSome = true := by
  cases a with
  | some x => rfl
  | none => exact absurd (r.none R h H rfl) hn
theorem take_eq {α : Type} {l m : List α} {k : Nat} {x y : α} (hx : l[k]? = some x) (hy : m[k]? = some y) (h : l.take k = m.take k) (e : x = y) : l.take (k + 1) = m.take (k + 1) := by
  rw [List.take_add_one, List.take_add_one, hx, hy, h, e]
theorem getN {α : Type} {l : List α} {k : Nat} (h : k < l.length) : ∃ x, l[k]? = some x := ⟨_, List.getElem?_eq_getElem h⟩
theorem get_ne {α : Type} {l m : List α} {k : Nat} {x y : α} (hx : l[k]? = some x) (hy : m[k]? = some y) (h : x ≠ y) : l ≠ m := fun e => by
  subst e
  rw [hx] at hy
  exact h (Option.some.inj hy)
theorem same01_ok (a : Option Addr) (n c : Nat) (la : List UInt8) (b : Option Addr) (m d : Nat) (lb : List UInt8) (Sa Sb : HP) (hA : RdL Sa a n (la.map u8v)) (hB : RdL Sb b m (lb.map u8v)) (hla : la.length = n) (hlb : lb.length = m) (hn : n ≤ 140737488355328) :
    Tri Tryz.prog 30 #[.slice a n c, .slice b m d] (HP.sep Sa Sb) (fun v => HP.and (v = .bool (decide (la = lb))) (HP.sep Sa Sb)) := by
  refine Tri.fact (φ := (n ≠ 0 → a.isSome = true) ∧ (m ≠ 0 → b.isSome = true)) (fun R h H => ⟨hA.isSome (HP.sep_left H), hB.isSome (HP.sep_right H)⟩) fun ⟨ha, hb⟩ => ?_
  refine tri_of_tree (ρ := [.a a, .n n, .n c, .p Sa, .a b, .n m, .n d, .p Sb]) mixed Tryz.func30 tree_same01 ?_
  unfold t_same01
  simp only [T.den, E.prop, E.den, RX.look, F1.app, F2.app, Uni.int_i, Uni.nat_n, Uni.bool_c, Uni.str_s, Uni.adr_a, Uni.val_v, Uni.hp_p, hden, cden, V.den, W.den, A.den, BR.den, SA.den, FV.den, capV, exs, exP, allP, Cur.app, List.map_cons, List.map_nil, List.cons_append, List.nil_append, List.drop_succ_cons, List.drop_zero, List.length_cons, List.length_nil, Nat.zero_add, Nat.reduceAdd, Int.neg_neg, Bool.not_not, List.append_nil, Nat.add_zero, List.getElem?_cons_zero, List.getElem?_cons_succ, Decidable.not_not, semW_eq, semW_load, semW_store, semW_storeC, semW_append, semW_lookup, semW_lookupC, semW_update, semW_updateC, semW_updateK, semW_delete, semW_range, semW_next, semW_entry, semW_nil, ne_eq, Nat.reduceEqDiff, not_false_eq_true]
  refine ⟨fun h => .of fun R h' H => ⟨?_, H⟩, fun h => ?_⟩
  · rw [decide_eq_false]
    intro e; subst e; omega
  have hnm : n = m := by omega
  subst hnm
  refine ⟨fun _ i => ∃ k : Nat, i = k ∧ k ≤ n ∧ la.take k = lb.take k, fun _ i => n - i.toNat, ⟨0, rfl, Nat.zero_le _, rfl⟩, ?_⟩
  rintro x _ ⟨k, rfl, hk, hpre⟩
  refine ⟨fun hlt => ⟨by omega, fun _ => ⟨ha (by omega), fun _ => ?_⟩⟩, fun hge => .of fun R h' H => ⟨?_, H⟩⟩
  · obtain ⟨x, hx⟩ := getN (l := la) (k := k) (by omega)
    obtain ⟨y, hy⟩ := getN (l := lb) (k := k) (by omega)
    have ra := load1_ok und8b agg8 sz8 hA.rd (k := (k : Int).toNat * 1) (off := 0) (v := u8v x) (by rw [Int.toNat_natCast, Nat.mul_one, Nat.add_zero, List.getElem?_map, hx]; rfl)
    have rb := load1_ok und8b agg8 sz8 hB.rd (k := (k : Int).toNat * 1) (off := 0) (v := u8v y) (by rw [Int.toNat_natCast, Nat.mul_one, Nat.add_zero, List.getElem?_map, hy]; rfl)
    refine ⟨_, ra, by omega, fun _ => ⟨hb (by omega), fun _ => ⟨_, rb, fun h1 => .of fun R h' H => ⟨by rw [decide_eq_false (get_ne hx hy fun e => h1 (by rw [e]))], H⟩, fun h1 => ⟨inI64' _ (by omega) (by omega), fun _ => ⟨⟨k + 1, by omega, by omega, take_eq hx hy hpre (UInt8.toNat_inj.1 (by omega))⟩, by dsimp only; omega⟩⟩⟩⟩⟩
  · have hke : k = n := by omega
    subst hke
    rw [List.take_of_length_le (by omega), List.take_of_length_le (by omega)] at hpre
    rw [decide_eq_true hpre]
theorem sameTexts_ok (a : Option Addr) (n c : Nat) (la : List Nm) (b : Option Addr) (m d : Nat) (lb : List Nm) (Sa Sb : HP) (hA : RdL Sa a n (la.map sE)) (hB : RdL Sb b m (lb.map sE)) (hla : la.length = n) (hlb : lb.length = m) (hn : n ≤ 140737488355328) :
    Tri Tryz.prog 76 #[.slice a n c, .slice b m d] (HP.sep Sa Sb) (fun v => HP.and (v = .bool (decide (la = lb))) (HP.sep Sa Sb)) := by
  refine Tri.fact (φ := (n ≠ 0 → a.isSome = true) ∧ (m ≠ 0 → b.isSome = true)) (fun R h H => ⟨hA.isSome (HP.sep_left H), hB.isSome (HP.sep_right H)⟩) fun ⟨ha, hb⟩ => ?_
  refine tri_of_tree (ρ := [.a a, .n n, .n c, .p Sa, .a b, .n m, .n d, .p Sb]) mixed Tryz.func76 tree_sameTexts ?_
  unfold t_sameTexts
  simp only [T.den, E.prop, E.den, RX.look, F1.app, F2.app, Uni.int_i, Uni.nat_n, Uni.bool_c, Uni.str_s, Uni.adr_a, Uni.val_v, Uni.hp_p, hden, cden, V.den, W.den, A.den, BR.den, SA.den, FV.den, capV, exs, exP, allP, Cur.app, List.map_cons, List.map_nil, List.cons_append, List.nil_append, List.drop_succ_cons, List.drop_zero, List.length_cons, List.length_nil, Nat.zero_add, Nat.reduceAdd, Int.neg_neg, Bool.not_not, List.append_nil, Nat.add_zero, List.getElem?_cons_zero, List.getElem?_cons_succ, Decidable.not_not, semW_eq, semW_load, semW_store, semW_storeC, semW_append, semW_lookup, semW_lookupC, semW_update, semW_updateC, semW_updateK, semW_delete, semW_range, semW_next, semW_entry, semW_nil, ne_eq, Nat.reduceEqDiff, not_false_eq_true]
  refine ⟨fun h => .of fun R h' H => ⟨?_, H⟩, fun h => ?_⟩
  · rw [decide_eq_false]
    intro e; subst e; omega
  have hnm : n = m := by omega
  subst hnm
  refine ⟨fun _ i => ∃ k : Nat, i = k ∧ k ≤ n ∧ la.take k = lb.take k, fun _ i => n - i.toNat, ⟨0, rfl, Nat.zero_le _, rfl⟩, ?_⟩
  rintro x _ ⟨k, rfl, hk, hpre⟩
  refine ⟨fun hlt => ⟨by omega, fun _ => ⟨ha (by omega), fun _ => ?_⟩⟩, fun hge => .of fun R h' H => ⟨?_, H⟩⟩
  · obtain ⟨x, hx⟩ := getN (l := la) (k := k) (by omega)
    obtain ⟨y, hy⟩ := getN (l := lb) (k := k) (by omega)
    have ra := loadStr hA.rd (k := (k : Int).toNat) hx
    have rb := loadStr hB.rd (k := (k : Int).toNat) hy
    refine ⟨_, ra, by omega, fun _ => ⟨hb (by omega), fun _ => ⟨_, rb, fun h1 => .of fun R h' H => ⟨by rw [decide_eq_false (get_ne hx hy h1)], H⟩, fun h1 => ⟨inI64' _ (by omega) (by omega), fun _ => ⟨⟨k + 1, by omega, by omega, take_eq hx hy hpre h1⟩, by dsimp only; omega⟩⟩⟩⟩⟩
  · have hke : k = n := by omega
    subst hke
    rw [List.take_of_length_le (by omega), List.take_of_length_le (by omega)] at hpre
    rw [decide_eq_true hpre]
theorem sameAnswer_ok (r s : AnsM) (da1 : Option Addr) (dc1 : Nat) (na1 : Option Addr) (nc1 : Nat) (da2 : Option Addr) (dc2 : Nat) (na2 : Option Addr) (nc2 : Nat) (D1 N1 D2 N2 : HP)
    (hD1 : RdL D1 da1 r.data.length (r.data.map u8v)) (hN1 : RdL N1 na1 r.names.length (r.names.map sE)) (hD2 : RdL D2 da2 s.data.length (s.data.map u8v)) (hN2 : RdL N2 na2 s.names.length (s.names.map sE)) (hb1 : r.data.length ≤ 140737488355328) (hb2 : r.names.length ≤ 140737488355328) :
    Tri Tryz.prog 21 #[r.at da1 dc1 na1 nc1, s.at da2 dc2 na2 nc2] (HP.sep D1 (HP.sep N1 (HP.sep D2 N2)))
      (fun v => HP.and (v = .bool (decide (r = s))) (HP.sep D1 (HP.sep N1 (HP.sep D2 N2)))) := by
  refine tri_of_tree (ρ := [.i r.err, .i r.kind, .i r.size, .i r.links, .a da1, .n r.data.length, .n dc1, .p D1, .a na1, .n r.names.length, .n nc1, .p N1, .i s.err, .i s.kind, .i s.size, .i s.links, .a da2, .n s.data.length, .n dc2, .p D2, .a na2, .n s.names.length, .n nc2, .p N2]) mixed Tryz.func21 tree_sameAnswer ?_
  unfold t_sameAnswer
  simp only [T.den, E.prop, E.den, RX.look, F1.app, F2.app, Uni.int_i, Uni.nat_n, Uni.bool_c, Uni.str_s, Uni.adr_a, Uni.val_v, Uni.hp_p, hden, cden, V.den, W.den, A.den, BR.den, SA.den, FV.den, capV, exs, exP, allP, Cur.app, List.map_cons, List.map_nil, List.cons_append, List.nil_append, List.drop_succ_cons, List.drop_zero, List.length_cons, List.length_nil, Nat.zero_add, Nat.reduceAdd, Int.neg_neg, Bool.not_not, List.append_nil, Nat.add_zero, List.getElem?_cons_zero, List.getElem?_cons_succ, Decidable.not_not, semW_eq, semW_load, semW_store, semW_storeC, semW_append, semW_lookup, semW_lookupC, semW_update, semW_updateC, semW_updateK, semW_delete, semW_range, semW_next, semW_entry, semW_nil, ne_eq, Nat.reduceEqDiff, not_false_eq_true]
  have no : ∀ {φ : Prop}, (r = s → φ) → ¬ φ → HP.ent (HP.sep D1 (HP.sep N1 (HP.sep D2 N2))) (HP.and (Value.bool false = .bool (decide (r = s))) (HP.sep D1 (HP.sep N1 (HP.sep D2 N2)))) := fun h1 h2 => .of fun R h H => ⟨by rw [decide_eq_false fun e => h2 (h1 e)], H⟩
  intro _ _
  refine ⟨fun e1 => ⟨fun e2 => ⟨fun e3 => ⟨fun e4 => ?_, no fun e => by rw [e]⟩, no fun e => by rw [e]⟩, no fun e => by rw [e]⟩, no fun e => by rw [e]⟩
  refine (same01_ok da1 _ dc1 r.data da2 _ dc2 s.data D1 D2 hD1 hD2 rfl rfl hb1).weak (fun _ _ h => h) ?_
  rintro v R h ⟨rfl, H⟩
  refine ⟨_, rfl, ⟨fun e5 => ?_, fun e5 => ?_⟩, H⟩
  · refine (sameTexts_ok na1 _ nc1 r.names na2 _ nc2 s.names N1 N2 hN1 hN2 rfl rfl hb2).weak (fun _ _ h => h) ?_
    rintro v R h ⟨rfl, H⟩
    refine ⟨_, rfl, .of fun R h H => ⟨?_, H⟩, H⟩
    have e5' := of_decide_eq_true e5
    have : (r.names = s.names) ↔ (r = s) := ⟨fun e6 => by
      obtain ⟨a1, a2, a3, a4, a5, a6⟩ := r
      obtain ⟨b1, b2, b3, b4, b5, b6⟩ := s
      simp only at *
      subst e1 e2 e3 e4 e5' e6
      rfl, fun e => by rw [e]⟩
    simp only [this]
  · refine .of fun R h H => ⟨?_, H⟩
    rw [decide_eq_false]
    intro e
    subst e
    exact e5 (by simp)
theorem strB {x y : List UInt8} : ((⟨x.toArray⟩ : ByteArray).toList == (⟨y.toArray⟩ : ByteArray).toList) = decide (x = y) := by
  rw [ByteArray.toList_eq, ByteArray.toList_eq]
  by_cases e : x = y
  · subst e; simp
  · simp [e]
theorem run_ent_eq {w : World} (r r' : Nm) (q q' : Int) : (Op.equal 140 (.agg #[sE r, .int .i64 q]) (.agg #[sE r', .int .i64 q'])).run Tryz.prog w = .ok (decide (r = r') && decide (q = q')) w := by
  have hs : Tryz.prog.stoodInHeld 140 = false := by kernel_rfl
  have hi : Tryz.prog.underlying 3 = some (.int .i64) := by kernel_rfl
  have ht : Tryz.prog.underlying 9 = some .string := by kernel_rfl
  have e2 : ∀ n, (Op.equalIn (n + 2) 140 (.agg #[sE r, .int .i64 q]) (.agg #[sE r', .int .i64 q'])).run Tryz.prog w = .ok (decide (r = r') && decide (q = q')) w := fun n => by
    rw [Op.equalIn]
    simp only [Sem.run_bind, RX.run_underlying Tryz.underlying140, Result.andThen_ok]
    simp [program, Sem.run, hs, Result.andThen]
    have pt : ∀ (cs : Array Value) (off : Nat) (v : Value), cs[off]? = some v → (part 9 cs off).run Tryz.prog w = .ok v w := fun cs off v h => by
      have ha : aggT Tryz.prog 9 = false := by kernel_rfl
      simp only [part, Sem.run_bind, RX.run_isAgg ht, Result.andThen_ok, ha, Bool.false_eq_true, if_false, h]
      rfl
    have pi : ∀ (cs : Array Value) (off : Nat) (v : Value), cs[off]? = some v → (part 3 cs off).run Tryz.prog w = .ok v w := fun cs off v h => by
      have ha : aggT Tryz.prog 3 = false := by kernel_rfl
      simp only [part, Sem.run_bind, RX.run_isAgg hi, Result.andThen_ok, ha, Bool.false_eq_true, if_false, h]
      rfl
    have p0 : ∀ (a : Nm) (b : Int), Sem.run Tryz.prog (part 9 #[sE a, Value.int IntKind.i64 b] 0) w = .ok (sE a) w := fun a b => pt _ _ _ rfl
    have p1 : ∀ (a : Nm) (b : Int), Sem.run Tryz.prog (part 3 #[sE a, Value.int IntKind.i64 b] 1) w = .ok (.int .i64 b) w := fun a b => pi _ _ _ rfl
    have eqi : ∀ (n : Nat) (a b : Int), (Op.equalIn (n + 1) 3 (.int .i64 a) (.int .i64 b)).run Tryz.prog w = .ok (decide (a = b)) w := fun n a b => by
      simp only [Op.equalIn, Sem.run_bind, RX.run_underlying hi, Result.andThen_ok, if_true, Sem.run_pure]
      rfl
    have eqs : ∀ (n : Nat) (a b : Nm), (Op.equalIn (n + 1) 9 (sE a) (sE b)).run Tryz.prog w = .ok (decide (a = b)) w := fun n a b => by
      show (Op.equalIn (n + 1) 9 (.string _) (.string _)).run Tryz.prog w = _
      rw [run_equalIn_string w n 9 _ _ ht, strB]
    simp only [p0, eqs]
    by_cases h1 : r = r'
    · simp [h1, Sem.run_bind, p1, eqi]
      by_cases h2 : q = q'
      · simp [h2]
      · simp [h2]
    · simp [h1]
  exact e2 9998
theorem neqEnt {i j : Nat} {ty u : TypeId} (h : i ≠ j) {r r' : Nm} {q q' : Int} {A : HP} :
    ORead Tryz.prog (semW (.binOp .neq 140 (.tmp i) (.tmp j) u) ty [(i, .agg #[sE r, .int .i64 q]), (j, .agg #[sE r', .int .i64 q'])]) A (.bool (!(decide (r = r') && decide (q = q')))) := fun w R hh F s _ => by
  have h' : (i == j) = false := by simpa using h
  have hg : Tryz.prog.eqGuardType Tryz.prog.depth 140 = false := by kernel_rfl
  simp only [semW, execOp, arW, List.find?_cons, beq_self_eq_true, h']
  simp [eqGuard, binOp, hg, program, Sem.run_bind, Sem.run, Result.andThen, run_ent_eq]
instance instNd : DecidableEq Nd := fun r s => decidable_of_iff (r.num = s.num ∧ r.kind = s.kind ∧ r.links = s.links ∧ r.data = s.data ∧ r.ents = s.ents) ⟨fun ⟨h1, h2, h3, h4, h5⟩ => by cases r; cases s; simp only at h1 h2 h3 h4 h5; subst h1 h2 h3 h4 h5; rfl, fun h => by subst h; exact ⟨rfl, rfl, rfl, rfl, rfl⟩⟩
theorem nodesData {a : Option Addr} {n : Nat} {es : List NodeE} {x : NodeE} (hx : x ∈ es) : RdL (Ls kNode a n es) x.da x.nd.data.length (x.nd.data.map u8v) :=
  ⟨Rd.impR (RdL.ro 1 x.da x.nd.data.length (x.nd.data.map u8v)).rd fun R h H => (H.2.2 x hx).1, fun R h H e => (RdL.ro 1 x.da x.nd.data.length (x.nd.data.map u8v)).none R h (H.2.2 x hx).1 e⟩
theorem undEnt : ∃ d, Tryz.prog.underlying 140 = some d := Option.isSome_iff_exists.1 (by kernel_rfl)
theorem aggEnt : aggT Tryz.prog 140 = true := by kernel_rfl
theorem szEnt : szT Tryz.prog 140 = 2 := by kernel_rfl
theorem loadEnt {a : Option Addr} {n : Nat} {es : List NodeE} {x : NodeE} (hx : x ∈ es) {k : Nat} {e : Nm × Nat} (hk : x.nd.ents[k]? = some e) : ORead Tryz.prog (loadS 140 (.pointer (x.ea.map fun y => (y.add (k * 2)).add 0))) (Ls kNode a n es) (.agg #[sE e.1, .int .i64 e.2]) := by
  obtain ⟨d, hd⟩ := undEnt
  exact ORead.ent (.of fun R h H => (H.2.2 x hx).2) (Ls.load (K := kEnt) hd aggEnt szEnt hk)
theorem nodesEa {a : Option Addr} {n : Nat} {es : List NodeE} {R h : PH} (H : (Ls kNode a n es).p R h) : ∀ x ∈ es, x.nd.ents.length ≠ 0 → x.ea.isSome = true := fun x hx hn => Ls.some (H.2.2 x hx).2 hn
set_option maxHeartbeats 1000000 in
theorem sameNodes_ok (a : Option Addr) (n c : Nat) (es : List NodeE) (b : Option Addr) (m d : Nat) (fs : List NodeE) (hb : ∀ x ∈ es, x.nd.data.length ≤ 140737488355328 ∧ x.nd.ents.length ≤ 140737488355328) (hn : n ≤ 140737488355328) :
    Tri Tryz.prog 20 #[.slice a n c, .slice b m d] (HP.sep (Ls kNode a n es) (Ls kNode b m fs)) (fun v => HP.and (v = .bool (decide (es.map (·.nd) = fs.map (·.nd)))) (HP.sep (Ls kNode a n es) (Ls kNode b m fs))) := by
  refine Tri.fact (φ := (es.length = n ∧ fs.length = m) ∧ ((n ≠ 0 → a.isSome = true) ∧ (m ≠ 0 → b.isSome = true)) ∧ (∀ x ∈ es, x.nd.ents.length ≠ 0 → x.ea.isSome = true) ∧ (∀ x ∈ fs, x.nd.ents.length ≠ 0 → x.ea.isSome = true)) (fun R h H => ⟨⟨(HP.sep_left H).1, (HP.sep_right H).1⟩, ⟨fun h => Ls.some (HP.sep_left H) h, fun h => Ls.some (HP.sep_right H) h⟩, nodesEa (HP.sep_left H), nodesEa (HP.sep_right H)⟩) fun ⟨⟨hl, hm⟩, ⟨ha, hb'⟩, hea, heb⟩ => ?_
  refine tri_of_tree (ρ := [.a a, .n n, .n c, .p (Ls kNode a n es), .a b, .n m, .n d, .p (Ls kNode b m fs)]) mixed Tryz.func20 tree_sameNodes ?_
  unfold t_sameNodes
  simp only [T.den, E.prop, E.den, RX.look, F1.app, F2.app, Uni.int_i, Uni.nat_n, Uni.bool_c, Uni.str_s, Uni.adr_a, Uni.val_v, Uni.hp_p, hden, cden, V.den, W.den, A.den, BR.den, SA.den, FV.den, capV, exs, exP, allP, Cur.app, List.map_cons, List.map_nil, List.cons_append, List.nil_append, List.drop_succ_cons, List.drop_zero, List.length_cons, List.length_nil, Nat.zero_add, Nat.reduceAdd, Int.neg_neg, Bool.not_not, List.append_nil, Nat.add_zero, List.getElem?_cons_zero, List.getElem?_cons_succ, Decidable.not_not, semW_eq, semW_load, semW_store, semW_storeC, semW_append, semW_lookup, semW_lookupC, semW_update, semW_updateC, semW_updateK, semW_delete, semW_range, semW_next, semW_entry, semW_nil, ne_eq, Nat.reduceEqDiff, not_false_eq_true]
  have no : es.map (·.nd) ≠ fs.map (·.nd) → HP.ent (HP.sep (Ls kNode a n es) (Ls kNode b m fs)) (HP.and (Value.bool false = .bool (decide (es.map (·.nd) = fs.map (·.nd)))) (HP.sep (Ls kNode a n es) (Ls kNode b m fs))) := fun h => .of fun R h' H => ⟨by rw [decide_eq_false h], H⟩
  refine ⟨fun h => no fun e => ?_, fun h => ?_⟩
  · have := congrArg List.length e
    simp only [List.length_map] at this
    omega
  have hnm : n = m := by omega
  refine ⟨fun _ i => ∃ k : Nat, i = k ∧ k ≤ n ∧ (es.map (·.nd)).take k = (fs.map (·.nd)).take k, fun _ i => n - i.toNat, ⟨0, rfl, Nat.zero_le _, rfl⟩, ?_⟩
  rintro x0 _ ⟨k, rfl, hk, hpre⟩
  refine ⟨fun hlt => ?_, fun hge => .of fun R h' H => ⟨?_, H⟩⟩
  · obtain ⟨x, hx⟩ := getN (l := es) (k := k) (by omega)
    obtain ⟨y, hy⟩ := getN (l := fs) (k := k) (by omega)
    have hxm := List.mem_of_getElem? hx
    have hym := List.mem_of_getElem? hy
    have hx' : (es.map (·.nd))[k]? = some x.nd := by rw [List.getElem?_map, hx]; rfl
    have hy' : (fs.map (·.nd))[k]? = some y.nd := by rw [List.getElem?_map, hy]; rfl
    have hxb := hb x hxm
    refine ⟨fun _ _ n2 k2 l2 da2 dl2 dc2 ea2 el2 ec2 n1 k1 l1 da1 dl1 dc1 ea1 el1 ec1 => n2 = y.nd.num ∧ k2 = y.nd.kind ∧ l2 = y.nd.links ∧ da2 = y.da ∧ dl2 = y.nd.data.length ∧ dc2 = y.dc ∧ ea2 = y.ea ∧ el2 = y.nd.ents.length ∧ ec2 = y.ec ∧ n1 = x.nd.num ∧ k1 = x.nd.kind ∧ l1 = x.nd.links ∧ da1 = x.da ∧ dl1 = x.nd.data.length ∧ dc1 = x.dc ∧ ea1 = x.ea ∧ el1 = x.nd.ents.length ∧ ec1 = x.ec, ?_, ?_⟩
    · refine ⟨by omega, fun _ => ⟨ha (by omega), fun _ => ⟨x.nd.num, x.nd.kind, x.nd.links, x.da, x.nd.data.length, x.dc, x.ea, x.nd.ents.length, x.ec, loadNode hx, by omega, fun _ => ⟨hb' (by omega), fun _ => ⟨y.nd.num, y.nd.kind, y.nd.links, y.da, y.nd.data.length, y.dc, y.ea, y.nd.ents.length, y.ec, loadNode hy, ?_⟩⟩⟩⟩⟩
      exact ⟨fun _ _ => ⟨rfl, rfl, rfl, rfl, rfl, rfl, rfl, rfl, rfl, rfl, rfl, rfl, rfl, rfl, rfl, rfl, rfl, rfl⟩, fun _ _ => ⟨rfl, rfl, rfl, rfl, rfl, rfl, rfl, rfl, rfl, rfl, rfl, rfl, rfl, rfl, rfl, rfl, rfl, rfl⟩⟩
    rintro _ _ _ _ _ _ _ _ _ _ _ _ _ _ _ _ _ _ _ _ ⟨rfl, rfl, rfl, rfl, rfl, rfl, rfl, rfl, rfl, rfl, rfl, rfl, rfl, rfl, rfl, rfl, rfl, rfl⟩
    have dif : x.nd ≠ y.nd → es.map (·.nd) ≠ fs.map (·.nd) := get_ne hx' hy'
    refine ⟨fun h => no (dif fun e => h (by rw [e])), fun e1 => ⟨fun h => no (dif fun e => h (by rw [e])), fun e2 => ⟨fun h => no (dif fun e => h (by rw [e])), fun e3 => ?_⟩⟩⟩
    refine (same01_ok x.da _ x.dc x.nd.data y.da _ y.dc y.nd.data (Ls kNode a n es) (Ls kNode b m fs) (nodesData hxm) (nodesData hym) rfl rfl hxb.1).weak (fun _ _ h => h) ?_
    rintro v R h ⟨rfl, H⟩
    refine ⟨_, rfl, ⟨fun h => no (dif fun e => h (by rw [e]; simp)), fun e4 => ⟨fun h => no (dif fun e => h (by rw [e])), fun e5 => ?_⟩⟩, H⟩
    have e4' := of_decide_eq_true e4
    clear H
    refine ⟨fun _ i => ∃ j : Nat, i = j ∧ j ≤ x.nd.ents.length ∧ x.nd.ents.take j = y.nd.ents.take j, fun _ i => x.nd.ents.length - i.toNat, ⟨0, rfl, Nat.zero_le _, rfl⟩, ?_⟩
    rintro x1 _ ⟨j, rfl, hj, hpre2⟩
    refine ⟨fun hlt2 => ⟨by omega, fun _ => ⟨hea x hxm (by omega), fun _ => ?_⟩⟩, fun hge2 => ?_⟩
    · obtain ⟨p, hp⟩ := getN (l := x.nd.ents) (k := j) (by omega)
      obtain ⟨q, hq⟩ := getN (l := y.nd.ents) (k := j) (by omega)
      refine ⟨p.1, p.2, loadEnt hxm hp, by omega, fun _ => ⟨heb y hym (by omega), fun _ => ⟨q.1, q.2, loadEnt hym hq, _, neqEnt (by decide), fun h => no (dif fun e => ?_), fun h => ⟨inI64' _ (by omega) (by omega), fun _ => ⟨⟨j + 1, by omega, by omega, take_eq hp hq hpre2 ?_⟩, by dsimp only; omega⟩⟩⟩⟩⟩
      · have : p = q := by rw [e] at hp; rw [hp] at hq; exact Option.some.inj hq
        subst this
        simp at h
      · simp at h
        exact Prod.ext h.1 (by have := h.2; omega)
    · have e6 : x.nd.ents = y.nd.ents := by
        rw [List.take_of_length_le (by omega), List.take_of_length_le (by omega)] at hpre2
        exact hpre2
      have e7 : x.nd = y.nd := by
        obtain ⟨⟨a1, a2, a3, a4, a5⟩, _, _, _, _⟩ := x
        obtain ⟨⟨b1, b2, b3, b4, b5⟩, _, _, _, _⟩ := y
        simp only at e1 e2 e3 e4' e6 ⊢
        have : a1 = b1 := by omega
        subst this e2 e3 e4' e6
        rfl
      exact ⟨inI64' _ (by omega) (by omega), fun _ => ⟨⟨k + 1, by omega, by omega, take_eq hx' hy' hpre e7⟩, by dsimp only; omega⟩⟩
  · have hke : k = n := by omega
    subst hke
    rw [List.take_of_length_le (by simp; omega), List.take_of_length_le (by simp; omega)] at hpre
    rw [decide_eq_true hpre]
end Go.Proofs.YtdieogcemmnaaaaGreatDoor

/- Trees of functions, printed by rx.lean. No condition. -/
namespace Go.Proofs.YtdieogcemmnaaaaGreatDoor.RX
set_option maxRecDepth 100000
-- tideline/tidelinelaw04.TreeRenames: ρ := [.a callsa, .n callsl, .n callsc, .p callsP, .s from, .s to]
def t_treeRenames : T :=
(.call 15 [] [] [.c] (.w (.a (.bool (.v 6)))) []
(.br (.o1 .not (.v 6))
 (.ret (.w (.a (.bool (.c false)))) [((.a 0), (.prop 3))])
 (.call 16 [(.a (.sl (.v 0) (.v 1) (.v 2)))] [((.a 0), (.prop 3))] [.c] (.w (.a (.bool (.v 7)))) [((.a 0), (.prop 3))]
 (.br (.v 7)
  (.ret (.w (.a (.bool (.c true)))) [((.a 0), (.prop 3))])
  (.br (.o2 .lt (.i 300) (.o1 .ofNat (.o1 .size (.v 4))))
   (.ret (.w (.a (.bool (.c true)))) [((.a 0), (.prop 3))])
   (.br (.o2 .lt (.i 300) (.o1 .ofNat (.o1 .size (.v 5))))
    (.ret (.w (.a (.bool (.c true)))) [((.a 0), (.prop 3))])
    (.call 17 [] [] [.n, .p] (.w (.a (.ptr (.v 8) 0))) [((.b (.v 8)), (.prop 9))]
    (.loop [.i, .p] [(.e (.o1 .neg (.o1 .neg (.i 0)))), (.p [((.b (.v 8)), (.prop 9))])]
     (.br (.o2 .lt (.v 10) (.o1 .ofNat (.v 1)))
      (.need (.o2 .le (.i 0) (.v 10))
      (.need (.o1 .isSome (.v 0))
      (.read (.load 34 (.tmp 33)) 34 [(33, (.w (.a (.eptr 0 (.v 10) 6 0))))] [((.a 0), (.prop 3))] [.i, .s, .s, .i, .i, .a, .n, .n] (.w (.agg [(.int .i64 (.v 12)), (.str (.v 13)), (.str (.v 14)), (.int .i64 (.v 15)), (.int .i64 (.v 16)), (.sl (.v 17) (.v 18) (.v 19))]))
      (.new
      (.call 18 [(.a (.ptr (.v 8) 0)), (.agg [(.int .i64 (.v 12)), (.str (.v 13)), (.str (.v 14)), (.int .i64 (.v 15)), (.int .i64 (.v 16)), (.sl (.v 17) (.v 18) (.v 19))])] [((.b (.v 8)), (.prop 11)), ((.a 0), (.prop 3))] [.i, .i, .i, .i, .a, .n, .n, .p, .a, .n, .n, .p, .p] (.w (.agg [(.int .i64 (.v 21)), (.int .i64 (.v 22)), (.int .i64 (.v 23)), (.int .i64 (.v 24)), (.sl (.v 25) (.v 26) (.v 27)), (.sl (.v 29) (.v 30) (.v 31))])) [((.a 25), (.prop 28)), ((.a 29), (.prop 32)), ((.b (.v 8)), (.prop 33)), ((.a 0), (.prop 3))]
      (.need (.o1 (.inr .i64) (.o2 .add (.v 10) (.i 1)))
      (.again 0 [(.e (.o1 .neg (.o1 .neg (.o2 .add (.v 10) (.i 1))))), (.p [((.b (.v 8)), (.prop 33))])])))))))
      (.call 19 [(.a (.ptr (.v 8) 0))] [((.b (.v 8)), (.prop 11))] [.a, .n, .n, .p] (.w (.a (.sl (.v 12) (.v 13) (.v 14)))) [((.a 12), (.prop 15)), ((.b (.v 8)), (.prop 11))]
      (.call 18 [(.a (.ptr (.v 8) 0)), (.agg [(.int .i64 (.i 10)), (.str (.v 4)), (.str (.s [])), (.int .i64 (.i 0)), (.int .i64 (.i 0)), (.sl .nil (.n 0) (.n 0))])] [((.b (.v 8)), (.prop 11))] [.i, .i, .i, .i, .a, .n, .n, .p, .a, .n, .n, .p, .p] (.w (.agg [(.int .i64 (.v 16)), (.int .i64 (.v 17)), (.int .i64 (.v 18)), (.int .i64 (.v 19)), (.sl (.v 20) (.v 21) (.v 22)), (.sl (.v 24) (.v 25) (.v 26))])) [((.a 20), (.prop 23)), ((.a 24), (.prop 27)), ((.b (.v 8)), (.prop 28))]
      (.new
      (.call 18 [(.a (.ptr (.v 8) 0)), (.agg [(.int .i64 (.i 6)), (.str (.v 4)), (.str (.v 5)), (.int .i64 (.i 0)), (.int .i64 (.i 0)), (.sl .nil (.n 0) (.n 0))])] [((.b (.v 8)), (.prop 28))] [.i, .i, .i, .i, .a, .n, .n, .p, .a, .n, .n, .p, .p] (.w (.agg [(.int .i64 (.v 30)), (.int .i64 (.v 31)), (.int .i64 (.v 32)), (.int .i64 (.v 33)), (.sl (.v 34) (.v 35) (.v 36)), (.sl (.v 38) (.v 39) (.v 40))])) [((.a 34), (.prop 37)), ((.a 38), (.prop 41)), ((.b (.v 8)), (.prop 42))]
      (.br (.o1 .not (.o2 .eq (.v 30) (.i 0)))
       (.call 19 [(.a (.ptr (.v 8) 0))] [((.b (.v 8)), (.prop 42))] [.a, .n, .n, .p] (.w (.a (.sl (.v 43) (.v 44) (.v 45)))) [((.a 43), (.prop 46)), ((.b (.v 8)), (.prop 42))]
       (.call 20 [(.a (.sl (.v 43) (.v 44) (.v 45))), (.a (.sl (.v 12) (.v 13) (.v 14)))] [((.a 43), (.prop 46)), ((.a 12), (.prop 15))] [.c] (.w (.a (.bool (.v 47)))) [((.a 43), (.prop 46)), ((.a 12), (.prop 15))]
       (.ret (.w (.a (.bool (.v 47)))) [((.a 0), (.prop 3))])))
       (.br (.o2 .seq (.v 4) (.v 5))
        (.call 19 [(.a (.ptr (.v 8) 0))] [((.b (.v 8)), (.prop 42))] [.a, .n, .n, .p] (.w (.a (.sl (.v 43) (.v 44) (.v 45)))) [((.a 43), (.prop 46)), ((.b (.v 8)), (.prop 42))]
        (.call 20 [(.a (.sl (.v 43) (.v 44) (.v 45))), (.a (.sl (.v 12) (.v 13) (.v 14)))] [((.a 43), (.prop 46)), ((.a 12), (.prop 15))] [.c] (.w (.a (.bool (.v 47)))) [((.a 43), (.prop 46)), ((.a 12), (.prop 15))]
        (.ret (.w (.a (.bool (.v 47)))) [((.a 0), (.prop 3))])))
        (.call 18 [(.a (.ptr (.v 8) 0)), (.agg [(.int .i64 (.i 10)), (.str (.v 5)), (.str (.s [])), (.int .i64 (.i 0)), (.int .i64 (.i 0)), (.sl .nil (.n 0) (.n 0))])] [((.b (.v 8)), (.prop 42))] [.i, .i, .i, .i, .a, .n, .n, .p, .a, .n, .n, .p, .p] (.w (.agg [(.int .i64 (.v 43)), (.int .i64 (.v 44)), (.int .i64 (.v 45)), (.int .i64 (.v 46)), (.sl (.v 47) (.v 48) (.v 49)), (.sl (.v 51) (.v 52) (.v 53))])) [((.a 47), (.prop 50)), ((.a 51), (.prop 54)), ((.b (.v 8)), (.prop 55))]
        (.new
        (.call 18 [(.a (.ptr (.v 8) 0)), (.agg [(.int .i64 (.i 10)), (.str (.v 4)), (.str (.s [])), (.int .i64 (.i 0)), (.int .i64 (.i 0)), (.sl .nil (.n 0) (.n 0))])] [((.b (.v 8)), (.prop 55))] [.i, .i, .i, .i, .a, .n, .n, .p, .a, .n, .n, .p, .p] (.w (.agg [(.int .i64 (.v 57)), (.int .i64 (.v 58)), (.int .i64 (.v 59)), (.int .i64 (.v 60)), (.sl (.v 61) (.v 62) (.v 63)), (.sl (.v 65) (.v 66) (.v 67))])) [((.a 61), (.prop 64)), ((.a 65), (.prop 68)), ((.b (.v 8)), (.prop 69))]
        (.new
        (.call 21 [(.agg [(.int .i64 (.v 16)), (.int .i64 (.v 17)), (.int .i64 (.v 18)), (.int .i64 (.v 19)), (.sl (.v 20) (.v 21) (.v 22)), (.sl (.v 24) (.v 25) (.v 26))]), (.agg [(.int .i64 (.v 43)), (.int .i64 (.v 44)), (.int .i64 (.v 45)), (.int .i64 (.v 46)), (.sl (.v 47) (.v 48) (.v 49)), (.sl (.v 51) (.v 52) (.v 53))])] [((.a 20), (.prop 23)), ((.a 24), (.prop 27)), ((.a 47), (.prop 50)), ((.a 51), (.prop 54))] [.c] (.w (.a (.bool (.v 71)))) [((.a 20), (.prop 23)), ((.a 24), (.prop 27)), ((.a 47), (.prop 50)), ((.a 51), (.prop 54))]
        (.br (.o1 .not (.v 71))
         (.ret (.w (.a (.bool (.c false)))) [((.a 0), (.prop 3))])
         (.br (.o2 .eq (.v 57) (.i 0))
          (.ret (.w (.a (.bool (.c false)))) [((.a 0), (.prop 3))])
          (.call 19 [(.a (.ptr (.v 8) 0))] [((.b (.v 8)), (.prop 69))] [.a, .n, .n, .p] (.w (.a (.sl (.v 72) (.v 73) (.v 74)))) [((.a 72), (.prop 75)), ((.b (.v 8)), (.prop 69))]
          (.br (.o1 .not (.o2 .eq (.o1 .ofNat (.v 73)) (.o1 .ofNat (.v 13))))
           (.ret (.w (.a (.bool (.c false)))) [((.a 0), (.prop 3))])
           (.call 18 [(.a (.ptr (.v 8) 0)), (.agg [(.int .i64 (.i 6)), (.str (.v 5)), (.str (.v 4)), (.int .i64 (.i 0)), (.int .i64 (.i 0)), (.sl .nil (.n 0) (.n 0))])] [((.b (.v 8)), (.prop 69))] [.i, .i, .i, .i, .a, .n, .n, .p, .a, .n, .n, .p, .p] (.w (.agg [(.int .i64 (.v 76)), (.int .i64 (.v 77)), (.int .i64 (.v 78)), (.int .i64 (.v 79)), (.sl (.v 80) (.v 81) (.v 82)), (.sl (.v 84) (.v 85) (.v 86))])) [((.a 80), (.prop 83)), ((.a 84), (.prop 87)), ((.b (.v 8)), (.prop 88))]
           (.br (.o2 .eq (.v 76) (.i 0))
            (.call 19 [(.a (.ptr (.v 8) 0))] [((.b (.v 8)), (.prop 88))] [.a, .n, .n, .p] (.w (.a (.sl (.v 89) (.v 90) (.v 91)))) [((.a 89), (.prop 92)), ((.b (.v 8)), (.prop 88))]
            (.call 20 [(.a (.sl (.v 89) (.v 90) (.v 91))), (.a (.sl (.v 12) (.v 13) (.v 14)))] [((.a 89), (.prop 92)), ((.a 12), (.prop 15))] [.c] (.w (.a (.bool (.v 93)))) [((.a 89), (.prop 92)), ((.a 12), (.prop 15))]
            (.ret (.w (.a (.bool (.v 93)))) [((.a 0), (.prop 3))])))
            (.ret (.w (.a (.bool (.c false)))) [((.a 0), (.prop 3))])))))))))))))))))))))))))))
theorem tree_treeRenames : tree Tryz.prog { absT := [], opq := [], hv := [(0, [(.b (.v 8))])], keep := [19, 25, 21, 20, 26, 16], link := [], ent := [], turn := [(18, [0])], shr := [], vt := [], mkd := [], rlink := [], pty := [], outl := false, stay := [], snk := [], rdf := true } Tryz.f4 [(.a (.sl (.v 0) (.v 1) (.v 2))), (.a (.str (.v 4))), (.a (.str (.v 5)))] [((.a 0), (.prop 3))] 6 = t_treeRenames := by kernel_rfl
-- tideline/tidelinelaw04.TreeErrors: ρ := [.a callsa, .n callsl, .n callsc, .p callsP]
def t_treeErrors : T :=
(.call 15 [] [] [.c] (.w (.a (.bool (.v 4)))) []
(.br (.o1 .not (.v 4))
 (.ret (.w (.a (.bool (.c false)))) [((.a 0), (.prop 3))])
 (.call 16 [(.a (.sl (.v 0) (.v 1) (.v 2)))] [((.a 0), (.prop 3))] [.c] (.w (.a (.bool (.v 5)))) [((.a 0), (.prop 3))]
 (.br (.v 5)
  (.ret (.w (.a (.bool (.c true)))) [((.a 0), (.prop 3))])
  (.call 17 [] [] [.n, .p] (.w (.a (.ptr (.v 6) 0))) [((.b (.v 6)), (.prop 7))]
  (.loop [.c, .i, .p] [(.e (.o1 .not (.o1 .not (.c false)))), (.e (.o1 .neg (.o1 .neg (.i 0)))), (.p [((.b (.v 6)), (.prop 7))])]
   (.br (.o2 .lt (.v 9) (.o1 .ofNat (.v 1)))
    (.need (.o2 .le (.i 0) (.v 9))
    (.need (.o1 .isSome (.v 0))
    (.read (.load 34 (.tmp 17)) 34 [(17, (.w (.a (.eptr 0 (.v 9) 6 0))))] [((.a 0), (.prop 3))] [.i, .s, .s, .i, .i, .a, .n, .n] (.w (.agg [(.int .i64 (.v 11)), (.str (.v 12)), (.str (.v 13)), (.int .i64 (.v 14)), (.int .i64 (.v 15)), (.sl (.v 16) (.v 17) (.v 18))]))
    (.new
    (.call 19 [(.a (.ptr (.v 6) 0))] [((.b (.v 6)), (.prop 10))] [.a, .n, .n, .p] (.w (.a (.sl (.v 20) (.v 21) (.v 22)))) [((.a 20), (.prop 23)), ((.b (.v 6)), (.prop 10))]
    (.call 18 [(.a (.ptr (.v 6) 0)), (.agg [(.int .i64 (.v 11)), (.str (.v 12)), (.str (.v 13)), (.int .i64 (.v 14)), (.int .i64 (.v 15)), (.sl (.v 16) (.v 17) (.v 18))])] [((.b (.v 6)), (.prop 10)), ((.a 0), (.prop 3))] [.i, .i, .i, .i, .a, .n, .n, .p, .a, .n, .n, .p, .p] (.w (.agg [(.int .i64 (.v 24)), (.int .i64 (.v 25)), (.int .i64 (.v 26)), (.int .i64 (.v 27)), (.sl (.v 28) (.v 29) (.v 30)), (.sl (.v 32) (.v 33) (.v 34))])) [((.a 28), (.prop 31)), ((.a 32), (.prop 35)), ((.b (.v 6)), (.prop 36)), ((.a 0), (.prop 3))]
    (.new
    (.br (.o1 .not (.o2 .eq (.v 24) (.i 0)))
     (.call 19 [(.a (.ptr (.v 6) 0))] [((.b (.v 6)), (.prop 36))] [.a, .n, .n, .p] (.w (.a (.sl (.v 38) (.v 39) (.v 40)))) [((.a 38), (.prop 41)), ((.b (.v 6)), (.prop 36))]
     (.call 20 [(.a (.sl (.v 38) (.v 39) (.v 40))), (.a (.sl (.v 20) (.v 21) (.v 22)))] [((.a 38), (.prop 41)), ((.a 20), (.prop 23))] [.c] (.w (.a (.bool (.v 42)))) [((.a 38), (.prop 41)), ((.a 20), (.prop 23))]
     (.br (.o1 .not (.v 42))
      (.ret (.w (.a (.bool (.c false)))) [((.a 0), (.prop 3))])
      (.call 19 [(.a (.ptr (.v 6) 0))] [((.b (.v 6)), (.prop 36))] [.a, .n, .n, .p] (.w (.a (.sl (.v 43) (.v 44) (.v 45)))) [((.a 43), (.prop 46)), ((.b (.v 6)), (.prop 36))]
      (.call 26 [(.a (.sl (.v 43) (.v 44) (.v 45)))] [((.a 43), (.prop 46))] [.c] (.w (.a (.bool (.v 47)))) [((.a 43), (.prop 46))]
      (.br (.o1 .not (.v 47))
       (.ret (.w (.a (.bool (.c false)))) [((.a 0), (.prop 3))])
       (.call 21 [(.agg [(.int .i64 (.v 24)), (.int .i64 (.v 25)), (.int .i64 (.v 26)), (.int .i64 (.v 27)), (.sl (.v 28) (.v 29) (.v 30)), (.sl (.v 32) (.v 33) (.v 34))]), (.agg [(.int .i64 (.v 24)), (.int .i64 (.i 0)), (.int .i64 (.i 0)), (.int .i64 (.i 0)), (.sl .nil (.n 0) (.n 0)), (.sl .nil (.n 0) (.n 0))])] [((.a 28), (.prop 31)), ((.a 32), (.prop 35))] [.c] (.w (.a (.bool (.v 48)))) [((.a 28), (.prop 31)), ((.a 32), (.prop 35))]
       (.br (.o1 .not (.v 48))
        (.ret (.w (.a (.bool (.c false)))) [((.a 0), (.prop 3))])
        (.need (.o1 (.inr .i64) (.o2 .add (.v 9) (.i 1)))
        (.again 0 [(.e (.o1 .not (.o1 .not (.v 8)))), (.e (.o1 .neg (.o1 .neg (.o2 .add (.v 9) (.i 1))))), (.p [((.b (.v 6)), (.prop 36))])]))))))))))
     (.call 25 [(.a (.int .i64 (.v 11)))] [] [.c] (.w (.a (.bool (.v 38)))) []
     (.br (.o1 .not (.v 38))
      (.call 19 [(.a (.ptr (.v 6) 0))] [((.b (.v 6)), (.prop 36))] [.a, .n, .n, .p] (.w (.a (.sl (.v 39) (.v 40) (.v 41)))) [((.a 39), (.prop 42)), ((.b (.v 6)), (.prop 36))]
      (.call 20 [(.a (.sl (.v 39) (.v 40) (.v 41))), (.a (.sl (.v 20) (.v 21) (.v 22)))] [((.a 39), (.prop 42)), ((.a 20), (.prop 23))] [.c] (.w (.a (.bool (.v 43)))) [((.a 39), (.prop 42)), ((.a 20), (.prop 23))]
      (.br (.o1 .not (.v 43))
       (.ret (.w (.a (.bool (.c false)))) [((.a 0), (.prop 3))])
       (.call 19 [(.a (.ptr (.v 6) 0))] [((.b (.v 6)), (.prop 36))] [.a, .n, .n, .p] (.w (.a (.sl (.v 44) (.v 45) (.v 46)))) [((.a 44), (.prop 47)), ((.b (.v 6)), (.prop 36))]
       (.call 26 [(.a (.sl (.v 44) (.v 45) (.v 46)))] [((.a 44), (.prop 47))] [.c] (.w (.a (.bool (.v 48)))) [((.a 44), (.prop 47))]
       (.br (.o1 .not (.v 48))
        (.ret (.w (.a (.bool (.c false)))) [((.a 0), (.prop 3))])
        (.need (.o1 (.inr .i64) (.o2 .add (.v 9) (.i 1)))
        (.again 0 [(.e (.o1 .not (.o1 .not (.v 8)))), (.e (.o1 .neg (.o1 .neg (.o2 .add (.v 9) (.i 1))))), (.p [((.b (.v 6)), (.prop 36))])]))))))))
      (.call 19 [(.a (.ptr (.v 6) 0))] [((.b (.v 6)), (.prop 36))] [.a, .n, .n, .p] (.w (.a (.sl (.v 39) (.v 40) (.v 41)))) [((.a 39), (.prop 42)), ((.b (.v 6)), (.prop 36))]
      (.call 26 [(.a (.sl (.v 39) (.v 40) (.v 41)))] [((.a 39), (.prop 42))] [.c] (.w (.a (.bool (.v 43)))) [((.a 39), (.prop 42))]
      (.br (.o1 .not (.v 43))
       (.ret (.w (.a (.bool (.c false)))) [((.a 0), (.prop 3))])
       (.need (.o1 (.inr .i64) (.o2 .add (.v 9) (.i 1)))
       (.again 0 [(.e (.o1 .not (.o1 .not (.v 8)))), (.e (.o1 .neg (.o1 .neg (.o2 .add (.v 9) (.i 1))))), (.p [((.b (.v 6)), (.prop 36))])])))))))))))))))
    (.ret (.w (.a (.bool (.c true)))) [((.a 0), (.prop 3))]))))))))
theorem tree_treeErrors : tree Tryz.prog { absT := [], opq := [], hv := [(0, [(.b (.v 6))])], keep := [19, 25, 21, 20, 26, 16], link := [], ent := [], turn := [(18, [0])], shr := [], vt := [], mkd := [], rlink := [], pty := [], outl := false, stay := [], snk := [], rdf := true } Tryz.f7 [(.a (.sl (.v 0) (.v 1) (.v 2)))] [((.a 0), (.prop 3))] 4 = t_treeErrors := by kernel_rfl
end Go.Proofs.YtdieogcemmnaaaaGreatDoor.RX

/- Law 4: TreeRenames answers true. No condition. -/
namespace Go.Proofs.YtdieogcemmnaaaaGreatDoor
set_option linter.unusedSimpArgs false
set_option linter.unusedVariables false
open Go.Proofs.YtdieogcemmnaaaaGreatDoor RX
set_option maxRecDepth 100000

theorem renameL {b : Nat} {t : TS} {B : Nat} {T1 : List Nd} (wf : TWf B T1) (hB : B ≤ 100000) (hT : t.pub = T1) (path other : Nm) {K : Int → Int → Int → Int → Option Addr → Nat → Nat → HP → Option Addr → Nat → Nat → HP → HP → Prop}
    (hK : ∀ t' da dc na nc, t'.pub = (renameS T1 path other).1 → K (renameS T1 path other).2 0 0 0 da 0 dc (OwB da 0 dc []) na 0 nc (OwS na 0 nc []) (TRep b t')) :
    Tri Tryz.prog 18 #[.pointer (some ⟨b, 0, none⟩), .agg #[.int .i64 6, .string ⟨path.toArray⟩, .string ⟨other.toArray⟩, .int .i64 0, .int .i64 0, .slice none 0 0]] (TRep b t) (fun v => HP.ex fun e : Int => HP.ex fun k : Int => HP.ex fun s : Int => HP.ex fun l : Int => HP.ex fun da : Option Addr => HP.ex fun dl : Nat => HP.ex fun dc : Nat => HP.ex fun dP : HP => HP.ex fun na : Option Addr => HP.ex fun nl : Nat => HP.ex fun nc : Nat => HP.ex fun nP : HP => HP.ex fun tP : HP =>
      HP.and (v = .agg #[.int .i64 e, .int .i64 k, .int .i64 s, .int .i64 l, .slice da dl dc, .slice na nl nc]) (HP.and (K e k s l da dl dc dP na nl nc nP tP) (HP.sep dP (HP.sep nP tP)))) := by
  have e : doS t.pub 6 path other 0 0 [] = ((renameS T1 path other).1, { err := (renameS T1 path other).2 }) := by rw [hT]; simp [doS]
  refine doL0 hB (by rw [hT]; exact wf) 6 path other 0 0 fun t' da dc na nc h => ?_
  rw [e] at h ⊢
  exact hK t' da dc na nc h
theorem esB {B : Nat} (hB : B ≤ 100000) {T : List Nd} (wf : TWf B T) {es : List NodeE} (he : es.map (·.nd) = T) : ∀ x ∈ es, x.nd.data.length ≤ 140737488355328 ∧ x.nd.ents.length ≤ 140737488355328 := fun x hx => by
  have hm : x.nd ∈ T := by rw [← he]; exact List.mem_map.2 ⟨x, hx, rfl⟩
  have := wf.good _ hm
  have := this.data
  have := (wf.good _ hm).efew
  omega
theorem statS_len {T : List Nd} {p : Nm} : (statS T p).data = [] ∧ (statS T p).names = [] := by
  unfold statS
  split
  · exact ⟨rfl, rfl⟩
  · split <;> exact ⟨rfl, rfl⟩
theorem stat_gone {T : List Nd} {p : Nm} (h : (findS T p).2 ≠ 0) : (statS T p).err ≠ 0 := by
  unfold statS
  rw [if_pos h]
  exact h
theorem pub_few {B : Nat} {t : TS} (wf : TWf B t.pub) : t.pub.length ≤ 64 := by have := wf.few; unfold TS.pub; rw [List.length_map]; exact this
set_option maxHeartbeats 4000000 in
theorem treeRenames_ok (a : Option Addr) (n c : Nat) (L : List CallE) (p q : Nm) : Tri Tryz.prog 4 #[.slice a n c, sE p, sE q] (Ls kCall a n L) (fun v => HP.pure (v = .bool true)) := by
  refine Tri.fact (φ := L.length = n ∧ (n ≠ 0 → a.isSome = true) ∧ dataAt L) (fun R h H => ⟨H.1, fun hn => Ls.some H hn, dataAt_of H⟩) fun ⟨hl, ha, hL⟩ => ?_
  refine tri_of_tree (ρ := [.a a, .n n, .n c, .p (Ls kCall a n L), .s p, .s q]) mixed Tryz.func4 tree_treeRenames ?_
  unfold t_treeRenames
  simp (maxSteps := 3000000) only [T.den, E.prop, E.den, RX.look, F1.app, F2.app, Uni.int_i, Uni.nat_n, Uni.bool_c, Uni.str_s, Uni.adr_a, Uni.val_v, Uni.hp_p, hden, cden, V.den, W.den, A.den, BR.den, SA.den, FV.den, capV, exs, exP, allP, Cur.app, List.map_cons, List.map_nil, List.cons_append, List.nil_append, List.drop_succ_cons, List.drop_zero, List.length_cons, List.length_nil, Nat.zero_add, Nat.reduceAdd, Int.neg_neg, Bool.not_not, List.append_nil, Nat.add_zero, List.getElem?_cons_zero, List.getElem?_cons_succ, Decidable.not_not, semW_eq, semW_load, semW_store, semW_storeC, semW_append, semW_lookup, semW_lookupC, semW_update, semW_updateC, semW_updateK, semW_delete, semW_range, semW_next, semW_entry, semW_nil, ne_eq, Nat.reduceEqDiff, not_false_eq_true]
  refine speaks04_ok.weak (fun _ _ _ => trivial) ?_
  rintro v R h rfl
  refine ⟨true, rfl, ⟨fun h => by simp at h, fun _ => ?_⟩, trivial⟩
  refine (great04_ok a n c L).weak (fun _ _ h => h) ?_
  rintro v R h ⟨rfl, H⟩
  refine ⟨greatB L, rfl, ⟨fun _ => .of fun R h H => trivial, fun hg => ?_⟩, H⟩
  clear H
  have hL120 := great_len hg
  refine ⟨fun _ => .of fun R h H => trivial, fun _ => ⟨fun _ => .of fun R h H => trivial, fun _ => ?_⟩⟩
  refine tNew_ok.weak (fun _ _ h => h) ?_
  rintro v R h ⟨b, t0, ⟨rfl, h0⟩, H⟩
  refine ⟨b, TRep b t0, rfl, ?_, H⟩
  clear H
  refine ⟨fun i P => ∃ k : Nat, i = k ∧ k ≤ n ∧ ∃ t : TS, TWf (k + 1) t.pub ∧ P = TRep b t, fun i _ => n - i.toNat, ⟨0, rfl, Nat.zero_le _, t0, by rw [h0]; exact newT_wf, rfl⟩, ?_⟩
  rintro _ _ ⟨k, rfl, hk, t, wf, rfl⟩
  refine ⟨fun hlt => ⟨by omega, fun _ => ⟨ha (by omega), fun _ => ?_⟩⟩, fun hge => ?_⟩
  · obtain ⟨x, hx⟩ : ∃ x, L[k]? = some x := ⟨_, List.getElem?_eq_getElem (by omega)⟩
    have hxm := List.mem_of_getElem? hx
    refine ⟨x.kind, x.path, x.other, x.off, x.n, x.da, x.data.length, x.dc, loadCall hx, fun q => ?_⟩
    refine doL (by omega) wf x.m (Ls kCall a n L) x.data (callD_of hL hxm) fun t1 da dc na nc h1 => ?_
    have wf1 : TWf (k + 2) t1.pub := by rw [h1]; exact wf.do (by omega) _ _ _ _ _ _
    exact ⟨inI64' _ (by omega) (by omega), fun _ => ⟨⟨k + 1, by omega, by omega, t1, wf1, rfl⟩, by dsimp only; omega⟩⟩
  · obtain rfl : k = n := by omega
    have h64 := pub_few wf
    have hk5 : k + 1 ≤ 100000 := by omega
    refine (tNodes_ok hk5 wf).weak (fun _ _ h => h) ?_
    rintro v R h ⟨na, nc, rfl, g1, g2, gd, gl1, gl2, ⟨es, hes, H1⟩, H2⟩
    refine ⟨na, t.pub.length, nc, Ls kNode na t.pub.length es, rfl, ?_, ⟨g1, g2, gd, gl1, gl2, H1, H2⟩⟩
    clear H1 H2
    have fin : ∀ (t4 : TS) {B : Nat}, B ≤ 100000 → TWf B t4.pub → t4.pub = t.pub → Tri Tryz.prog 19 #[.pointer (some ⟨b, 0, none⟩)] (TRep b t4) (fun v => HP.ex fun a4 : Option Addr => HP.ex fun n4 : Nat => HP.ex fun c4 : Nat => HP.ex fun P4 : HP => HP.and (v = .slice a4 n4 c4) (HP.and (Tri Tryz.prog 20 #[.slice a4 n4 c4, .slice na t.pub.length nc] (HP.sep P4 (Ls kNode na t.pub.length es)) (fun v => HP.ex fun x : Bool => HP.and (v = .bool x) (HP.and (HP.ent (Ls kCall a k L) (HP.pure (Value.bool x = .bool true))) (HP.sep P4 (Ls kNode na t.pub.length es))))) (HP.sep P4 (TRep b t4)))) := fun t4 B hB wf4 e4 => by
      refine (tNodes_ok hB wf4).weak (fun _ _ h => h) ?_
      rintro v R h ⟨na2, nc2, rfl, g1, g2, gd, gl1, gl2, ⟨fs, hfs, H1⟩, H2⟩
      refine ⟨na2, t4.pub.length, nc2, Ls kNode na2 t4.pub.length fs, rfl, ?_, ⟨g1, g2, gd, gl1, gl2, H1, H2⟩⟩
      clear H1 H2
      refine (sameNodes_ok na2 t4.pub.length nc2 fs na t.pub.length nc es (esB hB wf4 hfs) (by rw [e4]; omega)).weak (fun _ _ h => h) ?_
      rintro v R h ⟨rfl, H⟩
      refine ⟨_, rfl, .of fun R h H => ?_, H⟩
      show Value.bool _ = _
      rw [hfs, hes, e4]
      simp
    refine statL wf hk5 rfl p fun t1 da dc na1 nc1 h1 => ?_
    intro x1
    refine renameL wf hk5 h1 p q fun t2 da2 dc2 na2 nc2 h2 => ?_
    have wf2 : TWf (k + 2) t2.pub := by rw [h2]; exact wf.rename p q
    refine ⟨fun e2 => ?_, fun e2 => ⟨fun e3 => ?_, fun e3 => ?_⟩⟩
    · exact fin t2 (by omega) wf2 (by rw [h2]; exact rename_err (.inl e2))
    · exact fin t2 (by omega) wf2 (by rw [h2]; exact rename_err (.inr e3.symm))
    · have mv := renamed wf (Ne.symm e3) (by simpa using e2)
      rw [← h2] at mv
      refine statL wf2 (by omega) rfl q fun t3 da3 dc3 na3 nc3 h3 => ?_
      intro x3
      refine statL wf2 (by omega) h3 p fun t5 da5 dc5 na5 nc5 h5 => ?_
      intro x5
      rw [mv.stat]
      have bl := statS_len (T := t.pub) (p := p)
      refine (sameAnswer_ok (statS t.pub p) (statS t.pub p) da dc na1 nc1 da3 dc3 na3 nc3 _ _ _ _ (RdL.ow _ _ _ _ _ _) (RdL.ow _ _ _ _ _ _) (RdL.ow _ _ _ _ _ _) (RdL.ow _ _ _ _ _ _) (by rw [bl.1]; simp) (by rw [bl.2]; simp)).weak (fun _ _ h => h) ?_
      rintro v R h ⟨rfl, H⟩
      refine ⟨_, rfl, ?_, H⟩
      clear H
      refine ⟨fun h => by simp at h, fun _ => ⟨fun h => absurd h (stat_gone mv.gone), fun _ => ?_⟩⟩
      have wf5 : TWf (k + 2) t5.pub := by rw [h5]; exact wf2
      refine (tNodes_ok (by omega) wf5).weak (fun _ _ h => h) ?_
      rintro v R h ⟨na6, nc6, rfl, g1, g2, gd, gl1, gl2, ⟨fs, hfs, H1⟩, H2⟩
      refine ⟨na6, t5.pub.length, nc6, Ls kNode na6 t5.pub.length fs, rfl, ?_, ⟨g1, g2, gd, gl1, gl2, H1, H2⟩⟩
      clear H1 H2
      have hlen : t5.pub.length = t.pub.length := by rw [h5]; exact mv.len
      refine ⟨fun h => absurd (by rw [hlen]) h, fun _ => ?_⟩
      refine renameL wf2 (by omega) h5 q p fun t6 da6 dc6 na6 nc6 h6 => ?_
      rw [mv.back] at h6 ⊢
      refine ⟨fun _ => ?_, fun h => absurd rfl h⟩
      exact fin t6 hk5 (by rw [h6]; exact wf) h6
end Go.Proofs.YtdieogcemmnaaaaGreatDoor

/- Law 4: all nodes of a tree are reached from its root. Plain. No condition. -/
namespace Go.Proofs.YtdieogcemmnaaaaGreatDoor
open Go.Proofs.YtdieogcemmnaaaaGreatDoor RX
set_option maxRecDepth 100000

def Reach (T : List Nd) : Prop := ∀ n ∈ T, Rch T n.num
/-- .. by a path of so many names. -/
def Dn (T : List Nd) (r j : Nat) : Prop := ∃ l : List Nm, l.length ≤ r ∧ walkS T 0 l = (j, 0)
theorem Dn.le {T : List Nd} {r s j : Nat} (h : Dn T r j) (hr : r ≤ s) : Dn T s j := let ⟨l, h1, h2⟩ := h; ⟨l, by omega, h2⟩
theorem Dn.zero (T : List Nd) (r : Nat) : Dn T r 0 := ⟨[], Nat.zero_le _, rfl⟩
theorem Dn.step {T : List Nd} {r j : Nat} (h : Dn T (r + 1) j) : Dn T r j ∨ ∃ n, n ∈ T ∧ Dn T r n.num ∧ ∃ e ∈ n.ents, e.2 = j := by
  obtain ⟨l, h1, h2⟩ := h
  rcases List.eq_nil_or_concat l with rfl | ⟨l', a, rfl⟩
  · cases h2; exact .inl (Dn.zero T r)
  · rw [List.concat_eq_append] at h1 h2
    obtain ⟨d, h3, n, h4, _, h6⟩ := walk_snoc.1 h2
    obtain ⟨hm, hn⟩ := nodeAt_mem h4
    exact .inr ⟨n, hm, ⟨l', by simp at h1; omega, by rw [hn]; exact h3⟩, _, lk_mem h6, rfl⟩
theorem nodup_sub {α : Type} [DecidableEq α] : ∀ {l m : List α}, l.Nodup → (∀ x ∈ l, x ∈ m) → l.length ≤ m.length
  | [], _, _, _ => Nat.zero_le _
  | x :: l, m, h, hs => by
    rw [List.nodup_cons] at h
    have hx := hs x (by simp)
    have ih := nodup_sub (m := m.erase x) h.2 fun y hy => by
      have : y ≠ x := fun e => h.1 (by rw [← e]; exact hy)
      exact (List.mem_erase_of_ne this).2 (hs y (by simp [hy]))
    rw [List.length_erase_of_mem hx] at ih
    have := List.length_pos_of_mem hx
    rw [List.length_cons]; omega
/-- A walk's stations. -/
def stat' (T : List Nd) (l : List Nm) (i : Nat) : Nat := (walkS T 0 (l.take i)).1
theorem stations {B : Nat} {T : List Nd} (wf : TWf B T) {l : List Nm} {k : Nat} (h : walkS T 0 l = (k, 0)) (hk : (nodeAt T k).isSome = true) : l.length + 1 ≤ T.length := by
  have pre : ∀ i, i ≤ l.length → walkS T 0 (l.take i) = (stat' T l i, 0) ∧ (i < l.length → ∃ x, nodeAt T (stat' T l i) = some x ∧ x.kind = 1) := fun i hi => by
    have e := h
    rw [← List.take_append_drop i l] at e
    obtain ⟨d, h1, h2⟩ := walk_pre e
    have hd : stat' T l i = d := by unfold stat'; rw [h1]
    rw [hd]
    refine ⟨h1, fun hlt => ?_⟩
    have hdr : l.drop i = l[i] :: l.drop (i + 1) := List.drop_eq_getElem_cons hlt
    rw [hdr] at h2
    obtain ⟨d2, h3, _⟩ := walk_pre (l := [l[i]]) (m := l.drop (i + 1)) h2
    obtain ⟨n, h4, h5, _⟩ := walk_one h3
    exact ⟨n, h4, h5⟩
  have inj : ∀ i j, i < j → j ≤ l.length → stat' T l i ≠ stat' T l j := fun i j hij hj e => by
    obtain ⟨h1, h2⟩ := pre i (by omega)
    obtain ⟨x, h3, h4⟩ := h2 (by omega)
    have h5 := (pre j hj).1
    rw [← e] at h5
    have := path_one' wf h3 h4 h1 h5
    have := congrArg List.length this
    rw [List.length_take, List.length_take] at this
    omega
  have nd : ((List.range (l.length + 1)).map (stat' T l)).Nodup := by
    rw [List.nodup_iff_pairwise_ne, List.pairwise_map]
    refine List.Pairwise.imp_of_mem (R := (· < ·)) (fun {a b} ha hb hab => inj a b hab (by have := List.mem_range.1 hb; omega)) (List.pairwise_lt_range)
  have sub : ∀ x ∈ (List.range (l.length + 1)).map (stat' T l), x ∈ T.map (·.num) := fun x hx => by
    obtain ⟨i, hi, rfl⟩ := List.mem_map.1 hx
    have hi := List.mem_range.1 hi
    have : (nodeAt T (stat' T l i)).isSome = true := by
      by_cases e : i < l.length
      · obtain ⟨x, h3, _⟩ := (pre i (by omega)).2 e
        rw [h3]; rfl
      · have : stat' T l i = k := by unfold stat'; rw [List.take_of_length_le (by omega), h]
        rw [this]; exact hk
    obtain ⟨n, hn⟩ := Option.isSome_iff_exists.1 this
    obtain ⟨h1, h2⟩ := nodeAt_mem hn
    exact List.mem_map.2 ⟨n, h1, h2⟩
  have := nodup_sub nd sub
  simpa using this
theorem Reach.dn {B : Nat} {T : List Nd} (wf : TWf B T) (h : Reach T) : ∀ n ∈ T, Dn T T.length n.num := fun n hn => by
  obtain ⟨l, hl⟩ := (h n hn).walk
  have := stations wf hl (by rw [mem_nodeAt wf.nd hn]; rfl)
  exact ⟨l, by omega, hl⟩
theorem step_same {T : List Nd} {a : Nat} {f : Nd → Nd} (hf : ∀ n, (f n).num = n.num ∧ (f n).kind = n.kind ∧ (f n).ents = n.ents) {d : Nat} {w : Nm} {k : Nat} : Step (setP T a f) d w k ↔ Step T d w k := by
  unfold Step
  rw [nodeAt_set fun n => (hf n).1]
  by_cases e : d = a
  · subst e
    rw [if_pos rfl]
    constructor
    · rintro ⟨n, h1, h2, h3⟩
      obtain ⟨m, h4, rfl⟩ := Option.map_eq_some_iff.1 h1
      exact ⟨m, h4, by rw [← (hf m).2.1]; exact h2, by rw [← (hf m).2.2]; exact h3⟩
    · rintro ⟨n, h1, h2, h3⟩
      exact ⟨f n, by rw [h1]; rfl, by rw [(hf n).2.1]; exact h2, by rw [(hf n).2.2]; exact h3⟩
  · rw [if_neg e]
theorem Rch.mono {T T' : List Nd} (h : ∀ d w k, Step T d w k → Step T' d w k) {j : Nat} (hj : Rch T j) : Rch T' j := by
  induction hj with
  | root => exact .root
  | step _ hs ih => exact .step ih (h _ _ _ hs)
theorem Reach.of {T T' : List Nd} (h : Reach T) (hr : ∀ j, Rch T j → Rch T' j) (hn : T'.map (·.num) = T.map (·.num)) : Reach T' := fun n hm => by
  have : n.num ∈ T.map (·.num) := by rw [← hn]; exact List.mem_map.2 ⟨n, hm, rfl⟩
  obtain ⟨m, h1, h2⟩ := List.mem_map.1 this
  rw [← h2]
  exact hr _ (h m h1)
theorem step_del {T : List Nd} {a d : Nat} {w : Nm} {k : Nat} : Step (delP T a) d w k ↔ Step T d w k ∧ d ≠ a := by
  unfold Step
  rw [nodeAt_del]
  by_cases e : d = a
  · subst e; simp
  · rw [if_neg e]
    exact ⟨fun h => ⟨h, e⟩, fun h => h.1⟩
/-- Behind one entry dropped, whose node leads nowhere, all but that node is reached. -/
theorem Rch.drop {T : List Nd} {u a : Nat} {nm : Nm} (hua : Step T u nm a) (hx : ∃ x, nodeAt T a = some x ∧ x.ents = []) {j : Nat} (hj : Rch T j) (hja : j ≠ a) : Rch (setP T u (fE (dropE nm))) j := by
  induction hj with
  | root => exact .root
  | @step d k w hd hs ih =>
    have hda : d ≠ a := by
      rintro rfl
      obtain ⟨x, h1, h2⟩ := hx
      obtain ⟨n, h3, _, h5⟩ := hs
      rw [h1] at h3; cases h3
      rw [h2] at h5; cases h5
    refine .step (ih hda) (w := w) (lk_setE.2 ?_)
    obtain ⟨n, h3, h4, h5⟩ := hs
    refine ⟨n, h3, h4, ?_⟩
    by_cases e : d = u
    · subst e
      rw [if_pos rfl, lk_drop]
      by_cases ew : w = nm
      · subst ew
        exact absurd ((show Step T d w k from ⟨n, h3, h4, h5⟩).det hua) hja
      · rw [if_neg ew]; exact h5
    · rw [if_neg e]; exact h5
theorem Rch.del {T : List Nd} {a j : Nat} (hx : ∃ x, nodeAt T a = some x ∧ x.ents = []) (hj : Rch T j) (hja : j ≠ a) : Rch (delP T a) j := by
  induction hj with
  | root => exact .root
  | @step d k w hd hs ih =>
    have hda : d ≠ a := by
      rintro rfl
      obtain ⟨x, h1, h2⟩ := hx
      obtain ⟨n, h3, _, h5⟩ := hs
      rw [h1] at h3; cases h3
      rw [h2] at h5; cases h5
    exact .step (ih hda) (step_del.2 ⟨hs, hda⟩)
theorem delP_mem {T : List Nd} {a : Nat} {n : Nd} (h : n ∈ delP T a) : n ∈ T ∧ n.num ≠ a := by
  unfold delP at h
  rw [List.mem_filter] at h
  exact ⟨h.1, by simpa using h.2⟩
theorem setP_ents {T : List Nd} {u a : Nat} {g : List (Nm × Nat) → List (Nm × Nat)} (hg : g [] = []) (hx : ∃ x, nodeAt T a = some x ∧ x.ents = []) : ∃ x, nodeAt (setP T u (fE g)) a = some x ∧ x.ents = [] := by
  obtain ⟨x, h1, h2⟩ := hx
  rw [nodeAt_set (fE_num _)]
  by_cases e : a = u
  · subst e
    rw [if_pos rfl, h1]
    exact ⟨_, rfl, by show g x.ents = []; rw [h2]; exact hg⟩
  · rw [if_neg e]; exact ⟨x, h1, h2⟩
theorem Reach.gone {T : List Nd} (h : Reach T) {u a : Nat} {nm : Nm} (hua : Step T u nm a) (hx : ∃ x, nodeAt T a = some x ∧ x.ents = []) : Reach (delP (setP T u (fE (dropE nm))) a) := fun n hn => by
  obtain ⟨h1, h2⟩ := delP_mem hn
  have : n.num ∈ T.map (·.num) := by rw [← setP_nums (fE_num (dropE nm)) (T := T) (k := u)]; exact List.mem_map.2 ⟨n, h1, rfl⟩
  obtain ⟨m, h3, h4⟩ := List.mem_map.1 this
  have := h m h3
  rw [h4] at this
  exact Rch.del (setP_ents rfl hx) (Rch.drop hua hx this h2) h2
theorem Reach.make {B : Nat} {T : List Nd} (h : Reach T) (wf : TWf B T) (kind : Int) (path : Nm) : Reach (makeS T kind path).1 := by
  unfold makeS
  split
  · exact h
  split
  · exact h
  · rename_i h1 h2
    have hp : (placeS T path).2.2 = 0 := by simpa using h1
    obtain ⟨x, h3, h4, h5, _⟩ := place_at hp
    obtain ⟨f1, _, _⟩ := free_spec wf.sorted (by omega)
    have hpu : Rch T (placeS T path).1 := by
      have := h x (nodeAt_mem h3).1
      rw [(nodeAt_mem h3).2] at this
      exact this
    generalize (placeS T path).1 = u at *
    generalize (placeS T path).2.1 = nm at *
    generalize freeS T = a at *
    have hau : u ≠ a := fun e => by rw [e, f1] at h3; cases h3
    have mono : ∀ d w k, Step T d w k → Step (setP (insP (newNd a kind) T) u (fE (putE nm a))) d w k := fun d w k ⟨n, g1, g2, g3⟩ => by
      refine lk_setE.2 ⟨n, ?_, g2, ?_⟩
      · rw [nodeAt_ins, if_neg]
        · exact g1
        · intro e
          rw [show (newNd a kind).num = a from rfl] at e
          rw [e, f1] at g1; cases g1
      · by_cases e : d = u
        · subst e
          rw [h3] at g1; cases g1
          rw [if_pos rfl, lk_put, if_neg]
          · exact g3
          · intro e
            subst e
            rw [h5] at g3; cases g3
        · rw [if_neg e]; exact g3
    intro n hn
    have : n.num ∈ (insP (newNd a kind) T).map (·.num) := by rw [← setP_nums (fE_num (putE nm a)) (T := insP (newNd a kind) T) (k := u)]; exact List.mem_map.2 ⟨n, hn, rfl⟩
    obtain ⟨m, g1, g2⟩ := List.mem_map.1 this
    rw [← g2]
    rcases insP_mem.1 g1 with rfl | g1
    · refine .step (Rch.mono mono hpu) (w := nm) (lk_setE.2 ⟨x, ?_, h4, ?_⟩)
      · rw [nodeAt_ins, if_neg (show ¬ u = (newNd a kind).num from hau)]; exact h3
      · rw [if_pos rfl, lk_put, if_pos rfl]; rfl
    · exact Rch.mono mono (h m g1)
theorem Reach.rmdir {T : List Nd} (h : Reach T) (path : Nm) : Reach (rmdirS T path).1 := by
  unfold rmdirS
  split
  · exact h
  · rename_i h1
    obtain ⟨x, x1, x2, x3, _⟩ := entry_ok' (show (entryS T path).2.2.2 = 0 by simpa using h1)
    split
    · exact h
    · rename_i n hn
      split
      · exact h
      split
      · exact h
      · rename_i h3
        exact Reach.gone h ⟨x, x1, x2, x3⟩ ⟨n, hn, by simpa using h3⟩
theorem Reach.unlink {B : Nat} {T : List Nd} (h : Reach T) (wf : TWf B T) (path : Nm) : Reach (unlinkS T path).1 := by
  unfold unlinkS
  split
  · exact h
  · rename_i h1
    obtain ⟨x, x1, x2, x3, _⟩ := entry_ok' (show (entryS T path).2.2.2 = 0 by simpa using h1)
    split
    · exact h
    · rename_i n hn
      split
      · exact h
      rename_i hk
      have hnk : n.ents = [] := by
        rcases (wf.at' hn).1.kind with ⟨h1, _⟩ | ⟨_, h1⟩
        · exact absurd h1 hk
        · exact h1
      generalize (entryS T path).1 = u at *
      generalize (entryS T path).2.1 = nm at *
      generalize (entryS T path).2.2.1 = a at *
      have same : ∀ {T : List Nd} {d : Nat} {w : Nm} {k : Nat}, Step (setP T a (fL (-1))) d w k ↔ Step T d w k := step_same (f := fL (-1)) fun n => ⟨rfl, rfl, rfl⟩
      split
      · rw [delP_set _ _ (fL_num _)]
        exact Reach.gone h ⟨x, x1, x2, x3⟩ ⟨n, hn, hnk⟩
      · rename_i hl
        refine Reach.of (T := T) h (fun j hj => ?_) (by rw [setP_nums (fL_num _), setP_nums (fE_num _)])
        have ne : ∀ j, Rch T j → j ≠ a → Rch (setP (setP T u (fE (dropE nm))) a (fL (-1))) j := fun j hj hja => Rch.mono (fun d w k hs => same.2 hs) (Rch.drop ⟨x, x1, x2, x3⟩ ⟨n, hn, hnk⟩ hj hja)
        by_cases e : j = a
        · subst e
          have h0 : j ≠ 0 := ((wf.at' x1).1.name _ (lk_mem x3)).2
          have hr := refs_set (f := fE (dropE nm)) j wf.nd x1
          have hd := cntE_drop (nm := nm) (j := j) j (nodupE (wf.at' x1).1.sort) x3
          rw [if_pos rfl] at hd
          have hc := wf.cnt' hn h0
          have hlp := (wf.at' hn).1.lpos
          have : 0 < refs (setP T u (fE (dropE nm))) j := by
            have e1 : cntE (fE (dropE nm) x).ents j = cntE (dropE nm x.ents) j := rfl
            rw [e1] at hr
            omega
          have : ∃ m ∈ setP T u (fE (dropE nm)), ∃ e ∈ m.ents, e.2 = j := Classical.byContradiction fun hno => by
            have := refs_zero (T := setP T u (fE (dropE nm))) (k := j) fun m hm e he hej => hno ⟨m, hm, e, he, hej⟩
            omega
          obtain ⟨m, hm, e, he, hej⟩ := this
          have ndT : ((setP T u (fE (dropE nm))).map (·.num)).Nodup := by rw [setP_nums (fE_num _)]; exact wf.nd
          have hma := mem_nodeAt ndT hm
          -- the node m is a directory that is reached
          have hmm : ∃ m0, nodeAt T m.num = some m0 ∧ m0.kind = m.kind ∧ (m.ents ≠ [] → m0.ents ≠ []) ∧ (m.ents.map (·.1)).Nodup := by
            rw [nodeAt_set (fE_num _)] at hma
            by_cases eu : m.num = u
            · rw [if_pos eu, ← eu] at hma
              rw [eu, x1] at hma
              cases hma
              refine ⟨x, by rw [eu]; exact x1, rfl, fun hne hx => hne ?_, ?_⟩
              · show dropE nm x.ents = []
                rw [hx]; rfl
              · exact (nodupE (wf.at' x1).1.sort).sublist (List.filter_sublist.map _)
            · rw [if_neg eu] at hma
              exact ⟨m, hma, rfl, fun h => h, nodupE (wf.at' hma).1.sort⟩
          obtain ⟨m0, g1, g2, g3, g4⟩ := hmm
          have hne : m.ents ≠ [] := fun h => by rw [h] at he; cases he
          have hk1 : m0.kind = 1 := by
            rcases (wf.at' g1).1.kind with ⟨h, _⟩ | ⟨_, h⟩
            · exact h
            · exact absurd h (g3 hne)
          have hmj : m.num ≠ j := fun e => by
            rw [e, hn] at g1
            cases g1
            exact hk hk1
          have rm : Rch T m.num := by
            have := h m0 (nodeAt_mem g1).1
            rw [(nodeAt_mem g1).2] at this
            exact this
          refine .step (ne _ rm hmj) (w := e.1) (same.2 ⟨m, hma, by rw [← g2]; exact hk1, ?_⟩)
          rw [lk_of_mem g4 he, hej]
        · exact ne j hj e
theorem Reach.link {B : Nat} {T : List Nd} (h : Reach T) (_ : TWf B T) (path other : Nm) : Reach (linkS T path other).1 := by
  unfold linkS
  split
  · exact h
  split
  · exact h
  · rename_i h1 h2
    obtain ⟨x, h3, h4, h5, _⟩ := place_at (show (placeS T other).2.2 = 0 by simpa using h2)
    refine Reach.of (T := T) h (fun j hj => Rch.mono (fun d w k hs => ?_) hj) (by rw [setP_nums (fL_num _), setP_nums (fE_num _)])
    refine (step_same (f := fL 1) fun n => ⟨rfl, rfl, rfl⟩).2 (lk_setE.2 ?_)
    obtain ⟨n, g1, g2, g3⟩ := hs
    refine ⟨n, g1, g2, ?_⟩
    by_cases e : d = (placeS T other).1
    · rw [if_pos e, lk_put, if_neg]
      · exact g3
      · intro e2
        rw [e, h3] at g1; cases g1
        rw [e2, h5] at g3; cases g3
    · rw [if_neg e]; exact g3
theorem Reach.rename {B : Nat} {T : List Nd} (h : Reach T) (wf : TWf B T) (p q : Nm) : Reach (renameS T p q).1 := by
  by_cases e : (renameS T p q).2 ≠ 0 ∨ q = p
  · rw [rename_err e]; exact h
  · have e1 : (renameS T p q).2 = 0 := Classical.byContradiction fun h => e (.inl h)
    have e2 : q ≠ p := fun h => e (.inr h)
    have mv := renamed wf e2 e1
    exact Reach.of h mv.rch mv.nums
theorem Reach.bytes {T : List Nd} (h : Reach T) (a : Nat) (g : List UInt8 → List UInt8) : Reach (setP T a (fD g)) :=
  Reach.of (T := T) h (fun _ hj => Rch.mono (fun _ _ _ hs => (step_same (f := fD g) fun _ => ⟨rfl, rfl, rfl⟩).2 hs) hj) (setP_nums (fD_num g))
theorem Reach.do {B : Nat} {T : List Nd} (h : Reach T) (wf : TWf B T) (kind : Int) (path other : Nm) (off n : Int) (d : List UInt8) : Reach (doS T kind path other off n d).1 := by
  unfold doS
  split
  · exact h.make wf kind path
  split
  · exact h.rmdir path
  split
  · exact h.unlink wf path
  split
  · exact h.link wf path other
  split
  · exact h.rename wf path other
  split
  · show Reach (writeS T path off d).1
    unfold writeS
    split
    · exact h
    split
    · exact h
    split
    · exact h
    split
    · exact h
    · exact h.bytes _ _
  split
  · exact h
  split
  · show Reach (cutS T path n).1
    unfold cutS
    split
    · exact h
    split
    · exact h
    split
    · exact h
    · exact h.bytes _ _
  split
  · exact h
  split
  · exact h
  split
  · exact h
  · exact h
theorem newT_reach : Reach newT := fun n hn => by
  obtain rfl : n = newNd 0 1 := by simpa [newT] using hn
  exact .root
end Go.Proofs.YtdieogcemmnaaaaGreatDoor

/- Arrays in blocks of their own; a byte of a text; texts compared. No condition. -/
namespace Go.Proofs.YtdieogcemmnaaaaGreatDoor
open Go.Proofs.YtdieogcemmnaaaaGreatDoor RX
set_option maxRecDepth 100000

def idxS (t : TypeId) (u v : Value) : Sem Next := do pure (.value (← Instr.indexAt t u v))
theorem semW_ix {t ty : TypeId} {i j : Nat} {u v : Value} (h : i ≠ j) : semW (.indexAddr t (.tmp i) (.tmp j)) ty [(i, u), (j, v)] = idxS t u v := by
  have h' : (i == j) = false := by simpa using h
  simp [semW, execOp, arW, h', idxS]
theorem arIx {t el : TypeId} {n : Nat} (ht : Tryz.prog.underlying t = some (.array n el)) (hi : (Tryz.prog.info? el).isSome = true) (hz : szT Tryz.prog el = 1) {b k : Nat} {x : Int} (hx : x = k) (hk : k < n) {A : HP} :
    ORead Tryz.prog (idxS t (.pointer (some ⟨b, 0, none⟩)) (.int .i64 x)) A (.pointer (some ⟨b, k, none⟩)) := fun w R h F s _ => by
  obtain ⟨i, hi⟩ := Option.isSome_iff_exists.1 hi
  subst hx
  unfold idxS
  rw [Sem.run_bind, RX.run_indexAt_array ht hi (by omega) (by omega), hz]
  simp [addr_add]
/-- A block that holds an array. -/
def Ar (e : TypeId) (b : Nat) (vs : List Value) : HP := HP.one b (.cells vs.toArray e (0, 0))
theorem Ar.rd {e : TypeId} {b : Nat} {vs : List Value} : Rd (Ar e b vs) (some ⟨b, 0, none⟩) vs := fun w R h F s H j u hj => by
  refine ⟨b, 0, rfl, ?_⟩
  have := s.oh b _ H
  rw [cell_at this]
  simpa using hj
theorem arLd {t e : TypeId} {d : TypeDesc} (hd : Tryz.prog.underlying t = some d) (ha : aggT Tryz.prog t = false) (hz : szT Tryz.prog t = 1) {b k : Nat} {vs : List Value} {v : Value} (hk : vs[k]? = some v) :
    ORead Tryz.prog (loadS t (.pointer (some ⟨b, k, none⟩))) (Ar e b vs) v := by
  have := load1_ok hd ha hz (Ar.rd (e := e) (b := b) (vs := vs)) (k := k) (off := 0) (by simpa using hk)
  simpa [addr_add] using this
theorem arSt {t e : TypeId} {i : TypeInfo} (hi : Tryz.prog.info? t = some i) (hz : i.size = 1) {b k : Nat} {vs : List Value} {x : Value} (hx : x.cells = #[x]) (h1 : x.oneCell' = true) (hk : k < vs.length) :
    OTri Tryz.prog (storeS t (.pointer (some ⟨b, k, none⟩)) x) (Ar e b vs) (fun v => HP.and (v = .tuple #[]) (Ar e b (vs.set k x))) := by
  have := storeOne_ok hi e b vs.toArray k x [x] (by rw [hx]) (by simp [hz]) (by simp) (by simpa using h1) (by simp; omega) (by unfold maxLen; omega)
  refine this.weak (fun _ _ h => h) ?_
  rintro v R h ⟨rfl, H⟩
  refine ⟨rfl, ?_⟩
  unfold Ar
  rw [List.set_eq_take_append_cons_drop, if_pos hk]
  simpa using H
/-- An array as a function of its places. -/
def arF (m : Nat) (f : Nat → Value) : List Value := (List.range m).map f
theorem arF_get {m : Nat} {f : Nat → Value} {k : Nat} (h : k < m) : (arF m f)[k]? = some (f k) := by
  unfold arF
  rw [List.getElem?_map, List.getElem?_range h]; rfl
theorem arF_len (m : Nat) (f : Nat → Value) : (arF m f).length = m := by simp [arF]
theorem arF_set {m : Nat} {f : Nat → Value} {k : Nat} {v : Value} (h : k < m) : (arF m f).set k v = arF m fun j => if j = k then v else f j := by
  refine List.ext_getElem? fun j => ?_
  rw [List.getElem?_set, arF_len]
  by_cases hj : j < m
  · rw [arF_get hj, arF_get hj]
    by_cases e : k = j
    · subst e; rw [if_pos rfl, if_pos h, if_pos rfl]
    · rw [if_neg e, if_neg (Ne.symm e)]
  · rw [List.getElem?_eq_none (by rw [arF_len]; omega)]
    by_cases e : k = j
    · omega
    · rw [if_neg e, List.getElem?_eq_none (by rw [arF_len]; omega)]
theorem arF_congr {m : Nat} {f g : Nat → Value} (h : ∀ j < m, f j = g j) : arF m f = arF m g := List.map_congr_left fun j hj => h j (List.mem_range.1 hj)
/-! texts -/
theorem strIx {t ty : TypeId} {i j : Nat} (h : i ≠ j) (ht : Tryz.prog.underlying t = some .string) {s : List UInt8} {k : Nat} {x : Int} {c : UInt8} (hx : x = k) (hk : s[k]? = some c) {A : HP} :
    ORead Tryz.prog (semW (.index t (.tmp i) (.tmp j)) ty [(i, .string ⟨s.toArray⟩), (j, .int .i64 x)]) A (.int .u8 c.toNat) := fun w R hh F st _ => by
  have h' : (i == j) = false := by simpa using h
  subst hx
  have hkl : k < s.length := (List.getElem?_eq_some_iff.1 hk).1
  have e : (Instr.index t (.string ⟨s.toArray⟩) (.int .i64 k)).run Tryz.prog w = .ok (.int .u8 c.toNat) w := by
    have hb : (⟨s.toArray⟩ : ByteArray)[k]? = some c := by
      have hz : k < (⟨s.toArray⟩ : ByteArray).size := by simp [ByteArray.size]; exact hkl
      rw [getElem?_pos (⟨s.toArray⟩ : ByteArray) k hz]
      rw [List.getElem?_eq_getElem hkl] at hk
      exact hk
    unfold Instr.index
    simp [asIntOf, Sem.run_bind, RX.run_underlying ht, hb]
  simp only [semW, execOp, arW, List.find?_cons, beq_self_eq_true, h']
  rw [Sem.run_bind, e]
  rfl
theorem geqStr {t ty u : TypeId} {i j : Nat} (h : i ≠ j) (hg : Tryz.prog.eqGuardType Tryz.prog.depth t = false) {x y : List UInt8} {A : HP} :
    ORead Tryz.prog (semW (.binOp .geq t (.tmp i) (.tmp j) u) ty [(i, .string ⟨x.toArray⟩), (j, .string ⟨y.toArray⟩)]) A (.bool (!decide (x < y))) := fun w R hh F st _ => by
  have h' : (i == j) = false := by simpa using h
  simp only [semW, execOp, arW, List.find?_cons, beq_self_eq_true, h']
  have : Op.bytesLess x y = decide (x < y) := bytesLess_eq x y
  simp [eqGuard, binOp, Op.stringOp, hg, program, Sem.run_bind, Sem.run, Result.andThen, this]
end Go.Proofs.YtdieogcemmnaaaaGreatDoor

/- Trees of functions, printed by rx.lean. No condition. -/
namespace Go.Proofs.YtdieogcemmnaaaaGreatDoor.RX
set_option maxRecDepth 100000
-- tideline/tidelineref04.Right: ρ := [.a la, .n ll, .n lc, .p lP]
def t_right04 : T :=
(.new
(.new
(.loop [.c, .i, .p, .p] [(.e (.o1 .not (.o1 .not (.c false)))), (.e (.o1 .neg (.o1 .neg (.i 0)))), (.p [((.b (.v 5)), (.cells [(.int .i64 (.i 0)), (.int .i64 (.i 0)), (.int .i64 (.i 0)), (.int .i64 (.i 0)), (.int .i64 (.i 0)), (.int .i64 (.i 0)), (.int .i64 (.i 0)), (.int .i64 (.i 0)), (.int .i64 (.i 0)), (.int .i64 (.i 0)), (.int .i64 (.i 0)), (.int .i64 (.i 0)), (.int .i64 (.i 0)), (.int .i64 (.i 0)), (.int .i64 (.i 0)), (.int .i64 (.i 0)), (.int .i64 (.i 0)), (.int .i64 (.i 0)), (.int .i64 (.i 0)), (.int .i64 (.i 0)), (.int .i64 (.i 0)), (.int .i64 (.i 0)), (.int .i64 (.i 0)), (.int .i64 (.i 0)), (.int .i64 (.i 0)), (.int .i64 (.i 0)), (.int .i64 (.i 0)), (.int .i64 (.i 0)), (.int .i64 (.i 0)), (.int .i64 (.i 0)), (.int .i64 (.i 0)), (.int .i64 (.i 0)), (.int .i64 (.i 0)), (.int .i64 (.i 0)), (.int .i64 (.i 0)), (.int .i64 (.i 0)), (.int .i64 (.i 0)), (.int .i64 (.i 0)), (.int .i64 (.i 0)), (.int .i64 (.i 0)), (.int .i64 (.i 0)), (.int .i64 (.i 0)), (.int .i64 (.i 0)), (.int .i64 (.i 0)), (.int .i64 (.i 0)), (.int .i64 (.i 0)), (.int .i64 (.i 0)), (.int .i64 (.i 0)), (.int .i64 (.i 0)), (.int .i64 (.i 0)), (.int .i64 (.i 0)), (.int .i64 (.i 0)), (.int .i64 (.i 0)), (.int .i64 (.i 0)), (.int .i64 (.i 0)), (.int .i64 (.i 0)), (.int .i64 (.i 0)), (.int .i64 (.i 0)), (.int .i64 (.i 0)), (.int .i64 (.i 0)), (.int .i64 (.i 0)), (.int .i64 (.i 0)), (.int .i64 (.i 0)), (.int .i64 (.i 0))] 147))]), (.p [((.b (.v 4)), (.cells [(.int .i64 (.i 0)), (.int .i64 (.i 0)), (.int .i64 (.i 0)), (.int .i64 (.i 0)), (.int .i64 (.i 0)), (.int .i64 (.i 0)), (.int .i64 (.i 0)), (.int .i64 (.i 0)), (.int .i64 (.i 0)), (.int .i64 (.i 0)), (.int .i64 (.i 0)), (.int .i64 (.i 0)), (.int .i64 (.i 0)), (.int .i64 (.i 0)), (.int .i64 (.i 0)), (.int .i64 (.i 0)), (.int .i64 (.i 0)), (.int .i64 (.i 0)), (.int .i64 (.i 0)), (.int .i64 (.i 0)), (.int .i64 (.i 0)), (.int .i64 (.i 0)), (.int .i64 (.i 0)), (.int .i64 (.i 0)), (.int .i64 (.i 0)), (.int .i64 (.i 0)), (.int .i64 (.i 0)), (.int .i64 (.i 0)), (.int .i64 (.i 0)), (.int .i64 (.i 0)), (.int .i64 (.i 0)), (.int .i64 (.i 0)), (.int .i64 (.i 0)), (.int .i64 (.i 0)), (.int .i64 (.i 0)), (.int .i64 (.i 0)), (.int .i64 (.i 0)), (.int .i64 (.i 0)), (.int .i64 (.i 0)), (.int .i64 (.i 0)), (.int .i64 (.i 0)), (.int .i64 (.i 0)), (.int .i64 (.i 0)), (.int .i64 (.i 0)), (.int .i64 (.i 0)), (.int .i64 (.i 0)), (.int .i64 (.i 0)), (.int .i64 (.i 0)), (.int .i64 (.i 0)), (.int .i64 (.i 0)), (.int .i64 (.i 0)), (.int .i64 (.i 0)), (.int .i64 (.i 0)), (.int .i64 (.i 0)), (.int .i64 (.i 0)), (.int .i64 (.i 0)), (.int .i64 (.i 0)), (.int .i64 (.i 0)), (.int .i64 (.i 0)), (.int .i64 (.i 0)), (.int .i64 (.i 0)), (.int .i64 (.i 0)), (.int .i64 (.i 0)), (.int .i64 (.i 0))] 147))])]
 (.br (.o2 .lt (.v 7) (.o1 .ofNat (.v 1)))
  (.need (.o2 .le (.i 0) (.v 7))
  (.need (.o1 .isSome (.v 0))
  (.read (.load 43 (.tmp 26)) 43 [(26, (.w (.a (.eptr 0 (.v 7) 5 0))))] [((.a 0), (.prop 3))] [.i, .i, .i, .a, .n, .n, .a, .n, .n] (.w (.agg [(.int .i64 (.v 10)), (.int .i64 (.v 11)), (.int .i64 (.v 12)), (.sl (.v 13) (.v 14) (.v 15)), (.sl (.v 16) (.v 17) (.v 18))]))
  (.new
  (.join [.c]
   (.br (.o2 .lt (.v 10) (.i 0))
    (.again 0 [(.e (.o1 .not (.o1 .not (.c true))))])
    (.br (.o2 .lt (.i 63) (.v 10))
     (.again 0 [(.e (.o1 .not (.o1 .not (.c true))))])
     (.br (.o2 .lt (.i 0) (.v 7))
      (.need (.o1 (.inr .i64) (.o2 .sub (.v 7) (.i 1)))
      (.need (.o2 .le (.i 0) (.o2 .sub (.v 7) (.i 1)))
      (.need (.o2 .lt (.o2 .sub (.v 7) (.i 1)) (.o1 .ofNat (.v 1)))
      (.read (.load 3 (.tmp 44)) 3 [(44, (.w (.a (.eptr 0 (.o2 .sub (.v 7) (.i 1)) 5 0))))] [((.a 0), (.prop 3))] [.i] (.w (.a (.int .i64 (.v 20))))
      (.again 0 [(.e (.o1 .not (.o1 .not (.o2 .le (.v 10) (.v 20)))))])))))
      (.again 0 [(.e (.o1 .not (.o1 .not (.c false))))]))))
  (.br (.v 20)
   (.ret (.w (.a (.bool (.c false)))) [((.a 0), (.prop 3))])
   (.br (.o2 .eq (.v 11) (.i 2))
    (.br (.o2 .lt (.i 0) (.o1 .ofNat (.v 17)))
     (.ret (.w (.a (.bool (.c false)))) [((.a 0), (.prop 3))])
     (.br (.o2 .lt (.i 512) (.o1 .ofNat (.v 14)))
      (.ret (.w (.a (.bool (.c false)))) [((.a 0), (.prop 3))])
      (.br (.o2 .lt (.v 12) (.i 1))
       (.ret (.w (.a (.bool (.c false)))) [((.a 0), (.prop 3))])
       (.read (.indexAddr 147 (.tmp 4) (.tmp 84)) 0 [(4, (.w (.a (.ptr (.v 5) 0)))), (84, (.w (.a (.int .i64 (.v 10)))))] [((.b (.v 5)), (.prop 8))] [.v] (.w (.a (.val 21)))
       (.op (.store 3 (.tmp 87) (.tmp 86)) 0 [(87, (.w (.a (.val 21)))), (86, (.w (.a (.int .i64 (.v 11)))))] [((.b (.v 5)), (.prop 8))] [.p] (.tup []) [((.b (.v 5)), (.prop 22))]
       (.loop [.c, .i, .p] [(.e (.o1 .not (.o1 .not (.v 6)))), (.e (.o1 .neg (.o1 .neg (.i 0)))), (.p [((.b (.v 4)), (.prop 9))])]
        (.br (.o2 .lt (.v 24) (.o1 .ofNat (.v 17)))
         (.need (.o2 .le (.i 0) (.v 24))
         (.need (.o1 .isSome (.v 16))
         (.read (.load 140 (.tmp 98)) 140 [(98, (.w (.a (.eptr 16 (.v 24) 2 0))))] [((.a 0), (.prop 3))] [.s, .i] (.w (.agg [(.str (.v 26)), (.int .i64 (.v 27))]))
         (.new
         (.join [.c]
          (.call 78 [(.a (.str (.v 26)))] [] [.c] (.w (.a (.bool (.v 29)))) []
          (.br (.o1 .not (.v 29))
           (.again 0 [(.e (.o1 .not (.o1 .not (.c true))))])
           (.br (.o2 .lt (.i 0) (.v 24))
            (.need (.o1 (.inr .i64) (.o2 .sub (.v 24) (.i 1)))
            (.need (.o2 .le (.i 0) (.o2 .sub (.v 24) (.i 1)))
            (.need (.o2 .lt (.o2 .sub (.v 24) (.i 1)) (.o1 .ofNat (.v 17)))
            (.read (.load 9 (.tmp 113)) 9 [(113, (.w (.a (.eptr 16 (.o2 .sub (.v 24) (.i 1)) 2 0))))] [((.a 0), (.prop 3))] [.s] (.w (.a (.str (.v 30))))
            (.read (.binOp .geq 9 (.tmp 114) (.tmp 116) 9) 4 [(114, (.w (.a (.str (.v 30))))), (116, (.w (.a (.str (.v 26)))))] [] [.c] (.w (.a (.bool (.v 31))))
            (.br (.v 31)
             (.again 0 [(.e (.o1 .not (.o1 .not (.c true))))])
             (.br (.o2 .lt (.v 27) (.i 1))
              (.again 0 [(.e (.o1 .not (.o1 .not (.c true))))])
              (.again 0 [(.e (.o1 .not (.o1 .not (.o2 .lt (.i 63) (.v 27)))))]))))))))
            (.br (.o2 .lt (.v 27) (.i 1))
             (.again 0 [(.e (.o1 .not (.o1 .not (.c true))))])
             (.again 0 [(.e (.o1 .not (.o1 .not (.o2 .lt (.i 63) (.v 27)))))])))))
         (.br (.v 29)
          (.ret (.w (.a (.bool (.c false)))) [((.a 0), (.prop 3))])
          (.read (.indexAddr 147 (.tmp 3) (.tmp 131)) 0 [(3, (.w (.a (.ptr (.v 4) 0)))), (131, (.w (.a (.int .i64 (.v 27)))))] [((.b (.v 4)), (.prop 25))] [.v] (.w (.a (.val 30)))
          (.read (.load 3 (.tmp 132)) 3 [(132, (.w (.a (.val 30))))] [((.b (.v 4)), (.prop 25))] [.i] (.w (.a (.int .i64 (.v 31))))
          (.need (.o1 (.inr .i64) (.o2 .add (.v 31) (.i 1)))
          (.read (.indexAddr 147 (.tmp 3) (.tmp 131)) 0 [(3, (.w (.a (.ptr (.v 4) 0)))), (131, (.w (.a (.int .i64 (.v 27)))))] [((.b (.v 4)), (.prop 25))] [.v] (.w (.a (.val 32)))
          (.op (.store 3 (.tmp 135) (.tmp 134)) 0 [(135, (.w (.a (.val 32)))), (134, (.w (.a (.int .i64 (.o2 .add (.v 31) (.i 1))))))] [((.b (.v 4)), (.prop 25))] [.p] (.tup []) [((.b (.v 4)), (.prop 33))]
          (.need (.o1 (.inr .i64) (.o2 .add (.v 24) (.i 1)))
          (.again 0 [(.e (.o1 .not (.o1 .not (.v 23)))), (.e (.o1 .neg (.o1 .neg (.o2 .add (.v 24) (.i 1))))), (.p [((.b (.v 4)), (.prop 33))])])))))))))))))
         (.need (.o1 (.inr .i64) (.o2 .add (.v 7) (.i 1)))
         (.again 1 [(.e (.o1 .not (.o1 .not (.v 23)))), (.e (.o1 .neg (.o1 .neg (.o2 .add (.v 7) (.i 1))))), (.p [((.b (.v 5)), (.prop 22))]), (.p [((.b (.v 4)), (.prop 25))])])))))))))
    (.br (.o1 .not (.o2 .eq (.v 11) (.i 1)))
     (.ret (.w (.a (.bool (.c false)))) [((.a 0), (.prop 3))])
     (.br (.o1 .not (.o2 .eq (.v 12) (.i 1)))
      (.ret (.w (.a (.bool (.c false)))) [((.a 0), (.prop 3))])
      (.br (.o2 .lt (.i 0) (.o1 .ofNat (.v 14)))
       (.ret (.w (.a (.bool (.c false)))) [((.a 0), (.prop 3))])
       (.read (.indexAddr 147 (.tmp 4) (.tmp 84)) 0 [(4, (.w (.a (.ptr (.v 5) 0)))), (84, (.w (.a (.int .i64 (.v 10)))))] [((.b (.v 5)), (.prop 8))] [.v] (.w (.a (.val 21)))
       (.op (.store 3 (.tmp 87) (.tmp 86)) 0 [(87, (.w (.a (.val 21)))), (86, (.w (.a (.int .i64 (.v 11)))))] [((.b (.v 5)), (.prop 8))] [.p] (.tup []) [((.b (.v 5)), (.prop 22))]
       (.loop [.c, .i, .p] [(.e (.o1 .not (.o1 .not (.v 6)))), (.e (.o1 .neg (.o1 .neg (.i 0)))), (.p [((.b (.v 4)), (.prop 9))])]
        (.br (.o2 .lt (.v 24) (.o1 .ofNat (.v 17)))
         (.need (.o2 .le (.i 0) (.v 24))
         (.need (.o1 .isSome (.v 16))
         (.read (.load 140 (.tmp 98)) 140 [(98, (.w (.a (.eptr 16 (.v 24) 2 0))))] [((.a 0), (.prop 3))] [.s, .i] (.w (.agg [(.str (.v 26)), (.int .i64 (.v 27))]))
         (.new
         (.join [.c]
          (.call 78 [(.a (.str (.v 26)))] [] [.c] (.w (.a (.bool (.v 29)))) []
          (.br (.o1 .not (.v 29))
           (.again 0 [(.e (.o1 .not (.o1 .not (.c true))))])
           (.br (.o2 .lt (.i 0) (.v 24))
            (.need (.o1 (.inr .i64) (.o2 .sub (.v 24) (.i 1)))
            (.need (.o2 .le (.i 0) (.o2 .sub (.v 24) (.i 1)))
            (.need (.o2 .lt (.o2 .sub (.v 24) (.i 1)) (.o1 .ofNat (.v 17)))
            (.read (.load 9 (.tmp 113)) 9 [(113, (.w (.a (.eptr 16 (.o2 .sub (.v 24) (.i 1)) 2 0))))] [((.a 0), (.prop 3))] [.s] (.w (.a (.str (.v 30))))
            (.read (.binOp .geq 9 (.tmp 114) (.tmp 116) 9) 4 [(114, (.w (.a (.str (.v 30))))), (116, (.w (.a (.str (.v 26)))))] [] [.c] (.w (.a (.bool (.v 31))))
            (.br (.v 31)
             (.again 0 [(.e (.o1 .not (.o1 .not (.c true))))])
             (.br (.o2 .lt (.v 27) (.i 1))
              (.again 0 [(.e (.o1 .not (.o1 .not (.c true))))])
              (.again 0 [(.e (.o1 .not (.o1 .not (.o2 .lt (.i 63) (.v 27)))))]))))))))
            (.br (.o2 .lt (.v 27) (.i 1))
             (.again 0 [(.e (.o1 .not (.o1 .not (.c true))))])
             (.again 0 [(.e (.o1 .not (.o1 .not (.o2 .lt (.i 63) (.v 27)))))])))))
         (.br (.v 29)
          (.ret (.w (.a (.bool (.c false)))) [((.a 0), (.prop 3))])
          (.read (.indexAddr 147 (.tmp 3) (.tmp 131)) 0 [(3, (.w (.a (.ptr (.v 4) 0)))), (131, (.w (.a (.int .i64 (.v 27)))))] [((.b (.v 4)), (.prop 25))] [.v] (.w (.a (.val 30)))
          (.read (.load 3 (.tmp 132)) 3 [(132, (.w (.a (.val 30))))] [((.b (.v 4)), (.prop 25))] [.i] (.w (.a (.int .i64 (.v 31))))
          (.need (.o1 (.inr .i64) (.o2 .add (.v 31) (.i 1)))
          (.read (.indexAddr 147 (.tmp 3) (.tmp 131)) 0 [(3, (.w (.a (.ptr (.v 4) 0)))), (131, (.w (.a (.int .i64 (.v 27)))))] [((.b (.v 4)), (.prop 25))] [.v] (.w (.a (.val 32)))
          (.op (.store 3 (.tmp 135) (.tmp 134)) 0 [(135, (.w (.a (.val 32)))), (134, (.w (.a (.int .i64 (.o2 .add (.v 31) (.i 1))))))] [((.b (.v 4)), (.prop 25))] [.p] (.tup []) [((.b (.v 4)), (.prop 33))]
          (.need (.o1 (.inr .i64) (.o2 .add (.v 24) (.i 1)))
          (.again 0 [(.e (.o1 .not (.o1 .not (.v 23)))), (.e (.o1 .neg (.o1 .neg (.o2 .add (.v 24) (.i 1))))), (.p [((.b (.v 4)), (.prop 33))])])))))))))))))
         (.need (.o1 (.inr .i64) (.o2 .add (.v 7) (.i 1)))
         (.again 1 [(.e (.o1 .not (.o1 .not (.v 23)))), (.e (.o1 .neg (.o1 .neg (.o2 .add (.v 7) (.i 1))))), (.p [((.b (.v 5)), (.prop 22))]), (.p [((.b (.v 4)), (.prop 25))])]))))))))))))))))
  (.read (.load 3 (.tmp 136)) 3 [(136, (.w (.a (.ptr (.v 5) 0))))] [((.b (.v 5)), (.prop 8))] [.i] (.w (.a (.int .i64 (.v 10))))
  (.br (.o1 .not (.o2 .eq (.v 10) (.i 1)))
   (.ret (.w (.a (.bool (.c false)))) [((.a 0), (.prop 3))])
   (.loop [.c, .i] [(.e (.o1 .not (.o1 .not (.v 6)))), (.e (.o1 .neg (.o1 .neg (.i 0))))]
    (.br (.o2 .lt (.v 12) (.o1 .ofNat (.v 1)))
     (.join [.c]
      (.need (.o2 .le (.i 0) (.v 12))
      (.need (.o1 .isSome (.v 0))
      (.read (.load 3 (.tmp 148)) 3 [(148, (.w (.a (.eptr 0 (.v 12) 5 0))))] [((.a 0), (.prop 3))] [.i] (.w (.a (.int .i64 (.v 13))))
      (.br (.o2 .lt (.i 0) (.v 13))
       (.read (.load 3 (.tmp 155)) 3 [(155, (.w (.a (.eptr 0 (.v 12) 5 0))))] [((.a 0), (.prop 3))] [.i] (.w (.a (.int .i64 (.v 14))))
       (.read (.indexAddr 147 (.tmp 3) (.tmp 156)) 0 [(3, (.w (.a (.ptr (.v 4) 0)))), (156, (.w (.a (.int .i64 (.v 14)))))] [((.b (.v 4)), (.prop 9))] [.v] (.w (.a (.val 15)))
       (.read (.load 3 (.tmp 157)) 3 [(157, (.w (.a (.val 15))))] [((.b (.v 4)), (.prop 9))] [.i] (.w (.a (.int .i64 (.v 16))))
       (.read (.load 3 (.tmp 162)) 3 [(162, (.w (.a (.eptr 0 (.v 12) 5 2))))] [((.a 0), (.prop 3))] [.i] (.w (.a (.int .i64 (.v 17))))
       (.again 0 [(.e (.o1 .not (.o1 .not (.o1 .not (.o2 .eq (.v 16) (.v 17))))))])))))
       (.again 0 [(.e (.o1 .not (.o1 .not (.c false))))])))))
     (.br (.v 13)
      (.ret (.w (.a (.bool (.c false)))) [((.a 0), (.prop 3))])
      (.need (.o1 (.inr .i64) (.o2 .add (.v 12) (.i 1)))
      (.again 0 [(.e (.o1 .not (.o1 .not (.v 11)))), (.e (.o1 .neg (.o1 .neg (.o2 .add (.v 12) (.i 1)))))]))))
     (.loop [.c, .i] [(.e (.o1 .not (.o1 .not (.v 11)))), (.e (.o1 .neg (.o1 .neg (.i 0))))]
      (.br (.o2 .lt (.v 14) (.i 64))
       (.read (.indexAddr 147 (.tmp 3) (.tmp 170)) 0 [(3, (.w (.a (.ptr (.v 4) 0)))), (170, (.w (.a (.int .i64 (.v 14)))))] [((.b (.v 4)), (.prop 9))] [.v] (.w (.a (.val 15)))
       (.read (.load 3 (.tmp 171)) 3 [(171, (.w (.a (.val 15))))] [((.b (.v 4)), (.prop 9))] [.i] (.w (.a (.int .i64 (.v 16))))
       (.br (.o2 .lt (.i 0) (.v 16))
        (.read (.indexAddr 147 (.tmp 4) (.tmp 175)) 0 [(4, (.w (.a (.ptr (.v 5) 0)))), (175, (.w (.a (.int .i64 (.v 14)))))] [((.b (.v 5)), (.prop 8))] [.v] (.w (.a (.val 17)))
        (.read (.load 3 (.tmp 176)) 3 [(176, (.w (.a (.val 17))))] [((.b (.v 5)), (.prop 8))] [.i] (.w (.a (.int .i64 (.v 18))))
        (.br (.o2 .eq (.v 18) (.i 0))
         (.ret (.w (.a (.bool (.c false)))) [((.a 0), (.prop 3))])
         (.need (.o1 (.inr .i64) (.o2 .add (.v 14) (.i 1)))
         (.again 0 [(.e (.o1 .not (.o1 .not (.v 13)))), (.e (.o1 .neg (.o1 .neg (.o2 .add (.v 14) (.i 1)))))])))))
        (.need (.o1 (.inr .i64) (.o2 .add (.v 14) (.i 1)))
        (.again 0 [(.e (.o1 .not (.o1 .not (.v 13)))), (.e (.o1 .neg (.o1 .neg (.o2 .add (.v 14) (.i 1)))))])))))
       (.new
       (.loop [.i, .p] [(.e (.o1 .neg (.o1 .neg (.i 0)))), (.p [((.b (.v 15)), (.cells [(.bool (.c true)), (.bool (.c false)), (.bool (.c false)), (.bool (.c false)), (.bool (.c false)), (.bool (.c false)), (.bool (.c false)), (.bool (.c false)), (.bool (.c false)), (.bool (.c false)), (.bool (.c false)), (.bool (.c false)), (.bool (.c false)), (.bool (.c false)), (.bool (.c false)), (.bool (.c false)), (.bool (.c false)), (.bool (.c false)), (.bool (.c false)), (.bool (.c false)), (.bool (.c false)), (.bool (.c false)), (.bool (.c false)), (.bool (.c false)), (.bool (.c false)), (.bool (.c false)), (.bool (.c false)), (.bool (.c false)), (.bool (.c false)), (.bool (.c false)), (.bool (.c false)), (.bool (.c false)), (.bool (.c false)), (.bool (.c false)), (.bool (.c false)), (.bool (.c false)), (.bool (.c false)), (.bool (.c false)), (.bool (.c false)), (.bool (.c false)), (.bool (.c false)), (.bool (.c false)), (.bool (.c false)), (.bool (.c false)), (.bool (.c false)), (.bool (.c false)), (.bool (.c false)), (.bool (.c false)), (.bool (.c false)), (.bool (.c false)), (.bool (.c false)), (.bool (.c false)), (.bool (.c false)), (.bool (.c false)), (.bool (.c false)), (.bool (.c false)), (.bool (.c false)), (.bool (.c false)), (.bool (.c false)), (.bool (.c false)), (.bool (.c false)), (.bool (.c false)), (.bool (.c false)), (.bool (.c false))] 149))])]
        (.br (.o2 .lt (.v 16) (.o1 .ofNat (.v 1)))
         (.loop [.i, .p] [(.e (.o1 .neg (.o1 .neg (.i 0)))), (.p [((.b (.v 15)), (.prop 17))])]
          (.br (.o2 .lt (.v 18) (.o1 .ofNat (.v 1)))
           (.loop [.i, .p] [(.e (.o1 .neg (.o1 .neg (.i 0)))), (.p [((.b (.v 15)), (.prop 19))])]
            (.need (.o2 .le (.i 0) (.v 18))
            (.need (.o1 .isSome (.v 0))
            (.read (.load 41 (.tmp 198)) 41 [(198, (.w (.a (.eptr 0 (.v 18) 5 4))))] [((.a 0), (.prop 3))] [.a, .n, .n] (.w (.a (.sl (.v 22) (.v 23) (.v 24))))
            (.br (.o2 .lt (.v 20) (.o1 .ofNat (.v 23)))
             (.read (.load 3 (.tmp 207)) 3 [(207, (.w (.a (.eptr 0 (.v 18) 5 0))))] [((.a 0), (.prop 3))] [.i] (.w (.a (.int .i64 (.v 25))))
             (.read (.indexAddr 149 (.tmp 11) (.tmp 208)) 0 [(11, (.w (.a (.ptr (.v 15) 0)))), (208, (.w (.a (.int .i64 (.v 25)))))] [((.b (.v 15)), (.prop 21))] [.v] (.w (.a (.val 26)))
             (.read (.load 4 (.tmp 209)) 4 [(209, (.w (.a (.val 26))))] [((.b (.v 15)), (.prop 21))] [.c] (.w (.a (.bool (.v 27))))
             (.br (.v 27)
              (.read (.load 41 (.tmp 214)) 41 [(214, (.w (.a (.eptr 0 (.v 18) 5 4))))] [((.a 0), (.prop 3))] [.a, .n, .n] (.w (.a (.sl (.v 28) (.v 29) (.v 30))))
              (.need (.o2 .le (.i 0) (.v 20))
              (.need (.o2 .lt (.v 20) (.o1 .ofNat (.v 29)))
              (.need (.o1 .isSome (.v 28))
              (.read (.load 3 (.tmp 218)) 3 [(218, (.w (.a (.eptr 28 (.v 20) 2 1))))] [((.a 0), (.prop 3))] [.i] (.w (.a (.int .i64 (.v 31))))
              (.read (.indexAddr 149 (.tmp 11) (.tmp 219)) 0 [(11, (.w (.a (.ptr (.v 15) 0)))), (219, (.w (.a (.int .i64 (.v 31)))))] [((.b (.v 15)), (.prop 21))] [.v] (.w (.a (.val 32)))
              (.op (.store 4 (.tmp 220) (.const (.bool true))) 0 [(220, (.w (.a (.val 32))))] [((.b (.v 15)), (.prop 21))] [.p] (.tup []) [((.b (.v 15)), (.prop 33))]
              (.need (.o1 (.inr .i64) (.o2 .add (.v 20) (.i 1)))
              (.again 0 [(.e (.o1 .neg (.o1 .neg (.o2 .add (.v 20) (.i 1))))), (.p [((.b (.v 15)), (.prop 33))])])))))))))
              (.need (.o1 (.inr .i64) (.o2 .add (.v 20) (.i 1)))
              (.again 0 [(.e (.o1 .neg (.o1 .neg (.o2 .add (.v 20) (.i 1))))), (.p [((.b (.v 15)), (.prop 21))])]))))))
             (.need (.o1 (.inr .i64) (.o2 .add (.v 18) (.i 1)))
             (.again 1 [(.e (.o1 .neg (.o1 .neg (.o2 .add (.v 18) (.i 1))))), (.p [((.b (.v 15)), (.prop 21))])])))))))
           (.need (.o1 (.inr .i64) (.o2 .add (.v 16) (.i 1)))
           (.again 1 [(.e (.o1 .neg (.o1 .neg (.o2 .add (.v 16) (.i 1))))), (.p [((.b (.v 15)), (.prop 19))])]))))
         (.loop [.c, .i] [(.e (.o1 .not (.o1 .not (.v 13)))), (.e (.o1 .neg (.o1 .neg (.i 0))))]
          (.br (.o2 .lt (.v 19) (.o1 .ofNat (.v 1)))
           (.need (.o2 .le (.i 0) (.v 19))
           (.need (.o1 .isSome (.v 0))
           (.read (.load 3 (.tmp 230)) 3 [(230, (.w (.a (.eptr 0 (.v 19) 5 0))))] [((.a 0), (.prop 3))] [.i] (.w (.a (.int .i64 (.v 20))))
           (.read (.indexAddr 149 (.tmp 11) (.tmp 231)) 0 [(11, (.w (.a (.ptr (.v 15) 0)))), (231, (.w (.a (.int .i64 (.v 20)))))] [((.b (.v 15)), (.prop 17))] [.v] (.w (.a (.val 21)))
           (.read (.load 4 (.tmp 232)) 4 [(232, (.w (.a (.val 21))))] [((.b (.v 15)), (.prop 17))] [.c] (.w (.a (.bool (.v 22))))
           (.br (.o1 .not (.v 22))
            (.ret (.w (.a (.bool (.c false)))) [((.a 0), (.prop 3))])
            (.need (.o1 (.inr .i64) (.o2 .add (.v 19) (.i 1)))
            (.again 0 [(.e (.o1 .not (.o1 .not (.v 18)))), (.e (.o1 .neg (.o1 .neg (.o2 .add (.v 19) (.i 1)))))]))))))))
           (.ret (.w (.a (.bool (.c true)))) [((.a 0), (.prop 3))]))))))))))))))))
theorem tree_right04 : tree Tryz.prog { absT := [147, 149, 3, 4], opq := [], hv := [(0, [(.b (.v 5)), (.b (.v 4))]), (2, [(.b (.v 4))]), (8, [(.b (.v 15))]), (10, [(.b (.v 15))]), (12, [(.b (.v 15))])], keep := [30, 76, 78], link := [], ent := [], turn := [], shr := [], vt := [], mkd := [], rlink := [], pty := [], outl := false, stay := [], snk := [], rdf := true, jn := [((28, 20), some { ss := [.c], n := 21, tv := [(28, none), (29, none), (30, none), (31, none), (32, none), (33, none), (34, none), (35, none), (36, none), (37, none), (38, none), (39, none), (40, none), (41, none), (42, none), (43, none), (44, none), (45, none), (46, none), (47, none), (48, none), (49, none), (50, some (.w (.a (.bool (.v 20)))))], h := [((.b (.v 19)), (.cells [(.int .i64 (.v 10)), (.int .i64 (.v 11)), (.int .i64 (.v 12)), (.sl (.v 13) (.v 14) (.v 15)), (.sl (.v 16) (.v 17) (.v 18))] 43)), ((.b (.v 5)), (.prop 8)), ((.b (.v 4)), (.prop 9)), ((.a 0), (.prop 3))], lk := [] }), ((100, 29), some { ss := [.c], n := 30, tv := [(100, none), (101, none), (102, none), (103, none), (104, none), (105, none), (106, none), (107, none), (108, none), (109, none), (110, none), (111, none), (112, none), (113, none), (114, none), (115, none), (116, none), (117, none), (118, none), (119, none), (120, none), (121, none), (122, none), (123, none), (124, none), (125, none), (126, none), (127, none), (128, none), (129, some (.w (.a (.bool (.v 29)))))], h := [((.b (.v 28)), (.cells [(.str (.v 26)), (.int .i64 (.v 27))] 140)), ((.b (.v 5)), (.prop 22)), ((.b (.v 19)), (.cells [(.int .i64 (.v 10)), (.int .i64 (.v 11)), (.int .i64 (.v 12)), (.sl (.v 13) (.v 14) (.v 15)), (.sl (.v 16) (.v 17) (.v 18))] 43)), ((.b (.v 4)), (.prop 25)), ((.a 0), (.prop 3))], lk := [] }), ((145, 13), some { ss := [.c], n := 14, tv := [(145, none), (146, none), (147, none), (148, none), (149, none), (150, none), (151, none), (152, none), (153, none), (154, none), (155, none), (156, none), (157, none), (158, none), (159, none), (160, none), (161, none), (162, none), (163, none), (164, none), (165, some (.w (.a (.bool (.v 13)))))], h := [((.b (.v 5)), (.prop 8)), ((.b (.v 4)), (.prop 9)), ((.a 0), (.prop 3))], lk := [] })] } Tryz.f26 [(.a (.sl (.v 0) (.v 1) (.v 2)))] [((.a 0), (.prop 3))] 4 = t_right04 := by kernel_rfl
end Go.Proofs.YtdieogcemmnaaaaGreatDoor.RX

/- The contract of the document's Right, for nodes of a tree. No condition. -/
namespace Go.Proofs.YtdieogcemmnaaaaGreatDoor
set_option linter.unusedSimpArgs false
set_option linter.unusedVariables false
open Go.Proofs.YtdieogcemmnaaaaGreatDoor RX
set_option maxRecDepth 100000

theorem name03_ok (s : Nm) (hs : s.length ≤ 100000) : Tri Tryz.prog 78 #[sE s] HP.tt (fun v => HP.pure (v = .bool (nameOk s))) := by
  refine tri_of_tree (ρ := [.s s]) mixed Tryz.func78 tree_name03 ?_
  unfold t_name03
  simp only [T.den, E.prop, E.den, RX.look, F1.app, F2.app, Uni.int_i, Uni.nat_n, Uni.bool_c, Uni.str_s, Uni.adr_a, Uni.val_v, Uni.hp_p, hden, cden, V.den, W.den, A.den, BR.den, SA.den, FV.den, capV, exs, exP, allP, Cur.app, List.map_cons, List.map_nil, List.cons_append, List.nil_append, List.drop_succ_cons, List.drop_zero, List.length_cons, List.length_nil, Nat.zero_add, Nat.reduceAdd, Int.neg_neg, Bool.not_not, List.append_nil, Nat.add_zero, List.getElem?_cons_zero, List.getElem?_cons_succ, Decidable.not_not, semW_eq, semW_load, semW_store, semW_storeC, semW_append, semW_lookup, semW_lookupC, semW_update, semW_updateC, semW_updateK, semW_delete, semW_range, semW_next, semW_entry, semW_nil, ne_eq, Nat.reduceEqDiff, not_false_eq_true]
  have yes : ∀ {φ : Bool}, nameOk s = φ → HP.ent HP.tt (HP.pure (Value.bool φ = .bool (nameOk s))) := fun h => .of fun _ _ _ => (by show Value.bool _ = Value.bool _; rw [h])
  refine ⟨fun _ i => ∃ k : Nat, i = k ∧ k ≤ s.length ∧ ∀ c ∈ s.take k, c ≠ 47 ∧ c ≠ 0, fun _ i => s.length - i.toNat, ⟨0, rfl, Nat.zero_le _, by simp⟩, ?_⟩
  rintro _ _ ⟨k, rfl, hk, hb⟩
  refine ⟨fun hlt => ?_, fun hge => ?_⟩
  · obtain ⟨c, hc⟩ := getN (l := s) (k := k) (by omega)
    have hm := List.mem_of_getElem? hc
    refine ⟨c.toNat, strIx (by decide) (by kernel_rfl) rfl hc, fun h => yes ?_, fun h1 => ⟨c.toNat, strIx (by decide) (by kernel_rfl) rfl hc, fun h => yes ?_, fun h2 => ⟨inI64' _ (by omega) (by omega), fun _ => ⟨⟨k + 1, by omega, by omega, fun d hd => ?_⟩, by dsimp only; omega⟩⟩⟩⟩
    · have : c = 47 := UInt8.toNat_inj.1 (by have : (47 : UInt8).toNat = 47 := rfl; omega)
      subst this
      simp [nameOk, hm]
    · have : c = 0 := UInt8.toNat_inj.1 (by have : (0 : UInt8).toNat = 0 := rfl; omega)
      subst this
      simp [nameOk, hm]
    · rw [List.take_add_one, hc, List.mem_append] at hd
      rcases hd with hd | hd
      · exact hb d hd
      · simp at hd
        subst hd
        refine ⟨fun e => h1 (by rw [e]; rfl), fun e => h2 (by rw [e]; rfl)⟩
  · rw [List.take_of_length_le (by omega)] at hb
    have h47 : (47 : UInt8) ∉ s := fun h => (hb _ h).1 rfl
    have h0 : (0 : UInt8) ∉ s := fun h => (hb _ h).2 rfl
    refine ⟨fun h1 => ⟨fun h2 => ⟨fun h3 => yes ?_, fun h3 => yes ?_⟩, fun h2 => yes ?_⟩, fun h1 => yes ?_⟩
    · have h1' : 1 ≤ s.length := by omega
      have h2' : s.length ≤ 16 := by omega
      simp [nameOk, h47, h0, h1', h2', h3]
    · simp [nameOk, h3]
    · have h2' : ¬ s.length ≤ 16 := by omega
      simp [nameOk, h2']
    · have h1' : ¬ 1 ≤ s.length := by omega
      simp [nameOk, h1']
def kindF (T : List Nd) (j : Nat) : Value := .int .i64 (((nodeAt T j).map (·.kind)).getD 0)
def seenF (T : List Nd) (j : Nat) : Value := .int .i64 (refs T j)
def seenE (T : List Nd) (l : List (Nm × Nat)) (j : Nat) : Value := .int .i64 ((refs T j + cntE l j : Nat) : Int)
theorem refs_app (T : List Nd) (x : Nd) (k : Nat) : refs (T ++ [x]) k = refs T k + cntE x.ents k := by simp [refs]
theorem nodeAt_app (T : List Nd) (x : Nd) (k : Nat) : nodeAt (T ++ [x]) k = (nodeAt T k).or (if x.num = k then some x else none) := by
  unfold nodeAt
  rw [List.find?_append]
  congr 1
  by_cases e : x.num = k <;> simp [e]
theorem undInt : Tryz.prog.underlying 3 = some (.int .i64) := by kernel_rfl
theorem undBo : Tryz.prog.underlying 4 = some .bool := by kernel_rfl
theorem infoInt' : ∃ i, Tryz.prog.info? 3 = some i ∧ i.size = 1 := by
  obtain ⟨i, hi, _, h2, _⟩ := info_parts infoInt
  exact ⟨i, hi, h2⟩
theorem infoBo' : ∃ i, Tryz.prog.info? 4 = some i ∧ i.size = 1 := by
  obtain ⟨i, hi, _, h2, _⟩ := info_parts (show (Tryz.prog.info? 4).map (fun i => (i.zero, i.size, i.bytes)) = some (some (.bool false), 1, 1) by kernel_rfl)
  exact ⟨i, hi, h2⟩
theorem undAr : Tryz.prog.underlying 147 = some (.array 64 3) := by kernel_rfl
theorem undArB : Tryz.prog.underlying 149 = some (.array 64 4) := by kernel_rfl
theorem ixI {b k : Nat} {x : Int} (hx : x = k) (hk : k < 64) {A : HP} : ORead Tryz.prog (idxS 147 (.pointer (some ⟨b, 0, none⟩)) (.int .i64 x)) A (.pointer (some ⟨b, k, none⟩)) := arIx undAr (by kernel_rfl) (by kernel_rfl) hx hk
theorem ixB {b k : Nat} {x : Int} (hx : x = k) (hk : k < 64) {A : HP} : ORead Tryz.prog (idxS 149 (.pointer (some ⟨b, 0, none⟩)) (.int .i64 x)) A (.pointer (some ⟨b, k, none⟩)) := arIx undArB (by kernel_rfl) (by kernel_rfl) hx hk
theorem ldI {b k : Nat} {e : TypeId} {f : Nat → Value} (hk : k < 64) {P : HP} (hP : HP.ent P (Ar e b (arF 64 f))) : ORead Tryz.prog (loadS 3 (.pointer (some ⟨b, k, none⟩))) P (f k) := ORead.ent hP (arLd undInt (by kernel_rfl) (by kernel_rfl) (arF_get hk))
theorem ldB {b k : Nat} {e : TypeId} {f : Nat → Value} (hk : k < 64) {P : HP} (hP : HP.ent P (Ar e b (arF 64 f))) : ORead Tryz.prog (loadS 4 (.pointer (some ⟨b, k, none⟩))) P (f k) := ORead.ent hP (arLd undBo (by kernel_rfl) (by kernel_rfl) (arF_get hk))
theorem stI {b k : Nat} {e : TypeId} {f : Nat → Value} (x : Int) (hk : k < 64) {P : HP} (hP : HP.ent P (Ar e b (arF 64 f))) {C : Value → HP} (post : ∀ R h, (Ar e b (arF 64 fun j => if j = k then .int .i64 x else f j)).p R h → (C (.tuple #[])).p R h) : OTri Tryz.prog (storeS 3 (.pointer (some ⟨b, k, none⟩)) (.int .i64 x)) P C := by
  obtain ⟨i, hi, hz⟩ := infoInt'
  refine OTri.pre3 ((arSt hi hz rfl rfl (by rw [arF_len]; exact hk)).weak (fun _ _ h => h) ?_) hP
  rintro v R h ⟨rfl, H⟩
  rw [arF_set hk] at H
  exact post R h H
theorem stB {b k : Nat} {e : TypeId} {f : Nat → Value} (x : Bool) (hk : k < 64) {P : HP} (hP : HP.ent P (Ar e b (arF 64 f))) {C : Value → HP} (post : ∀ R h, (Ar e b (arF 64 fun j => if j = k then .bool x else f j)).p R h → (C (.tuple #[])).p R h) : OTri Tryz.prog (storeS 4 (.pointer (some ⟨b, k, none⟩)) (.bool x)) P C := by
  obtain ⟨i, hi, hz⟩ := infoBo'
  refine OTri.pre3 ((arSt hi hz rfl rfl (by rw [arF_len]; exact hk)).weak (fun _ _ h => h) ?_) hP
  rintro v R h ⟨rfl, H⟩
  rw [arF_set hk] at H
  exact post R h H
theorem Ar.congr {e : TypeId} {b : Nat} {f g : Nat → Value} (h : ∀ j < 64, f j = g j) {P : HP} (hP : HP.ent P (Ar e b (arF 64 f))) : HP.ent P (Ar e b (arF 64 g)) := by rw [← arF_congr h]; exact hP
def boolF (f : Nat → Bool) (j : Nat) : Value := .bool (f j)
theorem loadNd {a : Option Addr} {n : Nat} {es : List NodeE} {k : Nat} {x : NodeE} (hk : es[k]? = some x) {off : Nat} {t : TypeId} {d : TypeDesc} {v : Value} (hd : Tryz.prog.underlying t = some d) (ha : aggT Tryz.prog t = false) (hz : szT Tryz.prog t = 1) (hv : (nodeVs x)[off]? = some v) : ORead Tryz.prog (loadS t (.pointer (a.map fun y => (y.add (k * 5)).add off))) (Ls kNode a n es) v := Ls.load1 (K := kNode) hd ha hz hk hv
theorem loadE1 {a : Option Addr} {n : Nat} {es : List NodeE} {x : NodeE} (hx : x ∈ es) {k : Nat} {e : Nm × Nat} (hk : x.nd.ents[k]? = some e) {off : Nat} {t : TypeId} {d : TypeDesc} {v : Value} (hd : Tryz.prog.underlying t = some d) (ha : aggT Tryz.prog t = false) (hz : szT Tryz.prog t = 1) (hv : (entV e)[off]? = some v) : ORead Tryz.prog (loadS t (.pointer (x.ea.map fun y => (y.add (k * 2)).add off))) (Ls kNode a n es) v :=
  ORead.ent (.of fun R h H => (H.2.2 x hx).2) (Ls.load1 (K := kEnt) hd ha hz hk hv)
theorem undEs' : Tryz.prog.underlying 41 = some (.slice 140) := by kernel_rfl
theorem kind_step {T : List Nd} (hn : (T.map (·.num)).Nodup) {k : Nat} {x : Nd} (hk : T[k]? = some x) (j : Nat) : (if j = x.num then Value.int .i64 x.kind else kindF (T.take k) j) = kindF (T.take (k + 1)) j := by
  unfold kindF
  rw [List.take_add_one, hk, Option.toList_some, nodeAt_app]
  by_cases e : j = x.num
  · rw [if_pos e, if_pos e.symm]
    have : nodeAt (T.take k) j = none := by
      cases hq : nodeAt (T.take k) j with
      | none => rfl
      | some y =>
        exfalso
        obtain ⟨h1, h2⟩ := nodeAt_mem hq
        obtain ⟨i, hi⟩ := List.mem_iff_getElem?.1 h1
        rw [List.getElem?_take] at hi
        split at hi
        · rename_i hik
          have e1 : (T.map (·.num))[i]? = some j := by rw [List.getElem?_map, hi]; simp [h2]
          have e2 : (T.map (·.num))[k]? = some j := by rw [List.getElem?_map, hk]; simp [e]
          have := (List.getElem?_inj (by rw [List.length_map]; have := (List.getElem?_eq_some_iff.1 hi).1; omega) hn).1 (e1.trans e2.symm)
          omega
        · cases hi
    rw [this]; rfl
  · rw [if_neg e, if_neg (Ne.symm e), Option.or_none]
theorem seen_step (T : List Nd) {k : Nat} {x : Nd} (hk : T[k]? = some x) (j : Nat) : seenE (T.take k) (x.ents.take x.ents.length) j = seenF (T.take (k + 1)) j := by
  unfold seenE seenF
  rw [List.take_length, List.take_add_one, hk, Option.toList_some, refs_app]
theorem cntE_snoc (l : List (Nm × Nat)) (e : Nm × Nat) (j : Nat) : cntE (l ++ [e]) j = cntE l j + if j = e.2 then 1 else 0 := by
  unfold cntE
  rw [List.countP_append, List.countP_cons]
  by_cases h : j = e.2
  · simp [h]
  · simp [h, Ne.symm h]
theorem seenE_step (T : List Nd) {l : List (Nm × Nat)} {m : Nat} {e : Nm × Nat} (hm : l[m]? = some e) (j : Nat) : (if j = e.2 then Value.int .i64 (((refs T e.2 + cntE (l.take m) e.2 : Nat) : Int) + 1) else seenE T (l.take m) j) = seenE T (l.take (m + 1)) j := by
  unfold seenE
  rw [List.take_add_one, hm, Option.toList_some, cntE_snoc]
  by_cases h : j = e.2
  · subst h
    rw [if_pos rfl, if_pos rfl]
    congr 1
  · rw [if_neg h, if_neg h, Nat.add_zero]
theorem seen_le {T : List Nd} {k : Nat} {x : Nd} (hk : T[k]? = some x) (m j : Nat) : refs (T.take k) j + cntE (x.ents.take m) j ≤ refs T j := by
  have hlt := (List.getElem?_eq_some_iff.1 hk).1
  have e1 : T = T.take k ++ x :: T.drop (k + 1) := by
    conv => lhs; rw [← List.take_append_drop k T]
    rw [List.drop_eq_getElem_cons hlt]
    rw [List.getElem?_eq_getElem hlt] at hk
    rw [Option.some.inj hk]
  have e2 : refs T j = refs (T.take k) j + refs (x :: T.drop (k + 1)) j := by
    conv => lhs; rw [e1]
    unfold refs; rw [List.map_append, List.sum_append]
  rw [e2, refs_cons]
  have : cntE (x.ents.take m) j ≤ cntE x.ents j := by
    unfold cntE
    exact (List.take_sublist m x.ents).countP_le
  omega
set_option maxHeartbeats 16000000 in
theorem right04_ok {B : Nat} (hB : B ≤ 100000) (a : Option Addr) (n c : Nat) (es : List NodeE) (NS : List Nd) (hT : es.map (·.nd) = NS) (wf : TWf B NS) (hr : Reach NS) (h64 : n ≤ 64) :
    Tri Tryz.prog 26 #[.slice a n c] (Ls kNode a n es) (fun v => HP.and (v = .bool true) (Ls kNode a n es)) := by
  refine Tri.fact (φ := es.length = n ∧ (n ≠ 0 → a.isSome = true) ∧ (∀ x ∈ es, x.nd.ents.length ≠ 0 → x.ea.isSome = true)) (fun R h H => ⟨H.1, fun h => Ls.some H h, nodesEa H⟩) fun ⟨hl, ha, hea⟩ => ?_
  refine tri_of_tree (ρ := [.a a, .n n, .n c, .p (Ls kNode a n es)]) mixed Tryz.func26 tree_right04 ?_
  unfold t_right04
  simp (maxSteps := 10000000) only [T.den, E.prop, E.den, RX.look, F1.app, F2.app, Uni.int_i, Uni.nat_n, Uni.bool_c, Uni.str_s, Uni.adr_a, Uni.val_v, Uni.hp_p, hden, cden, V.den, W.den, A.den, BR.den, SA.den, FV.den, capV, exs, exP, allP, Cur.app, List.map_cons, List.map_nil, List.cons_append, List.nil_append, List.drop_succ_cons, List.drop_zero, List.length_cons, List.length_nil, Nat.zero_add, Nat.reduceAdd, Int.neg_neg, Bool.not_not, List.append_nil, Nat.add_zero, List.getElem?_cons_zero, List.getElem?_cons_succ, Decidable.not_not, semW_eq, semW_load, semW_store, semW_storeC, semW_append, semW_lookup, semW_lookupC, semW_update, semW_updateC, semW_updateK, semW_delete, semW_range, semW_next, semW_entry, semW_nil, ne_eq, Nat.reduceEqDiff, not_false_eq_true, semW_ix]
  have hTl : NS.length = n := by rw [← hT, List.length_map, hl]
  have ex : ∀ k, k < n → ∃ x, es[k]? = some x ∧ x ∈ es ∧ NS[k]? = some x.nd ∧ GoodN B x.nd ∧ x.nd ∈ NS := fun k hk => by
    obtain ⟨x, hx⟩ := getN (l := es) (k := k) (by omega)
    have hxT : NS[k]? = some x.nd := by rw [← hT, List.getElem?_map, hx]; rfl
    exact ⟨x, hx, List.mem_of_getElem? hx, hxT, wf.good _ (List.mem_of_getElem? hxT), List.mem_of_getElem? hxT⟩
  have tgt64 : ∀ x ∈ NS, ∀ e ∈ x.ents, e.2 < 64 ∧ e.2 ≠ 0 ∧ nameOk e.1 = true := fun x hx e he => by
    obtain ⟨y, hy⟩ := Option.isSome_iff_exists.1 (wf.tgt x hx e he)
    have := (wf.at' hy).1.num
    rw [(wf.at' hy).2.1] at this
    exact ⟨this, ((wf.good x hx).name e he).2, ((wf.good x hx).name e he).1⟩
  have fls : ∀ {Q : HP}, (true = false) → Q.p = Q.p := fun _ => rfl
  intro b4 b5
  refine ⟨fun _ i P5 P4 => ∃ k : Nat, i = k ∧ k ≤ n ∧ HP.ent P5 (Ar 147 b5 (arF 64 (kindF (NS.take k)))) ∧ HP.ent P4 (Ar 147 b4 (arF 64 (seenF (NS.take k)))), fun _ i _ _ => n - i.toNat, ⟨0, rfl, Nat.zero_le _, by rw [List.take_zero]; exact .of fun _ _ h => h, by rw [List.take_zero]; exact .of fun _ _ h => h⟩, ?_⟩
  rintro _ _ P5 P4 ⟨k, rfl, hk, hP5, hP4⟩
  refine ⟨fun hlt => ⟨by omega, fun _ => ⟨ha (by omega), fun _ => ?_⟩⟩, fun hge => ?_⟩
  · obtain ⟨x, hx, hxm, hxT, hg, hxmT⟩ := ex k (by omega)
    have hn64 := hg.num
    refine ⟨x.nd.num, x.nd.kind, x.nd.links, x.da, x.nd.data.length, x.dc, x.ea, x.nd.ents.length, x.ec, loadNode hx, fun q => ⟨fun f => f = false, ?_, ?_⟩⟩
    · refine ⟨fun h => absurd h (by omega), fun _ => ⟨fun h => absurd h (by omega), fun _ => ⟨fun h0 => ⟨inI64' _ (by omega) (by omega), fun _ => ⟨by omega, fun _ => ⟨by omega, fun _ => ?_⟩⟩⟩, fun _ => rfl⟩⟩⟩
      obtain ⟨y, hy, hym, hyT, _, _⟩ := ex (k - 1) (by omega)
      have e1 : ((k : Int) - 1).toNat = k - 1 := by omega
      rw [e1]
      refine ⟨y.nd.num, loadNd hy undInt (by kernel_rfl) (by kernel_rfl) rfl, ?_⟩
      show decide ((x.nd.num : Int) ≤ (y.nd.num : Int)) = false
      have := List.pairwise_iff_getElem.1 wf.sorted (k - 1) k (by rw [List.length_map]; omega) (by rw [List.length_map]; omega) (by omega)
      rw [List.getElem_map, List.getElem_map] at this
      have g1 : NS[k - 1]'(by omega) = y.nd := by rw [List.getElem?_eq_getElem (by omega)] at hyT; exact Option.some.inj hyT
      have g2 : NS[k]'(by omega) = x.nd := by rw [List.getElem?_eq_getElem (by omega)] at hxT; exact Option.some.inj hxT
      rw [g1, g2] at this
      rw [decide_eq_false]
      omega
    · rintro f rfl
      refine ⟨fun h => Bool.noConfusion h, fun _ => ?_⟩
      have hkd := hg.kind
      have hdl := hg.data
      have hlp := hg.lpos
      refine ⟨fun k2 => ⟨fun h => ?_, fun _ => ⟨fun h => absurd h (by omega), fun _ => ⟨fun h => absurd h (by omega), fun _ => ?_⟩⟩⟩, fun k2 => ⟨fun h => ?_, fun k1 => ⟨fun h => ?_, fun _ => ⟨fun h => ?_, fun _ => ?_⟩⟩⟩⟩
      · exfalso
        rcases hkd with ⟨h1, _⟩ | ⟨_, h1⟩
        · omega
        · rw [h1] at h; simp at h
      · skip
        refine ⟨.pointer (some ⟨b5, x.nd.num, none⟩), ixI rfl hn64, stI x.nd.kind hn64 hP5 fun R h H => ⟨_, rfl, ?_, H⟩⟩
        have hP5' := Ar.congr (fun j _ => kind_step wf.nd hxT j) (.of fun R h H => H : HP.ent (Ar 147 b5 (arF 64 fun j => if j = x.nd.num then .int .i64 x.nd.kind else kindF (NS.take k) j)) _)
        clear H
        refine ⟨fun _ i P => ∃ m : Nat, i = m ∧ m ≤ x.nd.ents.length ∧ HP.ent P (Ar 147 b4 (arF 64 (seenE (NS.take k) (x.nd.ents.take m)))), fun _ i _ => x.nd.ents.length - i.toNat, ⟨0, rfl, Nat.zero_le _, by rw [List.take_zero]; exact hP4⟩, ?_⟩
        rintro _ _ P6 ⟨m, rfl, hm, hP6⟩
        refine ⟨fun hlt2 => ⟨by omega, fun _ => ⟨hea x hxm (by omega), fun _ => ?_⟩⟩, fun hge2 => ?_⟩
        · obtain ⟨e, he⟩ := getN (l := x.nd.ents) (k := m) (by omega)
          have hem := List.mem_of_getElem? he
          obtain ⟨t64, t0, tn⟩ := tgt64 _ hxmT e hem
          have hefew := hg.efew
          have hel : e.1.length ≤ 100000 := by
            have := tn
            simp [nameOk] at this
            omega
          refine ⟨e.1, e.2, loadEnt hxm he, fun q => ⟨fun f => f = false, ?_, ?_⟩⟩
          · refine (name03_ok e.1 hel).weak (fun _ _ h => h) ?_
            rintro v R h rfl
            have lastF : decide ((63 : Int) < (e.2 : Int)) = false := by rw [decide_eq_false]; omega
            refine ⟨nameOk e.1, rfl, ⟨fun h => absurd tn h, fun _ => ⟨fun h0 => ⟨inI64' _ (by omega) (by omega), fun _ => ⟨by omega, fun _ => ⟨by omega, fun _ => ?_⟩⟩⟩, fun _ => ⟨fun h => absurd h (by omega), fun _ => lastF⟩⟩⟩, trivial⟩
            obtain ⟨p, hp⟩ := getN (l := x.nd.ents) (k := m - 1) (by omega)
            have e1 : ((m : Int) - 1).toNat = m - 1 := by omega
            rw [e1]
            refine ⟨p.1, loadE1 hxm hp undStr (by kernel_rfl) (by kernel_rfl) rfl, _, geqStr (by decide) (by kernel_rfl), ?_⟩
            have hs : p.1 < e.1 := by
              have := List.pairwise_iff_getElem.1 hg.sort (m - 1) m (by rw [List.length_map]; omega) (by rw [List.length_map]; omega) (by omega)
              rw [List.getElem_map, List.getElem_map] at this
              have g1 : x.nd.ents[m - 1]'(by omega) = p := by rw [List.getElem?_eq_getElem (by omega)] at hp; exact Option.some.inj hp
              have g2 : x.nd.ents[m]'(by omega) = e := by rw [List.getElem?_eq_getElem (by omega)] at he; exact Option.some.inj he
              rw [g1, g2] at this
              exact this
            refine ⟨fun h => ?_, fun _ => ⟨fun h => absurd h (by omega), fun _ => lastF⟩⟩
            rw [decide_eq_true hs] at h
            cases h
          · intro f hf
            replace hf : f = false := hf
            subst hf
            refine ⟨fun h => Bool.noConfusion h, fun _ => ?_⟩
            have hsl := seen_le hxT m e.2
            obtain ⟨y, hy⟩ := Option.isSome_iff_exists.1 (wf.tgt _ hxmT e hem)
            have hcy := wf.cnt' hy t0
            have hly := (wf.at' hy).1.lfew
            refine ⟨.pointer (some ⟨b4, e.2, none⟩), ixI rfl t64, ((refs (NS.take k) e.2 + cntE (x.nd.ents.take m) e.2 : Nat) : Int), ldI t64 hP6, ⟨inI64' _ (by omega) (by omega), fun _ => ⟨.pointer (some ⟨b4, e.2, none⟩), ixI rfl t64, stI _ t64 hP6 fun R h H => ⟨_, rfl, ⟨inI64' _ (by omega) (by omega), fun _ => ⟨⟨m + 1, by omega, by omega, Ar.congr (fun j _ => seenE_step _ he j) (.of fun _ _ h => h)⟩, by dsimp only; omega⟩⟩, H⟩⟩⟩⟩
        · obtain rfl : m = x.nd.ents.length := by omega
          exact ⟨inI64' _ (by omega) (by omega), fun _ => ⟨⟨k + 1, by omega, by omega, hP5', Ar.congr (fun j _ => seen_step NS hxT j) hP6⟩, by dsimp only; omega⟩⟩
      · exfalso
        rcases hkd with ⟨h1, _⟩ | ⟨h1, _⟩
        · exact h h1
        · exact k2 h1
      · exfalso
        rcases hkd with ⟨_, _, h1⟩ | ⟨h1, _⟩
        · exact h h1
        · exact k2 h1
      · exfalso
        rcases hkd with ⟨_, h1, _⟩ | ⟨h1, _⟩
        · rw [h1] at h; simp at h
        · exact k2 h1
      · skip
        refine ⟨.pointer (some ⟨b5, x.nd.num, none⟩), ixI rfl hn64, stI x.nd.kind hn64 hP5 fun R h H => ⟨_, rfl, ?_, H⟩⟩
        have hP5' := Ar.congr (fun j _ => kind_step wf.nd hxT j) (.of fun R h H => H : HP.ent (Ar 147 b5 (arF 64 fun j => if j = x.nd.num then .int .i64 x.nd.kind else kindF (NS.take k) j)) _)
        clear H
        refine ⟨fun _ i P => ∃ m : Nat, i = m ∧ m ≤ x.nd.ents.length ∧ HP.ent P (Ar 147 b4 (arF 64 (seenE (NS.take k) (x.nd.ents.take m)))), fun _ i _ => x.nd.ents.length - i.toNat, ⟨0, rfl, Nat.zero_le _, by rw [List.take_zero]; exact hP4⟩, ?_⟩
        rintro _ _ P6 ⟨m, rfl, hm, hP6⟩
        refine ⟨fun hlt2 => ⟨by omega, fun _ => ⟨hea x hxm (by omega), fun _ => ?_⟩⟩, fun hge2 => ?_⟩
        · obtain ⟨e, he⟩ := getN (l := x.nd.ents) (k := m) (by omega)
          have hem := List.mem_of_getElem? he
          obtain ⟨t64, t0, tn⟩ := tgt64 _ hxmT e hem
          have hefew := hg.efew
          have hel : e.1.length ≤ 100000 := by
            have := tn
            simp [nameOk] at this
            omega
          refine ⟨e.1, e.2, loadEnt hxm he, fun q => ⟨fun f => f = false, ?_, ?_⟩⟩
          · refine (name03_ok e.1 hel).weak (fun _ _ h => h) ?_
            rintro v R h rfl
            have lastF : decide ((63 : Int) < (e.2 : Int)) = false := by rw [decide_eq_false]; omega
            refine ⟨nameOk e.1, rfl, ⟨fun h => absurd tn h, fun _ => ⟨fun h0 => ⟨inI64' _ (by omega) (by omega), fun _ => ⟨by omega, fun _ => ⟨by omega, fun _ => ?_⟩⟩⟩, fun _ => ⟨fun h => absurd h (by omega), fun _ => lastF⟩⟩⟩, trivial⟩
            obtain ⟨p, hp⟩ := getN (l := x.nd.ents) (k := m - 1) (by omega)
            have e1 : ((m : Int) - 1).toNat = m - 1 := by omega
            rw [e1]
            refine ⟨p.1, loadE1 hxm hp undStr (by kernel_rfl) (by kernel_rfl) rfl, _, geqStr (by decide) (by kernel_rfl), ?_⟩
            have hs : p.1 < e.1 := by
              have := List.pairwise_iff_getElem.1 hg.sort (m - 1) m (by rw [List.length_map]; omega) (by rw [List.length_map]; omega) (by omega)
              rw [List.getElem_map, List.getElem_map] at this
              have g1 : x.nd.ents[m - 1]'(by omega) = p := by rw [List.getElem?_eq_getElem (by omega)] at hp; exact Option.some.inj hp
              have g2 : x.nd.ents[m]'(by omega) = e := by rw [List.getElem?_eq_getElem (by omega)] at he; exact Option.some.inj he
              rw [g1, g2] at this
              exact this
            refine ⟨fun h => ?_, fun _ => ⟨fun h => absurd h (by omega), fun _ => lastF⟩⟩
            rw [decide_eq_true hs] at h
            cases h
          · intro f hf
            replace hf : f = false := hf
            subst hf
            refine ⟨fun h => Bool.noConfusion h, fun _ => ?_⟩
            have hsl := seen_le hxT m e.2
            obtain ⟨y, hy⟩ := Option.isSome_iff_exists.1 (wf.tgt _ hxmT e hem)
            have hcy := wf.cnt' hy t0
            have hly := (wf.at' hy).1.lfew
            refine ⟨.pointer (some ⟨b4, e.2, none⟩), ixI rfl t64, ((refs (NS.take k) e.2 + cntE (x.nd.ents.take m) e.2 : Nat) : Int), ldI t64 hP6, ⟨inI64' _ (by omega) (by omega), fun _ => ⟨.pointer (some ⟨b4, e.2, none⟩), ixI rfl t64, stI _ t64 hP6 fun R h H => ⟨_, rfl, ⟨inI64' _ (by omega) (by omega), fun _ => ⟨⟨m + 1, by omega, by omega, Ar.congr (fun j _ => seenE_step _ he j) (.of fun _ _ h => h)⟩, by dsimp only; omega⟩⟩, H⟩⟩⟩⟩
        · obtain rfl : m = x.nd.ents.length := by omega
          exact ⟨inI64' _ (by omega) (by omega), fun _ => ⟨⟨k + 1, by omega, by omega, hP5', Ar.congr (fun j _ => seen_step NS hxT j) hP6⟩, by dsimp only; omega⟩⟩
  · obtain rfl : k = n := by omega
    rw [List.take_of_length_le (by omega)] at hP5 hP4
    obtain ⟨r, r1, r2⟩ := wf.root
    have hk0 : kindF NS 0 = .int .i64 1 := by unfold kindF; rw [r1, Option.map_some, Option.getD_some, r2]
    have l0 := ldI (k := 0) (by omega) hP5
    rw [hk0] at l0
    refine ⟨1, l0, fun h => absurd rfl h, fun _ => ?_⟩
    refine ⟨fun _ i => ∃ m : Nat, i = m ∧ m ≤ k, fun _ i => k - i.toNat, ⟨0, rfl, Nat.zero_le _⟩, ?_⟩
    rintro _ _ ⟨m, rfl, hm⟩
    refine ⟨fun hlt => ⟨fun f => f = false, ⟨by omega, fun _ => ⟨ha (by omega), fun _ => ?_⟩⟩, ?_⟩, fun hge1 => ?_⟩
    · obtain ⟨x, hx, hxm, hxT, hg, hxmT⟩ := ex m (by omega)
      have hn64 := hg.num
      refine ⟨x.nd.num, loadNd hx undInt (by kernel_rfl) (by kernel_rfl) rfl, fun hpos => ⟨x.nd.num, loadNd hx undInt (by kernel_rfl) (by kernel_rfl) rfl, .pointer (some ⟨b4, x.nd.num, none⟩), ixI rfl hn64, refs NS x.nd.num, ldI hn64 hP4, x.nd.links, loadNd hx undInt (by kernel_rfl) (by kernel_rfl) rfl, ?_⟩, fun _ => rfl⟩
      show (!decide ((refs NS x.nd.num : Int) = x.nd.links)) = false
      rw [decide_eq_true (wf.cnt _ hxmT (by omega))]
      rfl
    · intro f hf
      replace hf : f = false := hf
      subst hf
      exact ⟨fun h => Bool.noConfusion h, fun _ => ⟨inI64' _ (by omega) (by omega), fun _ => ⟨⟨m + 1, by omega, by omega⟩, by dsimp only; omega⟩⟩⟩
    refine ⟨fun _ i => ∃ m : Nat, i = m ∧ m ≤ 64, fun _ i => 64 - i.toNat, ⟨0, rfl, Nat.zero_le _⟩, ?_⟩
    rintro _ _ ⟨m, rfl, hm⟩
    refine ⟨fun hlt => ?_, fun hge2 => ?_⟩
    · have hm64 : m < 64 := by omega
      refine ⟨.pointer (some ⟨b4, m, none⟩), ixI rfl hm64, refs NS m, ldI hm64 hP4, fun hpos => ⟨.pointer (some ⟨b5, m, none⟩), ixI rfl hm64, ((nodeAt NS m).map fun z : Nd => z.kind).getD 0, ldI hm64 hP5, fun h => ?_, fun _ => ⟨inI64' _ (by omega) (by omega), fun _ => ⟨⟨m + 1, by omega, by omega⟩, by dsimp only; omega⟩⟩⟩, fun _ => ⟨inI64' _ (by omega) (by omega), fun _ => ⟨⟨m + 1, by omega, by omega⟩, by dsimp only; omega⟩⟩⟩
      exfalso
      have : ∃ x ∈ NS, ∃ e ∈ x.ents, e.2 = m := Classical.byContradiction fun hno => by
        have := refs_zero (T := NS) (k := m) fun x hx e he h => hno ⟨x, hx, e, he, h⟩
        omega
      obtain ⟨x, hx, e, he, rfl⟩ := this
      obtain ⟨y, hy⟩ := Option.isSome_iff_exists.1 (wf.tgt x hx e he)
      rw [hy, Option.map_some, Option.getD_some] at h
      rcases (wf.at' hy).1.kind with ⟨h1, _⟩ | ⟨h1, _⟩ <;> omega
    intro b6
    refine ⟨fun i P => ∃ r : Nat, i = r ∧ r ≤ k ∧ ∃ f : Nat → Bool, HP.ent P (Ar 149 b6 (arF 64 (boolF f))) ∧ ∀ j, Dn NS r j → f j = true, fun i _ => k - i.toNat, ⟨0, rfl, Nat.zero_le _, fun j => j == 0, .of fun _ _ h => h, fun j ⟨l, h1, h2⟩ => by obtain rfl := List.length_eq_zero_iff.1 (Nat.le_zero.1 h1); cases h2; rfl⟩, ?_⟩
    rintro _ P7 ⟨r, rfl, hrk, f7, hP7, hf7⟩
    refine ⟨fun hlt => ?_, fun hge3 => ?_⟩
    · refine ⟨fun i P => ∃ m : Nat, i = m ∧ m ≤ k ∧ ∃ f : Nat → Bool, HP.ent P (Ar 149 b6 (arF 64 (boolF f))) ∧ (∀ j, Dn NS r j → f j = true) ∧ ∀ i', i' < m → ∀ x, NS[i']? = some x → Dn NS r x.num → ∀ e ∈ x.ents, f e.2 = true, fun i _ => k - i.toNat, ⟨0, rfl, Nat.zero_le _, f7, hP7, hf7, fun i' h => absurd h (by omega)⟩, ?_⟩
      rintro _ P8 ⟨m, rfl, hm, f8, hP8, hf8, hg8⟩
      refine ⟨fun hlt2 => ?_, fun hge4 => ⟨inI64' _ (by omega) (by omega), fun _ => ⟨⟨r + 1, by omega, by omega, f8, hP8, fun j hj => ?_⟩, by dsimp only; omega⟩⟩⟩
      · obtain ⟨x, hx, hxm, hxT, hg, hxmT⟩ := ex m (by omega)
        have hn64 := hg.num
        have hefew := hg.efew
        refine ⟨fun i P => ∃ u : Nat, i = u ∧ u ≤ x.nd.ents.length ∧ ∃ f : Nat → Bool, HP.ent P (Ar 149 b6 (arF 64 (boolF f))) ∧ (∀ j, Dn NS r j → f j = true) ∧ (∀ i', i' < m → ∀ x, NS[i']? = some x → Dn NS r x.num → ∀ e ∈ x.ents, f e.2 = true) ∧ (Dn NS r x.nd.num → ∀ e ∈ x.nd.ents.take u, f e.2 = true), fun i _ => x.nd.ents.length - i.toNat, ⟨0, rfl, Nat.zero_le _, f8, hP8, hf8, hg8, fun _ e he => by simp at he⟩, ?_⟩
        rintro _ P9 ⟨u, rfl, hu, f9, hP9, hf9, hg9, hh9⟩
        refine ⟨by omega, fun _ => ⟨ha (by omega), fun _ => ⟨x.ea, x.nd.ents.length, x.ec, loadNd hx undEs' (by kernel_rfl) (by kernel_rfl) rfl, fun hlt3 => ⟨x.nd.num, loadNd hx undInt (by kernel_rfl) (by kernel_rfl) rfl, .pointer (some ⟨b6, x.nd.num, none⟩), ixB rfl hn64, f9 x.nd.num, ldB hn64 hP9, fun hrc => ?_, fun hrc => ?_⟩, fun hge5 => ?_⟩⟩⟩
        · obtain ⟨e, he⟩ := getN (l := x.nd.ents) (k := u) (by omega)
          have hem := List.mem_of_getElem? he
          obtain ⟨t64, t0, tn⟩ := tgt64 _ hxmT e hem
          refine ⟨x.ea, x.nd.ents.length, x.ec, loadNd hx undEs' (by kernel_rfl) (by kernel_rfl) rfl, by omega, fun _ => ⟨by omega, fun _ => ⟨hea x hxm (by omega), fun _ => ⟨e.2, loadE1 hxm he undInt (by kernel_rfl) (by kernel_rfl) rfl, .pointer (some ⟨b6, e.2, none⟩), ixB rfl t64, stB true t64 hP9 fun R h H => ⟨_, rfl, ⟨inI64' _ (by omega) (by omega), fun _ => ⟨⟨u + 1, by omega, by omega, fun j => if j = e.2 then true else f9 j, Ar.congr (fun j _ => ?_) (.of fun _ _ h => h), fun j hj => ?_, fun i' hi' x' hx' hd' e' he' => ?_, fun hd' e' he' => ?_⟩, by dsimp only; omega⟩⟩, H⟩⟩⟩⟩⟩
          · show (if j = e.2 then Value.bool true else Value.bool (f9 j)) = Value.bool (if j = e.2 then true else f9 j)
            split <;> rfl
          · dsimp only; rw [hf9 j hj]; split <;> rfl
          · dsimp only; rw [hg9 i' hi' x' hx' hd' e' he']; split <;> rfl
          · dsimp only
            rw [List.take_add_one, he, List.mem_append] at he'
            rcases he' with he' | he'
            · rw [hh9 hd' e' he']; split <;> rfl
            · simp at he'; rw [he', if_pos rfl]
        · exact ⟨inI64' _ (by omega) (by omega), fun _ => ⟨⟨u + 1, by omega, by omega, f9, hP9, hf9, hg9, fun hd => absurd (hf9 _ hd) hrc⟩, by dsimp only; omega⟩⟩
        · obtain rfl : u = x.nd.ents.length := by omega
          rw [List.take_length] at hh9
          refine ⟨inI64' _ (by omega) (by omega), fun _ => ⟨⟨m + 1, by omega, by omega, f9, hP9, hf9, fun i' hi' x' hx' hd' => ?_⟩, by dsimp only; omega⟩⟩
          rcases Nat.lt_or_eq_of_le (Nat.le_of_lt_succ hi') with h | h
          · exact hg9 i' h x' hx' hd'
          · subst h
            rw [hxT] at hx'; cases hx'
            exact hh9 hd'
      · rcases hj.step with h | ⟨x, hx, hd, e, he, rfl⟩
        · exact hf8 j h
        · obtain ⟨i, hi⟩ := List.mem_iff_getElem?.1 hx
          have := (List.getElem?_eq_some_iff.1 hi).1
          exact hg8 i (by omega) x hi hd e he
    · obtain rfl : r = k := by omega
      refine ⟨fun _ i => ∃ m : Nat, i = m ∧ m ≤ r, fun _ i => r - i.toNat, ⟨0, rfl, Nat.zero_le _⟩, ?_⟩
      rintro _ _ ⟨m, rfl, hm⟩
      refine ⟨fun hlt => ⟨by omega, fun _ => ⟨ha (by omega), fun _ => ?_⟩⟩, fun _ => .of fun R h H => ⟨trivial, H⟩⟩
      obtain ⟨x, hx, hxm, hxT, hg, hxmT⟩ := ex m (by omega)
      have hn64 := hg.num
      have hd := Reach.dn wf hr x.nd hxmT
      rw [hTl] at hd
      exact ⟨x.nd.num, loadNd hx undInt (by kernel_rfl) (by kernel_rfl) rfl, .pointer (some ⟨b6, x.nd.num, none⟩), ixB rfl hn64, f7 x.nd.num, ldB hn64 hP7, fun h => absurd (hf7 _ hd) h, fun _ => ⟨inI64' _ (by omega) (by omega), fun _ => ⟨⟨m + 1, by omega, by omega⟩, by dsimp only; omega⟩⟩⟩
end Go.Proofs.YtdieogcemmnaaaaGreatDoor

/- Law 4: TreeErrors answers true. No condition. -/
namespace Go.Proofs.YtdieogcemmnaaaaGreatDoor
open Go.Proofs.YtdieogcemmnaaaaGreatDoor RX
set_option maxRecDepth 100000

theorem pr_err {T : List Nd} {q : List Nd × Int} (h : q.2 ≠ 0 → q.1 = T) (he : (({ err := q.2 } : AnsM)).err ≠ 0) : q.1 = T ∧ ({ err := q.2 } : AnsM) = { err := ({ err := q.2 } : AnsM).err } := ⟨h he, rfl⟩
set_option maxHeartbeats 2000000 in
/-- What is answered with an error changes nothing, and tells nothing besides. -/
theorem doS_err {T : List Nd} {kind : Int} {p o : Nm} {off n : Int} {d : List UInt8} (h : (doS T kind p o off n d).2.err ≠ 0) : (doS T kind p o off n d).1 = T ∧ (doS T kind p o off n d).2 = { err := (doS T kind p o off n d).2.err } := by
  have mk : (makeS T kind p).2 ≠ 0 → (makeS T kind p).1 = T := fun h => by
    unfold makeS at h ⊢
    split
    · rfl
    split
    · rfl
    · rename_i h1 h2; rw [if_neg h1, if_neg h2] at h; exact absurd rfl h
  have rm : (rmdirS T p).2 ≠ 0 → (rmdirS T p).1 = T := fun h => by
    unfold rmdirS at h ⊢
    split
    · rfl
    · rename_i h1
      rw [if_neg h1] at h
      split
      · rfl
      · rename_i x hx
        rw [hx] at h
        simp only at h
        split
        · rfl
        split
        · rfl
        · rename_i h2 h3; rw [if_neg h2, if_neg h3] at h; exact absurd rfl h
  have ul : (unlinkS T p).2 ≠ 0 → (unlinkS T p).1 = T := fun h => by
    unfold unlinkS at h ⊢
    split
    · rfl
    · rename_i h1
      rw [if_neg h1] at h
      split
      · rfl
      · rename_i x hx
        rw [hx] at h
        simp only at h
        split
        · rfl
        · rename_i h2
          rw [if_neg h2] at h
          split at h <;> exact absurd rfl h
  have lnk : (linkS T p o).2 ≠ 0 → (linkS T p o).1 = T := fun h => by
    unfold linkS at h ⊢
    split
    · rfl
    split
    · rfl
    · rename_i h1 h2; rw [if_neg h1, if_neg h2] at h; exact absurd rfl h
  have wr : (writeS T p off d).2 ≠ 0 → (writeS T p off d).1 = T := fun h => by
    unfold writeS at h ⊢
    split
    · rfl
    split
    · rfl
    split
    · rfl
    split
    · rfl
    · rename_i h1 h2 h3 h4; rw [if_neg h1, if_neg h2, if_neg h3, if_neg h4] at h; exact absurd rfl h
  have ct : (cutS T p n).2 ≠ 0 → (cutS T p n).1 = T := fun h => by
    unfold cutS at h ⊢
    split
    · rfl
    split
    · rfl
    split
    · rfl
    · rename_i h1 h2 h3; rw [if_neg h1, if_neg h2, if_neg h3] at h; exact absurd rfl h
  have st : (statS T p).err ≠ 0 → statS T p = { err := (statS T p).err } := fun h => by
    unfold statS at h ⊢
    split
    · rfl
    · rename_i h1
      rw [if_neg h1] at h
      split at h <;> exact absurd rfl h
  have ls : (listS T p).err ≠ 0 → listS T p = { err := (listS T p).err } := fun h => by
    unfold listS at h ⊢
    split
    · rfl
    · rename_i h1
      rw [if_neg h1] at h
      split
      · rfl
      · rename_i x hx
        rw [hx] at h
        simp only at h
        split
        · rfl
        · rename_i h2; rw [if_neg h2] at h; exact absurd rfl h
  have rd : (readS' T p off n).err ≠ 0 → readS' T p off n = { err := (readS' T p off n).err } := fun h => by
    have : (readS T p off n).2 = [] := by
      have h' : (readS T p off n).1 ≠ 0 := h
      unfold readS at h' ⊢
      split
      · rfl
      · rename_i h1
        rw [if_neg h1] at h'
        split
        · rfl
        · rename_i h2
          rw [if_neg h2] at h'
          split at h' <;> exact absurd rfl h'
    show ({ err := (readS T p off n).1, data := (readS T p off n).2 } : AnsM) = { err := (readS T p off n).1 }
    rw [this]
  have key : ∀ r, doS T kind p o off n d = r → r.2.err ≠ 0 → r.1 = T ∧ r.2 = { err := r.2.err } := fun r hr h => by
    unfold doS at hr
    split at hr
    · subst hr; exact ⟨mk h, rfl⟩
    split at hr
    · subst hr; exact ⟨rm h, rfl⟩
    split at hr
    · subst hr; exact ⟨ul h, rfl⟩
    split at hr
    · subst hr; exact ⟨lnk h, rfl⟩
    split at hr
    · subst hr; exact ⟨rename_err (.inl h), rfl⟩
    split at hr
    · subst hr; exact ⟨wr h, rfl⟩
    split at hr
    · subst hr; exact ⟨rfl, rd h⟩
    split at hr
    · subst hr; exact ⟨ct h, rfl⟩
    split at hr
    · subst hr; exact ⟨rfl, st h⟩
    split at hr
    · subst hr; exact ⟨rfl, ls h⟩
    split at hr
    · subst hr; exact absurd rfl h
    · subst hr; exact ⟨rfl, rfl⟩
  exact key _ rfl h
/-- What does not change a tree by its kind leaves it. -/
theorem doS_quiet {T : List Nd} {kind : Int} {p o : Nm} {off n : Int} {d : List UInt8} (h : ¬ (1 ≤ kind ∧ kind ≤ 9 ∧ kind ≠ 8)) : (doS T kind p o off n d).1 = T := by
  have key : ∀ r, doS T kind p o off n d = r → r.1 = T := fun r hr => by
    unfold doS at hr
    rw [if_neg (by omega), if_neg (by omega), if_neg (by omega), if_neg (by omega), if_neg (by omega), if_neg (by omega)] at hr
    split at hr
    · subst hr; rfl
    rw [if_neg (by omega)] at hr
    split at hr
    · subst hr; rfl
    split at hr
    · subst hr; rfl
    split at hr
    · subst hr; rfl
    · subst hr; rfl
  exact key _ rfl
end Go.Proofs.YtdieogcemmnaaaaGreatDoor
