/- The terms of a run mean what they say: behind new names, at operands, at operations that change nothing. No condition. -/
import Derived.Test.YtmibmjehjagmbaaExec
namespace Go.Proofs.Ytmibmjehjagmbaa.RX
open Go.Proofs.Ytmibmjehjagmbaa

/-! ### behind new names -/
theorem look_app (ρ x : Env) {k : Nat} (h : k < ρ.length) : look (ρ ++ x) k = look ρ k := by
  induction ρ generalizing k with
  | nil => simp at h
  | cons a r ih => cases k with
    | zero => rfl
    | succ k => exact ih (by simpa using h)
theorem look_at (ρ : Env) (u : Uni) (x : Env) : look (ρ ++ u :: x) ρ.length = u := by
  induction ρ with
  | nil => rfl
  | cons a r ih => exact ih
theorem E.app {ρ : Env} {e : E} (h : e.bel ρ.length = true) (x : Env) : e.den (ρ ++ x) = e.den ρ := by
  induction e with
  | v k => exact look_app ρ x (by simpa [E.bel] using h)
  | o1 f a ih => simp only [E.bel] at h; simp only [E.den, ih h]
  | o2 f a b iha ihb => simp only [E.bel, Bool.and_eq_true] at h; simp only [E.den, iha h.1, ihb h.2]
  | _ => rfl
theorem BR.app {ρ : Env} {r : BR} (h : r.bel ρ.length = true) (x : Env) : r.den (ρ ++ x) = r.den ρ := by
  cases r with
  | v k => simp only [BR.den]; rw [look_app ρ x (by simpa [BR.bel] using h)]
  | g n => rfl
theorem SA.app {ρ : Env} {r : SA} (h : r.bel ρ.length = true) (x : Env) : r.den (ρ ++ x) = r.den ρ := by
  cases r with
  | nil => rfl
  | v k => simp only [SA.den]; rw [look_app ρ x (by simpa [SA.bel] using h)]
  | b r o => simp only [SA.den]; rw [BR.app (by simpa [SA.bel] using h)]
theorem A.app {ρ : Env} {y : A} (h : y.bel ρ.length = true) (x : Env) : y.den (ρ ++ x) = y.den ρ := by
  cases y <;> simp only [A.bel, Bool.and_eq_true, decide_eq_true_eq] at h <;> simp only [A.den]
  case int => rw [E.app h]
  case bool => rw [E.app h]
  case str => rw [E.app h]
  case ptr => rw [BR.app h]
  case eptr => rw [look_app ρ x h.1, E.app h.2]
  case sl => rw [SA.app h.1.1, E.app h.1.2, E.app h.2]
  case map => rw [BR.app h]
  case val => rw [look_app ρ x h]
  case func f cs =>
    congr 2
    refine List.map_congr_left fun c hc => ?_
    simp only [capV]
    rw [BR.app (List.all_eq_true.1 h c hc)]
theorem As.app {ρ : Env} {l : List A} (h : l.all (A.bel ρ.length) = true) (x : Env) : l.map (A.den (ρ ++ x)) = l.map (A.den ρ) :=
  List.map_congr_left fun y hy => A.app (List.all_eq_true.1 h y hy) x
theorem W.app {ρ : Env} {y : W} (h : y.bel ρ.length = true) (x : Env) : y.den (ρ ++ x) = y.den ρ := by
  cases y with
  | a y => exact A.app h x
  | agg l => simp only [W.den]; rw [As.app h]
theorem V.app {ρ : Env} {y : V} (h : y.bel ρ.length = true) (x : Env) : y.den (ρ ++ x) = y.den ρ := by
  cases y with
  | w y => exact W.app h x
  | tup l =>
    simp only [V.den]
    congr 2
    exact List.map_congr_left fun y hy => W.app (List.all_eq_true.1 h y hy) x
  | nx c k v =>
    simp only [V.bel, Bool.and_eq_true, decide_eq_true_eq] at h
    simp only [V.den, look_app ρ x h.1.1, look_app ρ x h.1.2, look_app ρ x h.2]
theorem cden_app {ρ : Env} {y : Key × C} (h : (y.1.bel ρ.length && y.2.bel ρ.length) = true) (x : Env) : cden (ρ ++ x) y = cden ρ y := by
  obtain ⟨k, c⟩ := y
  simp only [Bool.and_eq_true] at h
  obtain ⟨hk, hc⟩ := h
  cases c with
  | prop j => simp only [cden]; rw [look_app ρ x (by simpa [C.bel] using hc)]
  | cells l ty => cases k with
    | b r => simp only [cden]; rw [BR.app hk, As.app hc]
    | a j => rfl
  | emap => cases k with
    | b r => simp only [cden]; rw [BR.app hk]
    | a j => rfl
  | dfr => cases k with
    | b r => simp only [cden]; rw [BR.app hk]
    | a j => rfl
theorem hden_app {ρ : Env} {h : Hp} (hb : hbel ρ.length h = true) (x : Env) : hden (ρ ++ x) h = hden ρ h := by
  induction h with
  | nil => rfl
  | cons y r ih =>
    simp only [hbel, List.all_cons, Bool.and_eq_true] at hb
    have e := cden_app (ρ := ρ) (y := y) (by simp [hb.1]) x
    have ih' := ih (by unfold hbel; exact hb.2)
    cases r with
    | nil => exact e
    | cons z q => simp only [hden] at ih' ⊢; rw [e, ih']

/-! ### the heap's terms -/
theorem hden_cons (ρ : Env) (x : Key × C) (r : Hp) (R h : PH) : (hden ρ (x :: r)).p R h ↔ (HP.sep (cden ρ x) (hden ρ r)).p R h := by
  cases r with
  | nil => exact ⟨fun H => HP.sep_tt H, fun H => HP.sep_left H⟩
  | cons y q => exact Iff.rfl
theorem hden_app2 {ρ : Env} {l m : Hp} {R h : PH} : (hden ρ (l ++ m)).p R h ↔ (HP.sep (hden ρ l) (hden ρ m)).p R h := by
  induction l generalizing h with
  | nil => exact ⟨fun H => HP.tt_sep H, fun H => HP.sep_right H⟩
  | cons x r ih =>
    rw [List.cons_append, hden_cons]
    constructor
    · intro H
      exact HP.sep_mono (HP.sep_assoc' (HP.sep_mono H (fun _ h => h) fun _ h => (ih).1 h)) (fun _ h => (hden_cons ρ x r _ _).2 h) fun _ h => h
    · intro H
      exact HP.sep_mono (HP.sep_assoc (HP.sep_mono H (fun _ h => (hden_cons ρ x r _ _).1 h) fun _ h => h)) (fun _ h => h) fun _ h => (ih).2 h
theorem hden_filter {ρ : Env} (q : Key × C → Bool) {l : Hp} {R h : PH} (H : (hden ρ l).p R h) : (HP.sep (hden ρ (l.filter q)) (hden ρ (l.filter fun x => !q x))).p R h := by
  induction l generalizing h with
  | nil => exact HP.sep_tt trivial
  | cons x r ih =>
    have H1 := (hden_cons ρ x r R h).1 H
    cases hq : q x with
    | true =>
      rw [List.filter_cons, List.filter_cons]
      simp only [hq, if_true, Bool.not_true, Bool.false_eq_true, if_false]
      exact HP.sep_mono (HP.sep_assoc' (HP.sep_mono H1 (fun _ h => h) fun _ h => ih h)) (fun _ h => (hden_cons ρ x _ _ _).2 h) fun _ h => h
    | false =>
      rw [List.filter_cons, List.filter_cons]
      simp only [hq, if_true, Bool.not_false, Bool.false_eq_true, if_false]
      have H2 := HP.sep_mono H1 (fun _ h => h) fun _ h => ih h
      have H3 := HP.sep_comm (HP.sep_assoc' (HP.sep_mono H2 (fun _ h => h) fun _ h => HP.sep_comm h))
      exact HP.sep_mono H3 (fun _ h => h) fun _ h => (hden_cons ρ x _ _ _).2 h
theorem hden_mem {ρ : Env} {l : Hp} {x : Key × C} (hx : x ∈ l) {R h : PH} (H : (hden ρ l).p R h) : (cden ρ x).p R h := by
  induction l generalizing h with
  | nil => cases hx
  | cons y r ih =>
    have H1 := (hden_cons ρ y r R h).1 H
    cases hx with
    | head => exact HP.sep_left H1
    | tail _ hr => exact ih hr (HP.sep_right H1)
theorem hden_remove {ρ : Env} {l : Hp} {x : Key × C} (hx : x ∈ l) {R h : PH} (H : (hden ρ l).p R h) : (HP.sep (cden ρ x) (hden ρ (l.erase x))).p R h := by
  induction l generalizing h with
  | nil => cases hx
  | cons y r ih =>
    have H1 := (hden_cons ρ y r R h).1 H
    by_cases e : y = x
    · subst e
      rw [List.erase_cons_head]
      exact H1
    · rw [List.erase_cons_tail (by simpa using e)]
      have hr : x ∈ r := by
        cases hx with
        | head => exact absurd rfl e
        | tail _ hr => exact hr
      have H2 := HP.sep_mono H1 (fun _ h => h) fun _ h => ih hr h
      have H3 := HP.sep_assoc (HP.sep_mono (HP.sep_assoc' H2) (fun _ h => HP.sep_comm h) fun _ h => h)
      exact HP.sep_mono H3 (fun _ h => h) fun _ h => (hden_cons ρ y _ _ _).2 h
theorem hden_sub {ρ : Env} {m : Hp} : ∀ {l : Hp}, nodupH m = true → (∀ x ∈ m, x ∈ l) → ∀ {R h : PH}, (hden ρ l).p R h → (hden ρ m).p R h := by
  induction m with
  | nil => intro _ _ _ _ _ _; trivial
  | cons x r ih =>
    intro l hn hs R h H
    simp only [nodupH, Bool.and_eq_true, Bool.not_eq_true', List.contains_eq_mem, decide_eq_false_iff_not] at hn
    have H1 := hden_remove (hs x (List.mem_cons_self ..)) H
    refine (hden_cons ρ x r R h).2 (HP.sep_mono H1 (fun _ h => h) fun _ h => ih hn.2 (fun y hy => ?_) h)
    exact (List.mem_erase_of_ne (fun e => hn.1 (by rw [← e]; exact hy))).2 (hs y (List.mem_cons_of_mem _ hy))
theorem findC_mem {h : Hp} {k : Key} {c : C} (e : findC h k = some c) : (k, c) ∈ h := by
  induction h with
  | nil => cases e
  | cons x r ih =>
    obtain ⟨y, d⟩ := x
    simp only [findC] at e
    split at e
    · rename_i hy; subst hy; cases e; exact List.mem_cons_self ..
    · exact List.mem_cons_of_mem _ (ih e)

/-! ### states -/
def Tm (ρ : Env) (t : List (Option V)) (a : Act) : Prop := a.tmps.size = t.length ∧ ∀ (i : Nat) (v : V), t[i]? = some (some v) → a.tmps[i]? = some (v.den ρ)
/-- The mark of a block for deferred calls. -/
def markOf (ρ : Env) (r : BR) : Deferred := { target := .collected (r.den ρ), args := #[] }
structure Ok (ρ : Env) (s : S) (a : Act) (w0 w : World) (R h F : PH) : Prop where
  dfr : a.defers = s.df.map (markOf ρ)
  tm : Tm ρ s.t a
  len : ρ.length = s.n
  kn : ∀ x ∈ s.kn, (x.1.den ρ).bool = x.2
  hp : (hden ρ s.h).p R h
  sat : Sat w R h F
  same : Same w0 w
theorem Tm.put {ρ : Env} {t : List (Option V)} {a : Act} (h : Tm ρ t a) (d : Tmp) (v : V) : Tm ρ (t.set d (some v)) (a.put (some d) (v.den ρ)) := by
  refine ⟨by simp [Act.put, h.1], fun i u hi => ?_⟩
  simp only [Act.put]
  by_cases e : d = i
  · subst e
    have hl : d < t.length := by
      rcases Nat.lt_or_ge d t.length with g | g
      · exact g
      · rw [List.set_eq_of_length_le g, List.getElem?_eq_none g] at hi; cases hi
    rw [List.getElem?_set_self hl] at hi
    simp only [Option.some.injEq] at hi
    subst hi
    rw [Array.getElem?_setIfInBounds_self_of_lt (by rw [h.1]; exact hl)]
  · rw [List.getElem?_set_ne e] at hi
    rw [Array.getElem?_setIfInBounds_ne e]
    exact h.2 i u hi
theorem Ok.put {ρ : Env} {s : S} {a : Act} {w0 w : World} {R h F : PH} (k : Ok ρ s a w0 w R h F) (d : Option Tmp) (v : V) : Ok ρ (s.put d v) (a.put d (v.den ρ)) w0 w R h F := by
  cases d with
  | none => exact k
  | some d => exact ⟨k.dfr, k.tm.put d v, k.len, k.kn, k.hp, k.sat, k.same⟩
theorem Tm.app {ρ : Env} {t : List (Option V)} {a : Act} (h : Tm ρ t a) (hb : (t.all fun | some v => v.bel ρ.length | none => true) = true) (x : Env) : Tm (ρ ++ x) t a :=
  ⟨h.1, fun i v hi => by rw [V.app (by have := List.all_eq_true.1 hb _ (List.mem_of_getElem? hi); exact this)]; exact h.2 i v hi⟩
theorem Ok.app {ρ : Env} {s : S} {a : Act} {w0 w : World} {R h F : PH} (k : Ok ρ s a w0 w R h F) (hb : s.bel = true) (x : Env) (n : Nat) (hn : n = s.n + x.length) : Ok (ρ ++ x) { s with n := n } a w0 w R h F := by
  simp only [S.bel, Bool.and_eq_true] at hb
  obtain ⟨⟨⟨h1, h2⟩, h4⟩, h3⟩ := hb
  rw [← k.len] at h1 h2 h3 h4
  refine ⟨?_, k.tm.app h1 x, by simp [k.len, hn], fun y hy => ?_, ?_, k.sat, k.same⟩
  · rw [k.dfr]
    exact List.map_congr_left fun r hr => by unfold markOf; rw [BR.app (List.all_eq_true.1 h4 r hr)]
  · rw [E.app (List.all_eq_true.1 h3 y hy)]; exact k.kn y hy
  · show (hden (ρ ++ x) s.h).p R h
    rw [hden_app h2]; exact k.hp

/-! ### operands -/
theorem ofVal1_den {v : Value} {x : A} (h : ofVal1 v = some x) (ρ : Env) : x.den ρ = v := by
  unfold ofVal1 at h
  split at h <;> first | (cases h; done) | (cases h; rfl)
theorem mapM'_eq {α β : Type} {f : α → Option β} : ∀ {l : List α} {m : List β}, mapM' f l = some m → l.map f = m.map some
  | [], m, h => by cases h; rfl
  | x :: r, m, h => by
    simp only [mapM'] at h
    split at h
    · rename_i y hy
      split at h
      · rename_i q hq; cases h; simp [hy, mapM'_eq hq]
      · cases h
    · cases h
theorem ofVals_den {l : List Value} {m : List A} (h : mapM' ofVal1 l = some m) (ρ : Env) : m.map (A.den ρ) = l := by
  induction l generalizing m with
  | nil => cases h; rfl
  | cons x r ih =>
    simp only [mapM'] at h
    split at h
    · rename_i y hy
      split at h
      · rename_i q hq; cases h; simp [ofVal1_den hy, ih hq]
      · cases h
    · cases h
theorem ofVal_den {v : Value} {x : W} (h : ofVal v = some x) (ρ : Env) : x.den ρ = v := by
  unfold ofVal at h
  split at h
  · rename_i cs
    simp only [Option.map_eq_some_iff] at h
    obtain ⟨m, hm, rfl⟩ := h
    simp only [W.den]
    rw [ofVals_den hm]
  · simp only [Option.map_eq_some_iff] at h
    obtain ⟨m, hm, rfl⟩ := h
    exact ofVal1_den hm ρ
theorem ev_den {ρ : Env} {s : S} {a : Act} (h : Tm ρ s.t a) {x : Operand} {v : V} (e : ev s x = some v) : a.eval x = v.den ρ := by
  cases x with
  | tmp t =>
    simp only [ev] at e
    split at e
    · rename_i o ho
      subst e
      have := h.2 t v (by assumption)
      simp [Act.eval, this]
    · cases e
  | const c =>
    simp only [ev, Option.map_eq_some_iff] at e
    obtain ⟨w, hw, rfl⟩ := e
    exact (ofVal_den hw ρ).symm
  | global g => simp only [ev, Option.some.injEq] at e; subst e; rfl
  | func f => simp only [ev, Option.some.injEq] at e; subst e; rfl
theorem evA_den {ρ : Env} {s : S} {a : Act} (h : Tm ρ s.t a) {x : Operand} {v : A} (e : evA s x = some v) : a.eval x = v.den ρ := by
  unfold evA at e
  split at e
  · rename_i y hy; cases e; exact ev_den h hy
  · cases e
theorem evW_den {ρ : Env} {s : S} {a : Act} (h : Tm ρ s.t a) {x : Operand} {v : W} (e : evW s x = some v) : a.eval x = v.den ρ := by
  unfold evW at e
  split at e
  · rename_i y hy; cases e; exact ev_den h hy
  · cases e
theorem knowsL_den {ρ : Env} {l : List (E × Bool)} (h : ∀ x ∈ l, (x.1.den ρ).bool = x.2) {e : E} {b : Bool} (k : knowsL l e = some b) : (e.den ρ).bool = b := by
  induction l with
  | nil => cases k
  | cons x r ih =>
    have hx : (x.1.den ρ).bool = x.2 := h x (List.mem_cons_self ..)
    obtain ⟨y, c⟩ := x
    simp only at hx
    simp only [knowsL] at k
    split at k
    · rename_i he; cases k; subst he; exact hx
    · split at k
      · rename_i he
        cases k
        subst he
        simp only [E.den, F1.app, Uni.bool] at hx
        simp only [← hx, Bool.not_not]
        rfl
      · split at k
        · rename_i he
          cases k
          subst he
          simp only [E.den, F1.app, Uni.bool]
          simp only [← hx]
          rfl
        · exact ih (fun z hz => h z (List.mem_cons_of_mem _ hz)) k
theorem knows_den {ρ : Env} {l : List (E × Bool)} (h : ∀ x ∈ l, (x.1.den ρ).bool = x.2) {e : E} {b : Bool} (k : knows l e = some b) : (e.den ρ).bool = b := by
  unfold knows at k
  split at k
  · rename_i c hc
    cases k
    cases e <;> simp only [isLit] at hc <;> first | (cases hc; done) | (cases hc; rfl)
  · exact knowsL_den h k
theorem noT_den (ρ : Env) (e : E) : ((noT e).den ρ).bool = !(e.den ρ).bool := by cases e <;> simp [noT, E.den, F1.app, Uni.bool]
end Go.Proofs.Ytmibmjehjagmbaa.RX
