/- Parts of what is owned, told in another order. No condition. -/
import Derived.Test.YtmibmjehjagmbaaSep
namespace Go.Proofs.Ytmibmjehjagmbaa

/-- Parts, side by side. -/
def sepN : List HP → HP
  | [] => HP.tt
  | [x] => x
  | x :: y :: r => HP.sep x (sepN (y :: r))
theorem sepN_cons {x : HP} {r : List HP} {R h : PH} : (sepN (x :: r)).p R h ↔ (HP.sep x (sepN r)).p R h := by
  cases r with
  | nil => exact ⟨fun H => HP.sep_tt H, fun H => HP.sep_left H⟩
  | cons y q => exact Iff.rfl
theorem sepN_perm {l m : List HP} (p : l.Perm m) : ∀ {R h : PH}, (sepN l).p R h → (sepN m).p R h := by
  induction p with
  | nil => exact fun H => H
  | cons x _ ih => exact fun H => sepN_cons.2 (HP.sep_mono (sepN_cons.1 H) (fun _ h => h) fun _ h => ih h)
  | swap x y r =>
    exact fun H => sepN_cons.2 (HP.sep_mono (HP.swap (HP.sep_mono (sepN_cons.1 H) (fun _ h => h) fun _ h => sepN_cons.1 h)) (fun _ h => h) fun _ h => sepN_cons.2 h)
  | trans _ _ ih1 ih2 => exact fun H => ih2 (ih1 H)
theorem sepN_sub (f : Nat → HP) : ∀ (S' S : List Nat) {R h : PH}, S'.Nodup → (∀ i ∈ S', i ∈ S) → (sepN (S.map f)).p R h → (sepN (S'.map f)).p R h
  | [], _, _, _, _, _, _ => trivial
  | i :: r, S, R, h, hn, hs, H => by
    have hp : (S.map f).Perm (f i :: (S.erase i).map f) := ((List.perm_cons_erase (hs i (List.mem_cons_self ..))).map f)
    have H1 := sepN_cons.1 (sepN_perm hp H)
    rw [List.nodup_cons] at hn
    exact sepN_cons.2 (HP.sep_mono H1 (fun _ h => h) fun _ h => sepN_sub f r (S.erase i) hn.2 (fun j hj => (List.mem_erase_of_ne (fun e => hn.1 (by rw [← e]; exact hj))).2 (hs j (List.mem_cons_of_mem _ hj))) h)
/-- Some of the parts, in an order of one's own. -/
theorem HP.pick (l : List HP) (idx : List Nat) (hn : idx.Nodup) (hb : idx.all (fun i => decide (i < l.length)) = true) {R h : PH} (H : (sepN l).p R h) : (sepN (idx.map fun i => l.getD i HP.tt)).p R h := by
  refine sepN_sub (fun i => l.getD i HP.tt) idx (List.range l.length) hn (fun i hi => List.mem_range.2 (by simpa using List.all_eq_true.1 hb i hi)) ?_
  have e : (List.range l.length).map (fun i => l.getD i HP.tt) = l := by
    apply List.ext_getElem
    · simp
    · intro i h1 h2
      simp at h1
      simp [h1]
  rw [e]; exact H
theorem sepN_app {l m : List HP} {R h : PH} : (sepN (l ++ m)).p R h ↔ (HP.sep (sepN l) (sepN m)).p R h := by
  induction l generalizing h with
  | nil => exact ⟨fun H => HP.tt_sep H, fun H => HP.sep_right H⟩
  | cons x r ih =>
    rw [List.cons_append, sepN_cons]
    constructor
    · intro H
      exact HP.sep_mono (HP.sep_assoc' (HP.sep_mono H (fun _ h => h) fun _ h => ih.1 h)) (fun _ h => sepN_cons.2 h) fun _ h => h
    · intro H
      exact HP.sep_mono (HP.sep_assoc (HP.sep_mono H (fun _ h => sepN_cons.1 h) fun _ h => h)) (fun _ h => h) fun _ h => ih.2 h
end Go.Proofs.Ytmibmjehjagmbaa
