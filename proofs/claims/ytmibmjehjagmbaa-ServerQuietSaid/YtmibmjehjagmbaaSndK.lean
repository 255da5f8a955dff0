/- A run's tree, shown, is a contract of the function. No condition. -/
import Derived.Test.YtmibmjehjagmbaaSndJ
namespace Go.Proofs.Ytmibmjehjagmbaa.RX
open Go.Proofs.Ytmibmjehjagmbaa

/-- A loop by a relation that a measure numbers. -/
theorem wp_loop_num {P : Program} {Q : Exit → Act → World → Prop} {c : Code} (I : Nat → Act → World → Prop)
    (round : ∀ n a w, I n a w → c.wp P (Exit.then (fun a' w' => ∃ m, m < n ∧ I m a' w') Q) a w) : ∀ n a w, I n a w → (Code.loop c).wp P Q a w := by
  intro n₀ a₀ w₀ h₀ b k cs
  have key : ∀ n a w, I n a w → ∃ e a' w', Q e a' w' ∧ Arrives P (lone (b.at a (.code c :: .inLoop c :: k)) cs w) b k cs e a' w' := by
    intro n
    induction n using Nat.strongRecOn with
    | _ n ih =>
      intro a w hI
      obtain ⟨e, a₁, w₁, hq, harr⟩ := round n a w hI b (.inLoop c :: k) cs
      cases e with
      | normal =>
        obtain ⟨m, hm, hI₁⟩ := hq
        obtain ⟨e₂, a₂, w₂, hq₂, harr₂⟩ := ih m hm a₁ w₁ hI₁
        exact ⟨e₂, a₂, w₂, hq₂, .of_steps (Steps.trans harr (.one step_inLoop)) harr₂⟩
      | exit id => exact ⟨_, a₁, w₁, hq, .pass (x := .inLoop c) rfl (fun _ _ => .inl (by simp)) harr⟩
      | goto l => exact ⟨_, a₁, w₁, hq, .pass (x := .inLoop c) rfl (fun _ _ => .inl (by simp)) harr⟩
      | ret => exact ⟨_, a₁, w₁, hq, .pass (x := .inLoop c) rfl (fun _ _ => .inl (by simp)) harr⟩
      | panic ch => exact ⟨_, a₁, w₁, hq, .pass (x := .inLoop c) rfl (fun _ _ => .inl (by simp)) harr⟩
      | outgrown => exact ⟨_, a₁, w₁, hq, .pass (x := .inLoop c) rfl (fun _ _ => .inl (by simp)) harr⟩
  obtain ⟨e, a', w', hq, harr⟩ := key n₀ a₀ w₀ h₀
  exact ⟨e, a', w', hq, .of_steps (.one step_loop) harr⟩

section
variable {P : Program} {post : Value → HP} {w0 w : World} {F R h : PH} {ρ : Env} {L : List (Env → Prop)} {s : S} {a : Act} {cfg : Cfg}

/-! ### the head of a loop, at another state -/
theorem oneC_self {v : Value} (h : v.oneCell' = true) : oneC v = v := by cases v <;> first | rfl | cases h
theorem okA_den {base : Nat} {fr : List FV} {x y : A} (h : okA base fr x y = true) {ρ ρ2 : Env} (hl : ρ.length = base) (hp : ρ <+: ρ2) : x.den (ρ ++ fr.map (FV.den ρ2)) = y.den ρ2 := by
  obtain ⟨z, rfl⟩ := hp
  have hf : ∀ {j : Nat} {f : FV}, base ≤ j → fr[j - base]? = some f → look (ρ ++ fr.map (FV.den (ρ ++ z))) j = f.den (ρ ++ z) := by
    intro j f hj hf
    have : ∀ (r : Env) (q : List FV) (i : Nat), q[i]? = some f → look (r ++ q.map (FV.den (ρ ++ z))) (r.length + i) = f.den (ρ ++ z) := by
      intro r
      induction r with
      | nil =>
        intro q
        induction q with
        | nil => intro i hi; cases hi
        | cons u v ih => intro i hi; cases i with
          | zero => simp only [List.getElem?_cons_zero, Option.some.injEq] at hi; subst hi; rfl
          | succ i => simp only [List.length_nil, Nat.zero_add, List.nil_append, List.map_cons, look] at ih ⊢; exact ih i (by simpa using hi)
      | cons u v ih =>
        intro q i hi
        simp only [List.length_cons, List.cons_append]
        rw [show v.length + 1 + i = (v.length + i) + 1 by omega]
        exact ih q i hi
    have := this ρ fr (j - base) hf
    rwa [hl, show base + (j - base) = j by omega] at this
  unfold okA at h
  simp only [Bool.or_eq_true, Bool.and_eq_true, decide_eq_true_eq] at h
  rcases h with ⟨rfl, hb⟩ | h
  · rw [← hl] at hb
    rw [A.app hb, A.app hb]
  · split at h <;> first | (cases h; done) | simp only [Bool.and_eq_true, decide_eq_true_eq] at h
    · obtain ⟨⟨h1, rfl⟩, h3⟩ := h
      simp only [A.den, E.den, hf h1 h3, FV.den, F1.app, Uni.int_i, Int.neg_neg]
    · obtain ⟨h1, h3⟩ := h
      simp only [A.den, E.den, hf h1 h3, FV.den, F1.app, Uni.bool_c, Bool.not_not]
    · obtain ⟨h1, h3⟩ := h
      simp only [A.den, E.den, hf h1 h3, FV.den, F2.app, Uni.str_s, List.append_nil]
    · obtain ⟨⟨h1, rfl⟩, h3⟩ := h
      simp only [A.den, BR.den, hf h1 h3, FV.den, Uni.nat_n]
    · obtain ⟨⟨⟨⟨⟨h1, h2⟩, h3⟩, h4⟩, h5⟩, h6⟩ := h
      simp only [A.den, SA.den, E.den, hf h1 h4, hf h2 h5, hf h3 h6, FV.den, F2.app, Uni.adr_a, Uni.nat_n, Nat.add_zero]
    · obtain ⟨h1, h3⟩ := h
      simp only [A.den, BR.den, hf h1 h3, FV.den, Uni.nat_n]
    · obtain ⟨h1, h3⟩ := h
      show oneC (look _ _).val = _
      rw [hf h1 h3]
      exact oneC_self (A.one _ _)
theorem okAs_den {base : Nat} {fr : List FV} : ∀ {x y : List A}, okAs base fr x y = true → ∀ {ρ ρ2 : Env}, ρ.length = base → ρ <+: ρ2 → x.map (A.den (ρ ++ fr.map (FV.den ρ2))) = y.map (A.den ρ2)
  | [], [], _, _, _, _, _ => rfl
  | x :: r, y :: q, h, ρ, ρ2, hl, hp => by
    simp only [okAs, Bool.and_eq_true] at h
    simp only [List.map_cons, okA_den h.1 hl hp, okAs_den h.2 hl hp]
  | [], _ :: _, h, _, _, _, _ => by cases h
  | _ :: _, [], h, _, _, _, _ => by cases h
theorem okW_den {base : Nat} {fr : List FV} {x y : W} (h : okW base fr x y = true) {ρ ρ2 : Env} (hl : ρ.length = base) (hp : ρ <+: ρ2) : x.den (ρ ++ fr.map (FV.den ρ2)) = y.den ρ2 := by
  cases x <;> cases y <;> simp only [okW] at h <;> first | (cases h; done) | skip
  · exact okA_den h hl hp
  · simp only [W.den, okAs_den h hl hp]
theorem okT_len {base : Nat} {fr : List FV} : ∀ {x y : List (Option V)}, okT base fr x y = true → x.length = y.length
  | [], [], _ => rfl
  | none :: r, y :: q, h => by simp only [okT] at h; simp [okT_len h]
  | some (.w x) :: r, some (.w y) :: q, h => by simp only [okT, Bool.and_eq_true] at h; simp [okT_len h.2]
  | some (.tup x) :: r, some (.tup y) :: q, h => by simp only [okT, Bool.and_eq_true] at h; simp [okT_len h.2]
  | [], _ :: _, h => by simp [okT] at h
  | some (.w _) :: _, [], h => by simp [okT] at h
  | some (.tup _) :: _, [], h => by simp [okT] at h
  | none :: _, [], h => by simp [okT] at h
  | some (.w _) :: _, none :: _, h => by simp [okT] at h
  | some (.tup _) :: _, none :: _, h => by simp [okT] at h
  | some (.w _) :: _, some (.tup _) :: _, h => by simp [okT] at h
  | some (.tup _) :: _, some (.w _) :: _, h => by simp [okT] at h
theorem okT_den {base : Nat} {fr : List FV} : ∀ {x y : List (Option V)}, okT base fr x y = true → ∀ {ρ ρ2 : Env}, ρ.length = base → ρ <+: ρ2 → ∀ (i : Nat) (v : V), x[i]? = some (some v) → ∃ u, y[i]? = some (some u) ∧ v.den (ρ ++ fr.map (FV.den ρ2)) = u.den ρ2
  | [], _, _, _, _, _, _, i, v, hi => by simp at hi
  | x :: r, [], h, _, _, _, _, _, _, _ => by have := okT_len h; simp at this
  | x :: r, y :: q, h, ρ, ρ2, hl, hp, 0, v, hi => by
    simp only [List.getElem?_cons_zero, Option.some.injEq] at hi
    subst hi
    cases y with
    | none => cases v <;> simp [okT] at h
    | some u =>
      refine ⟨u, rfl, ?_⟩
      cases v <;> cases u <;> simp only [okT, Bool.and_eq_true, decide_eq_true_eq] at h <;> first | (cases h; done) | skip
      · exact okW_den h.1 hl hp
      · obtain ⟨⟨rfl, hb⟩, hrest⟩ := h
        obtain ⟨z, rfl⟩ := hp
        rename_i q0
        have hb' : V.bel ρ.length (.tup q0) = true := by rw [hl]; exact hb
        rw [V.app hb', V.app hb']
  | x :: r, y :: q, h, ρ, ρ2, hl, hp, i + 1, v, hi => by
    simp only [List.getElem?_cons_succ] at hi ⊢
    have h' : okT base fr r q = true := by
      cases x with
      | none => simpa [okT] using h
      | some x =>
        cases y with
        | none => cases x <;> simp [okT] at h
        | some y => cases x <;> cases y <;> simp only [okT, Bool.and_eq_true] at h <;> first | (cases h; done) | exact h.2
    exact okT_den h' hl hp i v hi
theorem look_fr {ρ ρ2 : Env} {base : Nat} (hl : ρ.length = base) {fr : List FV} {j : Nat} {f : FV} (hj : base ≤ j) (hf : fr[j - base]? = some f) : look (ρ ++ fr.map (FV.den ρ2)) j = f.den ρ2 := by
  have : ∀ (r : Env) (q : List FV) (i : Nat), q[i]? = some f → look (r ++ q.map (FV.den ρ2)) (r.length + i) = f.den ρ2 := by
    intro r
    induction r with
    | nil =>
      intro q
      induction q with
      | nil => intro i hi; cases hi
      | cons u v ih => intro i hi; cases i with
        | zero => simp only [List.getElem?_cons_zero, Option.some.injEq] at hi; subst hi; rfl
        | succ i => simp only [List.length_nil, Nat.zero_add, List.nil_append, List.map_cons, look] at ih ⊢; exact ih i (by simpa using hi)
    | cons u v ih =>
      intro q i hi
      simp only [List.length_cons, List.cons_append]
      rw [show v.length + 1 + i = (v.length + i) + 1 by omega]
      exact ih q i hi
  have := this ρ fr (j - base) hf
  rwa [hl, show base + (j - base) = j by omega] at this
/-- The head's heap is what it is made of. -/
theorem partsH_den {base : Nat} {fr : List FV} {h0 : Hp} : ∀ {m l : Hp}, partsH base fr h0 m = some l → ∀ {ρ ρ2 : Env}, ρ.length = base → ρ <+: ρ2 → ∀ {R h : PH}, (hden ρ2 l).p R h → (hden (ρ ++ fr.map (FV.den ρ2)) m).p R h
  | [], l, _, _, _, _, _, _, _, _ => trivial
  | (k, c) :: r, l, e, ρ, ρ2, hl, hp, R, h, H => by
    simp only [partsH] at e
    split at e
    · cases e
    · rename_i q hq
      have ih : ∀ {x : PH}, (hden ρ2 q).p R x → (hden (ρ ++ fr.map (FV.den ρ2)) r).p R x := fun hx => partsH_den hq hl hp hx
      have same : ∀ x : Key × C, (x.1.bel base && x.2.bel base) = true → cden (ρ ++ fr.map (FV.den ρ2)) x = cden ρ2 x := fun x hb => by
        obtain ⟨z, rfl⟩ := hp
        rw [← hl] at hb
        rw [cden_app hb, cden_app hb]
      split at e
      · rename_i x ty
        split at e
        · rename_i y hy
          cases e
          have hs := List.find?_some hy
          simp only [Bool.and_eq_true] at hs
          obtain ⟨⟨hB, hk⟩, hc⟩ := hs
          have H1 := (hden_cons ρ2 y q R h).1 H
          refine (hden_cons _ _ _ _ _).2 (HP.sep_mono H1 (fun _ hh => ?_) fun _ hh => ih hh)
          obtain ⟨yk, yc⟩ := y
          cases yc with
          | cells z ty' =>
            simp only [Bool.and_eq_true, decide_eq_true_eq] at hc
            obtain ⟨hz, rfl⟩ := hc
            cases k with
            | a j => cases hB
            | b rr =>
              cases yk with
              | a j => cases rr <;> simp [okK] at hk
              | b rr' =>
                simp only [cden] at hh ⊢
                rw [okAs_den hz hl hp]
                have : rr.den (ρ ++ fr.map (FV.den ρ2)) = rr'.den ρ2 := by
                  cases rr with
                  | g n => simp only [okK, decide_eq_true_eq] at hk; subst hk; rfl
                  | v j =>
                    simp only [okK] at hk
                    split at hk
                    · rename_i hj
                      have hk' : fr[j - base]? = some (.n rr') := by simpa using hk
                      simp only [BR.den, look_fr hl hj hk', FV.den, Uni.nat_n]
                    · rename_i hj
                      have hk' : rr' = .v j := by simpa using hk
                      subst hk'
                      obtain ⟨z', rfl⟩ := hp
                      have hb : BR.bel ρ.length (.v j) = true := by simp [BR.bel]; omega
                      rw [BR.app hb, BR.app hb]
                rw [this]; exact hh
          | emap => simp at hc
          | dfr => simp at hc
          | prop j => simp at hc
        · cases e
      · split at e
        · rename_i hc
          cases e
          simp only [Bool.and_eq_true] at hc
          have H1 := (hden_cons ρ2 _ q R h).1 H
          refine (hden_cons _ _ _ _ _).2 (HP.sep_mono H1 (fun _ hh => ?_) fun _ hh => ih hh)
          rw [same _ (by simp [hc.1, C.bel])]; exact hh
        · cases e
      · split at e
        · rename_i hc
          cases e
          simp only [Bool.and_eq_true] at hc
          have H1 := (hden_cons ρ2 _ q R h).1 H
          refine (hden_cons _ _ _ _ _).2 (HP.sep_mono H1 (fun _ hh => ?_) fun _ hh => ih hh)
          rw [same _ (by simp [hc.1, C.bel])]; exact hh
        · cases e
      · rename_i j
        split at e
        · rename_i hj
          split at e
          · rename_i f q' hf
            cases e
            have H1 := hden_app2.1 H
            refine (hden_cons _ _ _ _ _).2 (HP.sep_mono H1 (fun _ hh => ?_) fun _ hh => ih hh)
            have : cden (ρ ++ fr.map (FV.den ρ2)) (k, .prop j) = hden ρ2 q' := by
              cases k <;> simp only [cden, look_fr hl hj hf, FV.den, Uni.hp_p]
            rw [this]; exact hh
          · cases e
        · rename_i hj
          split at e
          · rename_i hc
            cases e
            simp only [Bool.and_eq_true] at hc
            have H1 := (hden_cons ρ2 _ q R h).1 H
            refine (hden_cons _ _ _ _ _).2 (HP.sep_mono H1 (fun _ hh => ?_) fun _ hh => ih hh)
            rw [same _ (by simp [hc.1, C.bel]; omega)]; exact hh
          · cases e
/-- At the head of a loop: what is new stands for what is there. -/
theorem okS_ok {hd : S} {ss : List So} {fr : List FV} {ρ ρ2 : Env} {s : S} {base : Nat} (hl : ρ.length = base) (c : okS base ss hd s fr = true) (hp : ρ <+: ρ2) (ok : Ok ρ2 s a w0 w R h F) (hkn : ∀ x ∈ hd.kn, (x.1.den ρ).bool = x.2) : Ok (ρ ++ fr.map (FV.den ρ2)) hd a w0 w R h F := by
  subst hl
  simp only [okS, Bool.and_eq_true, decide_eq_true_eq] at c
  obtain ⟨⟨⟨⟨⟨⟨c1, c2⟩, c3⟩, c4⟩, c5⟩, c6⟩, c7, c8⟩ := c
  refine ⟨?_, ⟨by rw [ok.tm.1, okT_len c1], fun i v hi => ?_⟩, by simp [c4, c5], fun x hx => ?_, ?_, ok.sat, ok.same⟩
  · rw [ok.dfr, ← c7]
    obtain ⟨z, rfl⟩ := hp
    exact List.map_congr_left fun r hr => by unfold markOf; rw [BR.app (List.all_eq_true.1 c8 r hr), BR.app (List.all_eq_true.1 c8 r hr)]
  · obtain ⟨u, hu, he⟩ := okT_den c1 rfl hp i v hi
    rw [he]
    exact ok.tm.2 i u hu
  · rw [E.app (List.all_eq_true.1 c6 x hx)]; exact hkn x hx
  · split at c2
    · rename_i l hl
      simp only [Bool.and_eq_true] at c2
      exact partsH_den hl rfl hp (hden_sub c2.1 (fun x hx => by simpa using List.all_eq_true.1 c2.2 x hx) ok.hp)
    · cases c2
/-- The sorts of what stands for what is new. -/
def sorted : List So → Env → Prop
  | [], [] => True
  | .n :: r, .n _ :: x => sorted r x
  | .i :: r, .i _ :: x => sorted r x
  | .c :: r, .c _ :: x => sorted r x
  | .s :: r, .s _ :: x => sorted r x
  | .a :: r, .a _ :: x => sorted r x
  | .v :: r, .v _ :: x => sorted r x
  | .p :: r, .p _ :: x => sorted r x
  | _, _ => False
theorem allP_elim : ∀ {ss : List So} {ρ : Env} {f : Env → Prop} {xs : Env}, allP ss ρ f → sorted ss xs → f (ρ ++ xs)
  | [], ρ, f, [], h, _ => by simpa [allP] using h
  | [], _, _, _ :: _, _, hs => by simp [sorted] at hs
  | t :: r, ρ, f, [], _, hs => by cases t <;> simp [sorted] at hs
  | .n :: r, ρ, f, .n x :: xs, h, hs | .i :: r, ρ, f, .i x :: xs, h, hs | .c :: r, ρ, f, .c x :: xs, h, hs | .s :: r, ρ, f, .s x :: xs, h, hs | .a :: r, ρ, f, .a x :: xs, h, hs | .v :: r, ρ, f, .v x :: xs, h, hs | .p :: r, ρ, f, .p x :: xs, h, hs => by
    have := allP_elim (h x) hs
    simpa using this
  | .n :: _, _, _, .i _ :: _, _, hs | .n :: _, _, _, .c _ :: _, _, hs | .n :: _, _, _, .s _ :: _, _, hs | .n :: _, _, _, .a _ :: _, _, hs | .n :: _, _, _, .v _ :: _, _, hs | .n :: _, _, _, .p _ :: _, _, hs
  | .i :: _, _, _, .n _ :: _, _, hs | .i :: _, _, _, .c _ :: _, _, hs | .i :: _, _, _, .s _ :: _, _, hs | .i :: _, _, _, .a _ :: _, _, hs | .i :: _, _, _, .v _ :: _, _, hs | .i :: _, _, _, .p _ :: _, _, hs
  | .c :: _, _, _, .n _ :: _, _, hs | .c :: _, _, _, .i _ :: _, _, hs | .c :: _, _, _, .s _ :: _, _, hs | .c :: _, _, _, .a _ :: _, _, hs | .c :: _, _, _, .v _ :: _, _, hs | .c :: _, _, _, .p _ :: _, _, hs
  | .s :: _, _, _, .n _ :: _, _, hs | .s :: _, _, _, .i _ :: _, _, hs | .s :: _, _, _, .c _ :: _, _, hs | .s :: _, _, _, .a _ :: _, _, hs | .s :: _, _, _, .v _ :: _, _, hs | .s :: _, _, _, .p _ :: _, _, hs
  | .a :: _, _, _, .n _ :: _, _, hs | .a :: _, _, _, .i _ :: _, _, hs | .a :: _, _, _, .c _ :: _, _, hs | .a :: _, _, _, .s _ :: _, _, hs | .a :: _, _, _, .v _ :: _, _, hs | .a :: _, _, _, .p _ :: _, _, hs
  | .v :: _, _, _, .n _ :: _, _, hs | .v :: _, _, _, .i _ :: _, _, hs | .v :: _, _, _, .c _ :: _, _, hs | .v :: _, _, _, .s _ :: _, _, hs | .v :: _, _, _, .a _ :: _, _, hs | .v :: _, _, _, .p _ :: _, _, hs
  | .p :: _, _, _, .n _ :: _, _, hs | .p :: _, _, _, .i _ :: _, _, hs | .p :: _, _, _, .c _ :: _, _, hs | .p :: _, _, _, .s _ :: _, _, hs | .p :: _, _, _, .a _ :: _, _, hs | .p :: _, _, _, .v _ :: _, _, hs => by simp [sorted] at hs
theorem so_one {ρ : Env} (f : FV) {ss : List So} {xs : Env} (h : (FV.so f).length = 1) (hs : sorted ss xs) : sorted (FV.so f ++ ss) (f.den ρ :: xs) := by
  unfold FV.so at h ⊢
  split at h <;> simp at h <;> simpa [FV.den, E.den, F1.app, F2.app, sorted] using hs
theorem fr_sorted (ρ : Env) : ∀ {fr : List FV} {ss : List So}, fr.flatMap FV.so = ss → fr.length = ss.length → sorted ss (fr.map (FV.den ρ))
  | [], ss, h, _ => by simp at h; subst h; trivial
  | f :: r, ss, h, hl => by
    have hlen : ∀ q : List FV, (q.flatMap FV.so).length ≤ q.length := fun q => by
      induction q with
      | nil => simp
      | cons g t ih =>
        simp only [List.flatMap_cons, List.length_append, List.length_cons]
        have : (FV.so g).length ≤ 1 := by unfold FV.so; split <;> simp
        omega
    have h1 : (FV.so f).length = 1 := by
      have := hlen r
      subst h
      simp only [List.flatMap_cons, List.length_append, List.length_cons] at hl
      have : (FV.so f).length ≤ 1 := by unfold FV.so; split <;> simp
      omega
    subst h
    have hr : r.length = (r.flatMap FV.so).length := by
      simp only [List.flatMap_cons, List.length_append, List.length_cons] at hl
      omega
    have ih := fr_sorted ρ (fr := r) rfl hr
    simp only [List.flatMap_cons, List.map_cons]
    exact so_one f h1 ih
end
end Go.Proofs.Ytmibmjehjagmbaa.RX
