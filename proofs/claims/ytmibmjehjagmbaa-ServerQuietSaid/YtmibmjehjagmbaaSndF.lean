/- A run's steps mean what they say: new blocks, calls, what is asked ahead. No condition. -/
import Derived.Test.YtmibmjehjagmbaaSndE
namespace Go.Proofs.Ytmibmjehjagmbaa
open Go.Proofs.Ytmibmjehjagmbaa

theorem PH.own.lt {h : PH} {w : World} (o : h.own w) {k : Nat} {x : Obj} (e : h k = some x) : k < w.heap.size := by
  have := o k x e
  rcases Nat.lt_or_ge k w.heap.size with g | g
  · exact g
  · rw [Array.getElem?_eq_none g] at this; cases this
theorem PH.own.free {h : PH} {w : World} (o : h.own w) : h w.heap.size = Option.none := by
  cases e : h w.heap.size with
  | none => rfl
  | some x => exact absurd (o.lt e) (Nat.lt_irrefl _)
theorem PH.own.alloc {h : PH} {w : World} (o : h.own w) (x : Obj) : h.own (w.alloc x) := fun k y e => by
  have := o.lt e
  show (w.heap.push x)[k]? = some y
  rw [Array.getElem?_push, if_neg (by omega)]
  exact o k y e
theorem Sat.alloc {w : World} {R h F : PH} (s : Sat w R h F) (x : Obj) : Sat (w.alloc x) R ((PH.one w.heap.size x).un h) F ∧ (PH.one w.heap.size x).dj h := by
  have dn : ∀ g : PH, g.own w → (PH.one w.heap.size x).dj g := fun g o k => by
    by_cases e : k = w.heap.size
    · subst e; exact .inr o.free
    · exact .inl (if_neg e)
  refine ⟨⟨(PH.dj_un (dn R s.oR) s.dRh.symm).symm, s.dRF, PH.dj_un (dn F s.oF) s.dhF, s.oR.alloc x, fun k y e => ?_, s.oF.alloc x⟩, dn h s.oh⟩
  rcases PH.un_some e with e | e
  · obtain ⟨rfl, rfl⟩ := PH.one_some e
    show (w.heap.push _)[w.heap.size]? = _
    rw [Array.getElem?_push, if_pos rfl]
  · exact s.oh.alloc x k y e
theorem Same.alloc (w : World) (x : Obj) : Same w (w.alloc x) := ⟨rfl, rfl, rfl, by rw [World.size_alloc]; omega⟩
/-- One block of what is owned turns. -/
theorem Sat.turn {w w' : World} {R h F : PH} (s : Sat w R h F) {b : Nat} {x y : Obj} (hb : h b = some x) (hw : ∀ k, k ≠ b → w'.heap[k]? = w.heap[k]?) (hy : w'.heap[b]? = some y) : Sat w' R (fun k => if k = b then some y else h k) F := by
  have hR : R b = none := (s.dRh b).resolve_right (by rw [hb]; simp)
  have hF : F b = none := (s.dhF b).resolve_left (by rw [hb]; simp)
  refine ⟨fun k => ?_, s.dRF, fun k => ?_, fun k o e => ?_, fun k o e => ?_, fun k o e => ?_⟩
  · by_cases e : k = b
    · subst e; exact .inl hR
    · simp only [e, if_false]; exact s.dRh k
  · by_cases e : k = b
    · subst e; exact .inr hF
    · simp only [e, if_false]; exact s.dhF k
  · rw [hw k (fun e' => by subst e'; rw [hR] at e; cases e)]; exact s.oR k o e
  · by_cases e' : k = b
    · subst e'; simp only [if_true] at e; rw [hy]; exact e
    · simp only [e', if_false] at e; rw [hw k e']; exact s.oh k o e
  · rw [hw k (fun e' => by subst e'; rw [hF] at e; cases e)]; exact s.oF k o e
theorem Sat.drew {w : World} {R h F : PH} (s : Sat w R h F) (n : Nat) : Sat { w with drawn := n } R h F := ⟨s.dRh, s.dRF, s.dhF, s.oR, s.oh, s.oF⟩
theorem Same.drew (w : World) (n : Nat) : Same w { w with drawn := n } := ⟨rfl, rfl, rfl, Nat.le_refl _⟩

namespace RX
/-- What stays through a walk. -/
structure Ctx where
  P : Program
  post : Value → HP
  w0 : World
  F : PH
  ρ : Env
  R : PH
  L : List (Env → Prop)
def Nx (c : Ctx) (K : S → T) (a : Act) (w : World) : Prop :=
  ∃ ρ s R h L, c.ρ <+: ρ ∧ c.R.le R ∧ c.L <:+ L ∧ L.length = s.dp ∧ Ok ρ s a c.w0 w R h c.F ∧ (K s).den c.P c.post L ρ
theorem Nx.mk {P : Program} {post : Value → HP} {w0 w : World} {F R h : PH} {ρ : Env} {L : List (Env → Prop)} {K : S → T} {s : S} {a : Act} (ok : Ok ρ s a w0 w R h F) (hl : L.length = s.dp) (hd : (K s).den P post L ρ) :
    Nx ⟨P, post, w0, F, ρ, R, L⟩ K a w := ⟨ρ, s, R, h, L, List.prefix_refl _, PH.le.refl _, List.suffix_refl _, hl, ok, hd⟩
theorem Nx.mono {c c' : Ctx} {K K' : S → T} {a : Act} {w : World} (n : Nx c' K' a w) (hP : c'.P = c.P) (hp : c'.post = c.post) (hw : c'.w0 = c.w0) (hF : c'.F = c.F) (hρ : c.ρ <+: c'.ρ) (hR : c.R.le c'.R) (hL : c.L <:+ c'.L)
    (hK : ∀ s, K' s = K s) : Nx c K a w := by
  obtain ⟨ρ, s, R, h, L, p1, p2, p3, p4, p5, p6⟩ := n
  rw [hK, hP, hp] at p6
  rw [hw, hF] at p5
  exact ⟨ρ, s, R, h, L, hρ.trans p1, hR.trans p2, hL.trans p3, p4, p5, p6⟩

section
variable {P : Program} {post : Value → HP} {w0 w : World} {F R h : PH} {ρ : Env} {L : List (Env → Prop)} {s : S} {a : Act}

theorem Ok.kn_add (ok : Ok ρ s a w0 w R h F) {e : E} {b : Bool} (hb : (e.den ρ).bool = b) : Ok ρ { s with kn := (e, b) :: s.kn } a w0 w R h F :=
  ⟨ok.dfr, ok.tm, ok.len, fun x hx => by cases hx with
    | head => exact hb
    | tail _ hx => exact ok.kn x hx, ok.hp, ok.sat, ok.same⟩
theorem needs_ok {es : List E} {K : S → T} (ok : Ok ρ s a w0 w R h F) (hd : (needs es K s).den P post L ρ) :
    ∃ kn, Ok ρ { s with kn := kn } a w0 w R h F ∧ (∀ e ∈ es, e.prop ρ) ∧ (K { s with kn := kn }).den P post L ρ := by
  induction es generalizing s with
  | nil => exact ⟨s.kn, ok, (fun e he => by cases he), hd⟩
  | cons e r ih =>
    simp only [needs] at hd
    split at hd
    · rename_i hk
      obtain ⟨kn, h1, h2, h3⟩ := ih ok hd
      exact ⟨kn, h1, fun x hx => by cases hx with
        | head => exact (E.prop_iff ρ e).2 (knows_den ok.kn hk)
        | tail _ hx => exact h2 x hx, h3⟩
    · split at hd
      · obtain ⟨he, hd⟩ := hd
        have hd := hd he
        obtain ⟨kn, h1, h2, h3⟩ := ih (ok.kn_add (prop_bool he)) hd
        exact ⟨kn, h1, fun x hx => by cases hx with
          | head => exact he
          | tail _ hx => exact h2 x hx, h3⟩
      · exact hd.elim
theorem brE_ok {e : E} {kt kf : S → T} (ok : Ok ρ s a w0 w R h F) (hd : (brE s e kt kf).den P post L ρ) :
    ∃ kn, Ok ρ { s with kn := kn } a w0 w R h F ∧ (((e.den ρ).bool = true ∧ (kt { s with kn := kn }).den P post L ρ) ∨ ((e.den ρ).bool = false ∧ (kf { s with kn := kn }).den P post L ρ)) := by
  unfold brE at hd
  split at hd
  · rename_i hk; exact ⟨s.kn, ok, .inl ⟨knows_den ok.kn hk, hd⟩⟩
  · rename_i hk; exact ⟨s.kn, ok, .inr ⟨knows_den ok.kn hk, hd⟩⟩
  · split at hd
    · obtain ⟨h1, h2⟩ := hd
      cases hb : (e.den ρ).bool with
      | true => exact ⟨_, ok.kn_add hb, .inl ⟨rfl, h1 ((E.prop_iff ρ e).2 hb)⟩⟩
      | false => exact ⟨_, ok.kn_add hb, .inr ⟨rfl, h2 (fun hp => by rw [(E.prop_iff ρ e).1 hp] at hb; cases hb)⟩⟩
    · exact hd.elim

/-- What is new of an assertion. -/
theorem exs_elim : ∀ {ss : List So} {ρ : Env} {f : Env → HP} {R h : PH}, (exs ss ρ f).p R h → ∃ xs : Env, xs.length = ss.length ∧ (f (ρ ++ xs)).p R h
  | [], ρ, f, R, h, H => ⟨[], rfl, by rw [List.append_nil]; exact H⟩
  | .n :: r, ρ, f, R, h, ⟨x, H⟩ | .i :: r, ρ, f, R, h, ⟨x, H⟩ | .c :: r, ρ, f, R, h, ⟨x, H⟩ | .s :: r, ρ, f, R, h, ⟨x, H⟩ | .a :: r, ρ, f, R, h, ⟨x, H⟩ | .v :: r, ρ, f, R, h, ⟨x, H⟩ | .p :: r, ρ, f, R, h, ⟨x, H⟩ => by
    obtain ⟨xs, hl, hx⟩ := exs_elim H
    exact ⟨_ :: xs, by simp [hl], by simpa using hx⟩
theorem exP_elim : ∀ {ss : List So} {ρ : Env} {f : Env → Prop}, exP ss ρ f → ∃ xs : Env, xs.length = ss.length ∧ f (ρ ++ xs)
  | [], ρ, f, H => ⟨[], rfl, by rw [List.append_nil]; exact H⟩
  | .n :: r, ρ, f, ⟨x, H⟩ | .i :: r, ρ, f, ⟨x, H⟩ | .c :: r, ρ, f, ⟨x, H⟩ | .s :: r, ρ, f, ⟨x, H⟩ | .a :: r, ρ, f, ⟨x, H⟩ | .v :: r, ρ, f, ⟨x, H⟩ | .p :: r, ρ, f, ⟨x, H⟩ => by
    obtain ⟨xs, hl, hx⟩ := exP_elim H
    exact ⟨_ :: xs, by simp [hl], by simpa using hx⟩

theorem oneC_one (v : Value) : (oneC v).oneCell' = true := by cases v <;> rfl
theorem A.one (ρ : Env) (x : A) : (x.den ρ).oneCell' = true := by
  cases x <;> first | rfl | exact oneC_one _
theorem cells_one {v : Value} (h : v.oneCell' = true) : v.cells = #[v] := by cases v <;> first | rfl | cases h
theorem A.cells (ρ : Env) (x : A) : (x.den ρ).cells = #[x.den ρ] := cells_one (A.one ρ x)
theorem W.cells (ρ : Env) (x : W) : (x.den ρ).cells = (x.list.map (A.den ρ)).toArray := by
  cases x with
  | a x => simp [W.den, W.list, A.cells]
  | agg l => simp [W.den, W.list, Value.cells]

/-- A new block. -/
theorem newB_ok {d : Option Tmp} {c : C} {v : BR → A} {K : S → T} (ok : Ok ρ s a w0 w R h F) (hl : L.length = s.dp) (hd : (newB s d c v K).den P post L ρ) (o : Obj)
    (hc : ∀ x : Nat, cden (ρ ++ [.n x]) (.b (.v s.n), c) = HP.one x o) (vv : Nat → Value) (hv : ∀ x : Nat, (v (.v s.n)).den (ρ ++ [.n x]) = vv x) :
    Nx ⟨P, post, w0, F, ρ, R, L⟩ K (a.put d (vv w.heap.size)) (w.alloc o) := by
  unfold newB at hd
  split at hd
  · rename_i hb
    simp only [Bool.and_eq_true] at hb
    have hd := hd w.heap.size
    obtain ⟨s1, d1⟩ := ok.sat.alloc o
    have k1 := ok.app hb.1 [.n w.heap.size] (s.n + 1) rfl
    refine ⟨ρ ++ [.n w.heap.size], _, R, (PH.one w.heap.size o).un h, L, List.prefix_append _ _, PH.le.refl _, List.suffix_refl _, ?_, ?_, hd⟩
    · cases d <;> exact hl
    · have k2 : Ok (ρ ++ [.n w.heap.size]) { s with n := s.n + 1, h := (.b (.v s.n), c) :: s.h } a w0 (w.alloc o) R ((PH.one w.heap.size o).un h) F :=
        ⟨k1.dfr, k1.tm, k1.len, k1.kn, (hden_cons _ _ _ _ _).2 ⟨_, _, d1, PH.un_left _ _, PH.un_right d1, by rw [hc]; exact PH.one_self _ _, k1.hp⟩, s1, ok.same.trans (Same.alloc w o)⟩
      have := k2.put d (.w (.a (v (.v s.n))))
      rw [show (V.w (.a (v (.v s.n)))).den (ρ ++ [.n w.heap.size]) = vv w.heap.size from hv _] at this
      exact this
  · exact hd.elim
end
end RX
end Go.Proofs.Ytmibmjehjagmbaa
