/- Assertions on parts of a heap: what is owned (h), what never turns (R), what is let alone (F); contracts over them. No condition. -/
import Derived.Test.YtmibmjehjagmbaaRows
import Derived.WalkKit
import Derived.Deep.RegionHeld3
import Derived.RangeFuncLeaves
import Derived.RangeFuncRecord
import Derived.TacticsIn
namespace Go.Proofs.Ytmibmjehjagmbaa

abbrev PH := Nat → Option Obj
namespace PH
def none' : PH := fun _ => none
def one (b : Nat) (o : Obj) : PH := fun k => if k = b then some o else none
def dj (h g : PH) : Prop := ∀ k, h k = none ∨ g k = none
def un (h g : PH) : PH := fun k => match h k with | some o => some o | none => g k
def le (h g : PH) : Prop := ∀ k o, h k = some o → g k = some o
def own (h : PH) (w : World) : Prop := ∀ k o, h k = some o → w.heap[k]? = some o
theorem le.refl (h : PH) : h.le h := fun _ _ e => e
theorem le.trans {a b c : PH} (h : a.le b) (g : b.le c) : a.le c := fun k o e => g k o (h k o e)
theorem none_le (h : PH) : none'.le h := fun _ _ e => by cases e
theorem own.le {h g : PH} {w : World} (hg : g.own w) (hl : h.le g) : h.own w := fun k o e => hg k o (hl k o e)
theorem dj.symm {h g : PH} (d : h.dj g) : g.dj h := fun k => (d k).symm
theorem le.none {h g : PH} (l : h.le g) {k : Nat} (e : g k = Option.none) : h k = Option.none := by
  cases hk : h k with
  | none => rfl
  | some o => rw [l k o hk] at e; cases e
theorem dj.le {h g h' g' : PH} (d : h.dj g) (l : h'.le h) (l' : g'.le g) : h'.dj g' := fun k => (d k).imp l.none l'.none
theorem un_left (h g : PH) : h.le (h.un g) := fun k o e => by unfold un; rw [e]
theorem un_right {h g : PH} (d : h.dj g) : g.le (h.un g) := fun k o e => by
  unfold un
  rcases d k with e' | e'
  · rw [e']; exact e
  · rw [e'] at e; cases e
theorem un_some {h g : PH} {k : Nat} {o : Obj} (e : (h.un g) k = some o) : h k = some o ∨ g k = some o := by
  unfold un at e
  split at e
  · rename_i e'; exact .inl (e'.trans e)
  · exact .inr e
theorem un_none {h g : PH} {k : Nat} (e : h k = Option.none) (e' : g k = Option.none) : (h.un g) k = Option.none := by unfold un; rw [e]; exact e'
theorem un_le {h g f : PH} (l : h.le f) (l' : g.le f) : (h.un g).le f := fun k o e => (un_some e).elim (l k o) (l' k o)
theorem dj_un {h g f : PH} (d : h.dj f) (d' : g.dj f) : (h.un g).dj f := fun k => by
  rcases d k with e | e
  · rcases d' k with e' | e'
    · exact .inl (un_none e e')
    · exact .inr e'
  · exact .inr e
theorem dj_none (h : PH) : h.dj none' := fun _ => .inr rfl
theorem none_dj (h : PH) : none'.dj h := fun _ => .inl rfl
theorem one_self (b : Nat) (o : Obj) : one b o b = some o := if_pos rfl
theorem one_some {b k : Nat} {o x : Obj} (e : one b o k = some x) : k = b ∧ x = o := by
  unfold one at e
  split at e
  · rename_i h; exact ⟨h, (Option.some.inj e).symm⟩
  · cases e
theorem one_le {b : Nat} {o : Obj} {h : PH} (e : h b = some o) : (one b o).le h := fun k x hx => by
  obtain ⟨rfl, rfl⟩ := one_some hx; exact e
end PH

/-- An assertion: on what never turns (R) and what is owned (h); it stands if more of either is there. -/
structure HP where
  p : PH → PH → Prop
  mono : ∀ {R R' h h' : PH}, R.le R' → h.le h' → p R h → p R' h'

namespace HP
def tt : HP := ⟨fun _ _ => True, fun _ _ _ => trivial⟩
def pure (φ : Prop) : HP := ⟨fun _ _ => φ, fun _ _ h => h⟩
def ex {α : Type} (A : α → HP) : HP := ⟨fun R h => ∃ x, (A x).p R h, fun l l' ⟨x, hx⟩ => ⟨x, (A x).mono l l' hx⟩⟩
def and (φ : Prop) (A : HP) : HP := ⟨fun R h => φ ∧ A.p R h, fun l l' ⟨a, b⟩ => ⟨a, A.mono l l' b⟩⟩
def one (b : Nat) (o : Obj) : HP := ⟨fun _ h => h b = some o, fun _ l e => l b o e⟩
def ro (b : Nat) (o : Obj) : HP := ⟨fun R _ => R b = some o, fun l _ e => l b o e⟩
def sep (A B : HP) : HP := ⟨fun R h => ∃ h1 h2, h1.dj h2 ∧ h1.le h ∧ h2.le h ∧ A.p R h1 ∧ B.p R h2,
  fun l l' ⟨h1, h2, d, l1, l2, a, b⟩ => ⟨h1, h2, d, l1.trans l', l2.trans l', A.mono l (PH.le.refl _) a, B.mono l (PH.le.refl _) b⟩⟩

/-- A entails B, where some of what is owned may be given up, for good or to be read alone. -/
def ent (A B : HP) : Prop := ∀ R h : PH, R.dj h → A.p R h → ∃ R' h' : PH, R.le R' ∧ R'.dj h' ∧ h'.le h ∧ (∀ k o, R' k = some o → R k = some o ∨ h k = some o) ∧ B.p R' h'
theorem ent.of {A B : HP} (h : ∀ R x, A.p R x → B.p R x) : ent A B := fun R x d a => ⟨R, x, PH.le.refl _, d, PH.le.refl _, fun _ _ e => .inl e, h R x a⟩
theorem ent.refl (A : HP) : ent A A := .of fun _ _ h => h
theorem ent.trans {A B C : HP} (h : ent A B) (g : ent B C) : ent A C := fun R x d a => by
  obtain ⟨R1, x1, l1, d1, m1, s1, b⟩ := h R x d a
  obtain ⟨R2, x2, l2, d2, m2, s2, c⟩ := g R1 x1 d1 b
  exact ⟨R2, x2, l1.trans l2, d2, m2.trans m1, fun k o e => (s2 k o e).elim (s1 k o) (fun e => .inr (m1 k o e)), c⟩
theorem sep_left {A B : HP} {R h : PH} (H : (sep A B).p R h) : A.p R h := let ⟨_, _, _, l1, _, a, _⟩ := H; A.mono (PH.le.refl _) l1 a
theorem sep_right {A B : HP} {R h : PH} (H : (sep A B).p R h) : B.p R h := let ⟨_, _, _, _, l2, _, b⟩ := H; B.mono (PH.le.refl _) l2 b
theorem sep_comm {A B : HP} {R h : PH} (H : (sep A B).p R h) : (sep B A).p R h := let ⟨h1, h2, d, l1, l2, a, b⟩ := H; ⟨h2, h1, d.symm, l2, l1, b, a⟩
theorem sep_assoc {A B C : HP} {R h : PH} (H : (sep (sep A B) C).p R h) : (sep A (sep B C)).p R h := by
  obtain ⟨h1, h2, d, l1, l2, ⟨h3, h4, d', l3, l4, a, b⟩, c⟩ := H
  have d4 := d.le l4 (PH.le.refl h2)
  exact ⟨h3, h4.un h2, (PH.dj_un d'.symm (d.le l3 (PH.le.refl h2)).symm).symm, l3.trans l1, PH.un_le (l4.trans l1) l2, a, h4, h2, d4, PH.un_left _ _, PH.un_right d4, b, c⟩
theorem sep_assoc' {A B C : HP} {R h : PH} (H : (sep A (sep B C)).p R h) : (sep (sep A B) C).p R h :=
  sep_comm (sep_assoc (sep_comm (sep_assoc (sep_comm H))))
theorem sep_mono {A B A' B' : HP} {R h : PH} (H : (sep A B).p R h) (f : ∀ x, A.p R x → A'.p R x) (g : ∀ x, B.p R x → B'.p R x) : (sep A' B').p R h :=
  let ⟨h1, h2, d, l1, l2, a, b⟩ := H; ⟨h1, h2, d, l1, l2, f _ a, g _ b⟩
theorem sep_tt {A : HP} {R h : PH} (H : A.p R h) : (sep A tt).p R h := ⟨h, PH.none', PH.dj_none h, PH.le.refl _, PH.none_le _, H, trivial⟩
theorem tt_sep {A : HP} {R h : PH} (H : A.p R h) : (sep tt A).p R h := sep_comm (sep_tt H)
theorem sep_pure {A : HP} {φ : Prop} {R h : PH} (H : A.p R h) (f : φ) : (sep (pure φ) A).p R h := (sep_comm (sep_mono (sep_tt H) (fun _ h => h) fun _ _ => f) : _)
theorem sep_ro {A : HP} {b : Nat} {o : Obj} {R h : PH} (H : A.p R h) (f : R b = some o) : (sep (ro b o) A).p R h := (sep_comm (sep_mono (sep_tt H) (fun _ h => h) fun _ _ => f) : _)
/-- What is entailed on one side, the other side being let alone. -/
theorem ent.sep {A B : HP} (h : ent A B) (K : HP) : ent (sep A K) (sep B K) := fun R x d H => by
  obtain ⟨h1, h2, dd, l1, l2, a, k⟩ := H
  obtain ⟨R1, x1, l, d1, m1, s1, b⟩ := h R h1 (d.le (PH.le.refl _) l1) a
  have dx : x1.dj h2 := dd.le m1 (PH.le.refl _)
  refine ⟨R1, x1.un h2, l, (PH.dj_un d1.symm ?_).symm, PH.un_le (m1.trans l1) l2, fun k o e => (s1 k o e).imp id (l1 k o), x1, h2, dx, PH.un_left _ _, PH.un_right dx, b, K.mono l (PH.le.refl _) k⟩
  intro k
  cases hk : R1 k with
  | none => exact .inr rfl
  | some o =>
    rcases s1 k o hk with e | e
    · rcases d k with e' | e'
      · rw [e] at e'; cases e'
      · exact .inl (l2.none e')
    · rcases dd k with e' | e'
      · rw [e] at e'; cases e'
      · exact .inl e'
theorem ent.sep2 {A B A' B' : HP} (h : ent A B) (g : ent A' B') : ent (HP.sep A A') (HP.sep B B') :=
  (h.sep A').trans ((ent.of fun _ _ => sep_comm).trans ((g.sep B).trans (ent.of fun _ _ => sep_comm)))
/-- Something owned is let be read alone from here on. -/
theorem ent.share (b : Nat) (o : Obj) : ent (HP.one b o) (HP.ro b o) := fun R h d e => by
  refine ⟨R.un (PH.one b o), PH.none', PH.un_left _ _, PH.dj_none _, PH.none_le _, fun k x hx => (PH.un_some hx).imp id fun hx => ?_, ?_⟩
  · obtain ⟨rfl, rfl⟩ := PH.one_some hx; exact e
  · have hb : R b = none := (d b).resolve_right (by rw [show h b = some o from e]; simp)
    show (R.un (PH.one b o)) b = some o
    unfold PH.un; rw [hb]; exact PH.one_self b o
end HP

/-- A world and its parts. -/
structure Sat (w : World) (R h F : PH) : Prop where
  dRh : R.dj h
  dRF : R.dj F
  dhF : h.dj F
  oR : R.own w
  oh : h.own w
  oF : F.own w
structure Same (w w' : World) : Prop where
  os : w'.os = w.os
  tape : w'.tape = w.tape
  output : w'.output = w.output
  size : w.heap.size ≤ w'.heap.size
theorem Same.refl (w : World) : Same w w := ⟨rfl, rfl, rfl, Nat.le_refl _⟩
theorem Same.trans {a b c : World} (h : Same a b) (g : Same b c) : Same a c := ⟨g.os.trans h.os, g.tape.trans h.tape, g.output.trans h.output, Nat.le_trans h.size g.size⟩
theorem Sat.ent {w : World} {R h F R' h' : PH} (s : Sat w R h F) (d : R'.dj h') (m : h'.le h) (g : ∀ k o, R' k = some o → R k = some o ∨ h k = some o) : Sat w R' h' F := by
  refine ⟨d, fun k => ?_, s.dhF.le m (PH.le.refl _), fun k o e => (g k o e).elim (s.oR k o) (s.oh k o), s.oh.le m, s.oF⟩
  cases hk : R' k with
  | none => exact .inl rfl
  | some o =>
    refine .inr ?_
    rcases g k o hk with e | e
    · exact (s.dRF k).resolve_left (by rw [e]; simp)
    · exact (s.dhF k).resolve_left (by rw [e]; simp)
/-- Part of what is owned is let alone. -/
theorem Sat.cut {w : World} {R h F h1 h2 : PH} (s : Sat w R h F) (d : h1.dj h2) (l1 : h1.le h) (l2 : h2.le h) : Sat w R h1 (h2.un F) :=
  ⟨s.dRh.le (PH.le.refl _) l1, (PH.dj_un (s.dRh.le (PH.le.refl _) l2).symm s.dRF.symm).symm, (PH.dj_un d.symm (s.dhF.le l1 (PH.le.refl _)).symm).symm, s.oR, s.oh.le l1, fun k o e => (PH.un_some e).elim (s.oh.le l2 k o) (s.oF k o)⟩
/-- .. and taken back. -/
theorem Sat.join {w : World} {R h1 h2 F : PH} (s : Sat w R h1 (h2.un F)) (d : h2.dj F) : Sat w R (h1.un h2) F ∧ h1.dj h2 := by
  have l2 : h2.le (h2.un F) := PH.un_left _ _
  have lF : F.le (h2.un F) := PH.un_right d
  have d12 := s.dhF.le (PH.le.refl _) l2
  exact ⟨⟨(PH.dj_un s.dRh.symm (s.dRF.le (PH.le.refl _) l2).symm).symm, s.dRF.le (PH.le.refl _) lF, PH.dj_un (s.dhF.le (PH.le.refl _) lF) d, s.oR, fun k o e => (PH.un_some e).elim (s.oh k o) (s.oF.le l2 k o), s.oF.le lF⟩, d12⟩

/-- A contract. -/
def Tri (P : Program) (f : FuncId) (args : Array Value) (A : HP) (B : Value → HP) : Prop :=
  ∀ w R h F, Sat w R h F → A.p R h → Calls P f args w fun e w' => ∃ v, e = .returned v ∧ Same w w' ∧ ∃ R' h', R.le R' ∧ Sat w' R' h' F ∧ (B v).p R' h'
def outOf : Next → Option Value
  | .value v => some v
  | .skip => some undef
  | _ => none
/-- What one operation's run gives. -/
def OTri (P : Program) (s : Sem Next) (A : HP) (B : Value → HP) : Prop :=
  ∀ w R h F, Sat w R h F → A.p R h → ∃ nx v w', s.run P w = .ok nx w' ∧ outOf nx = some v ∧ Same w w' ∧ ∃ R' h', R.le R' ∧ Sat w' R' h' F ∧ (B v).p R' h'
/-- An operation that only reads. -/
def ORead (P : Program) (s : Sem Next) (A : HP) (v : Value) : Prop :=
  ∀ w R h F, Sat w R h F → A.p R h → s.run P w = .ok (.value v) w

/-- A function that a call enters. -/
def Fgo (P : Program) (f : FuncId) : Prop := ∃ fn, P.funcs[f]? = some fn ∧ fn.body.isNone = false ∧ (fn.name == "runtime.NumGoroutine") = false
/-- A call of yield: one round. -/
def YTri (P : Program) (l : Nat) (args : Array Value) (A : HP) (B : Value → HP) : Prop :=
  ∀ w R h F, Sat w R h F → A.p R h → ∃ fn tmps assign body, (Instr.yield l args).run P w = .ok (.round l fn tmps assign body) w ∧
    RoundIn Fence.wide 0 P l fn tmps assign body w fun e w' => ∃ v, e = .returned v ∧ Same w w' ∧ ∃ R' h', R.le R' ∧ Sat w' R' h' F ∧ (B v).p R' h'
/-- A contract of a function's value. -/
def VTri (P : Program) (fv : Value) (args : Array Value) (A : HP) (B : Value → HP) : Prop :=
  (∃ f caps, fv = .func (.func f) #[] caps ∧ Fgo P f ∧ Tri P f (args ++ caps) A B) ∨ (∃ l, fv = .func (.yield l) #[] #[] ∧ YTri P l args A B)
/-- What a round leaves: it goes on, or the loop is left. -/
def RndPost {γ : Type} (Sh K : γ → HP) (Jx : HP) (may : γ → Prop) (v : Value) : HP :=
  HP.ex fun b : Bool => HP.and (v = .bool b) (if b then HP.ex fun g' => HP.and (may g') (HP.sep (Sh g') (K g')) else Jx)
/-- What an iterator leaves: it has come to its end, or was left. -/
def SeqPost {γ : Type} (Sh K : γ → HP) (Jx : HP) (fin : γ → Prop) : HP :=
  HP.ex fun o : Option γ => match o with
    | some g => HP.and (fin g) (HP.sep (Sh g) (K g))
    | none => Jx
/-- A contract of an iterator: A is its own, Sh what it shares with the rounds, Pr what a round is told of what is yielded. -/
def SeqTri (P : Program) (gv : Value) {γ : Type} (A : HP) (Sh : γ → HP) (Pr : γ → Array Value → HP) (may : γ → Array Value → γ → Prop) (fin : γ → Prop) (g0 : γ) : Prop :=
  ∃ f caps, gv = .func (.func f) #[] caps ∧ Fgo P f ∧ ∀ (l : Nat) (K : γ → HP) (Jx : HP),
    (∀ g args, (∃ g', may g args g') → VTri P (.func (.yield l) #[] #[]) args (HP.sep (Pr g args) (HP.sep (Sh g) (K g))) (RndPost Sh K Jx (may g args))) →
    Tri P f (#[.func (.yield l) #[] #[]] ++ caps) (HP.sep A (HP.sep (Sh g0) (K g0))) (fun _ => HP.sep A (SeqPost Sh K Jx fin))
theorem Tri.conseq {P : Program} {f : FuncId} {args : Array Value} {A A' K : HP} {B B' : Value → HP} (t : Tri P f args A B) (pre : HP.ent A' (HP.sep A K)) (post : ∀ v, HP.ent (HP.sep (B v) K) (B' v)) :
    Tri P f args A' B' := fun w R h F s a' => by
  obtain ⟨R1, h1, l1, d1, m1, g1, x1, x2, dx, lx1, lx2, a, k⟩ := pre R h s.dRh a'
  have s1 := s.ent d1 m1 g1
  refine (t w R1 x1 _ (s1.cut dx lx1 lx2) a).mono fun e w' ⟨v, he, hs, R2, h2, l2, s2, b⟩ => ?_
  obtain ⟨s3, d3⟩ := s2.join ((s1.dhF).le lx2 (PH.le.refl _))
  obtain ⟨R4, h4, l4, d4, m4, g4, b'⟩ := post v R2 (h2.un x2) s3.dRh ⟨h2, x2, d3, PH.un_left _ _, PH.un_right d3, b, K.mono l2 (PH.le.refl _) k⟩
  exact ⟨v, he, hs, R4, h4, l1.trans (l2.trans l4), s3.ent d4 m4 g4, b'⟩
theorem Tri.post {P : Program} {f : FuncId} {args : Array Value} {A : HP} {B B' : Value → HP} (t : Tri P f args A B) (post : ∀ v, HP.ent (B v) (B' v)) : Tri P f args A B' :=
  t.conseq (K := HP.tt) (.of fun _ _ => HP.sep_tt) fun v => (HP.ent.of fun _ _ => HP.sep_left).trans (post v)
theorem OTri.conseq {P : Program} {o : Sem Next} {A A' K : HP} {B B' : Value → HP} (t : OTri P o A B) (pre : HP.ent A' (HP.sep A K)) (post : ∀ v, HP.ent (HP.sep (B v) K) (B' v)) :
    OTri P o A' B' := fun w R h F s a' => by
  obtain ⟨R1, h1, l1, d1, m1, g1, x1, x2, dx, lx1, lx2, a, k⟩ := pre R h s.dRh a'
  have s1 := s.ent d1 m1 g1
  obtain ⟨nx, v, w', he, ho, hs, R2, h2, l2, s2, b⟩ := t w R1 x1 _ (s1.cut dx lx1 lx2) a
  obtain ⟨s3, d3⟩ := s2.join ((s1.dhF).le lx2 (PH.le.refl _))
  obtain ⟨R4, h4, l4, d4, m4, g4, b'⟩ := post v R2 (h2.un x2) s3.dRh ⟨h2, x2, d3, PH.un_left _ _, PH.un_right d3, b, K.mono l2 (PH.le.refl _) k⟩
  exact ⟨nx, v, w', he, ho, hs, R4, h4, l1.trans (l2.trans l4), s3.ent d4 m4 g4, b'⟩
theorem OTri.post {P : Program} {o : Sem Next} {A : HP} {B B' : Value → HP} (t : OTri P o A B) (post : ∀ v, HP.ent (B v) (B' v)) : OTri P o A B' :=
  t.conseq (K := HP.tt) (.of fun _ _ => HP.sep_tt) fun v => (HP.ent.of fun _ _ => HP.sep_left).trans (post v)
theorem Tri.weak {P : Program} {f : FuncId} {args : Array Value} {A A' : HP} {B B' : Value → HP} (t : Tri P f args A B) (pre : ∀ R h, A'.p R h → A.p R h) (post : ∀ v R h, (B v).p R h → (B' v).p R h) : Tri P f args A' B' :=
  t.conseq (K := HP.tt) (.of fun R h H => HP.sep_tt (pre R h H)) fun v => .of fun R h H => post v R h (HP.sep_left H)
theorem OTri.weak {P : Program} {o : Sem Next} {A A' : HP} {B B' : Value → HP} (t : OTri P o A B) (pre : ∀ R h, A'.p R h → A.p R h) (post : ∀ v R h, (B v).p R h → (B' v).p R h) : OTri P o A' B' :=
  t.conseq (K := HP.tt) (.of fun R h H => HP.sep_tt (pre R h H)) fun v => .of fun R h H => post v R h (HP.sep_left H)
theorem Tri.frame {P : Program} {f : FuncId} {args : Array Value} {A : HP} {B : Value → HP} (t : Tri P f args A B) (K : HP) : Tri P f args (HP.sep A K) (fun v => HP.sep (B v) K) :=
  t.conseq (HP.ent.refl _) fun _ => HP.ent.refl _
theorem OTri.frame {P : Program} {o : Sem Next} {A : HP} {B : Value → HP} (t : OTri P o A B) (K : HP) : OTri P o (HP.sep A K) (fun v => HP.sep (B v) K) :=
  t.conseq (HP.ent.refl _) fun _ => HP.ent.refl _
theorem OTri.fact {P : Program} {o : Sem Next} {A : HP} {B : Value → HP} {φ : Prop} (hf : ∀ R h, A.p R h → φ) (t : φ → OTri P o A B) : OTri P o A B := fun w R h F s a => t (hf R h a) w R h F s a
theorem Tri.fact {P : Program} {f : FuncId} {args : Array Value} {A : HP} {B : Value → HP} {φ : Prop} (hf : ∀ R h, A.p R h → φ) (t : φ → Tri P f args A B) : Tri P f args A B := fun w R h F s a => t (hf R h a) w R h F s a
theorem ORead.ent {P : Program} {s : Sem Next} {A A' : HP} {v : Value} (e : HP.ent A A') (r : ORead P s A' v) : ORead P s A v := fun w R h F st a => by
  obtain ⟨R', h', q1, q2, q3, q4, a'⟩ := e R h st.dRh a
  exact r w R' h' F (st.ent q2 q3 q4) a'
theorem Tri.pure {P : Program} {f : FuncId} {args : Array Value} {A : HP} {B : Value → HP} {φ : Prop} (t : φ → Tri P f args A B) : Tri P f args (HP.and φ A) B :=
  fun w R h F s a => t a.1 w R h F s a.2
theorem Tri.ex {P : Program} {f : FuncId} {args : Array Value} {α : Type} {A : α → HP} {B : Value → HP} (t : ∀ x, Tri P f args (A x) B) : Tri P f args (HP.ex A) B :=
  fun w R h F s ⟨x, a⟩ => t x w R h F s a
theorem HP.swap {A B K : HP} {R h : PH} (H : (HP.sep A (HP.sep B K)).p R h) : (HP.sep B (HP.sep A K)).p R h :=
  HP.sep_assoc (HP.sep_mono (HP.sep_assoc' H) (fun _ h => HP.sep_comm h) fun _ h => h)
theorem YTri.conseq {P : Program} {l : Nat} {args : Array Value} {A A' K : HP} {B B' : Value → HP} (t : YTri P l args A B) (pre : HP.ent A' (HP.sep A K)) (post : ∀ v, HP.ent (HP.sep (B v) K) (B' v)) :
    YTri P l args A' B' := fun w R h F s a' => by
  obtain ⟨R1, h1, l1, d1, m1, g1, x1, x2, dx, lx1, lx2, a, k⟩ := pre R h s.dRh a'
  have s1 := s.ent d1 m1 g1
  obtain ⟨fn, tmps, asg, body, hy, hr⟩ := t w R1 x1 _ (s1.cut dx lx1 lx2) a
  refine ⟨fn, tmps, asg, body, hy, hr.mono fun e w' ⟨v, he, hs, R2, h2, l2, s2, b⟩ => ?_⟩
  obtain ⟨s3, d3⟩ := s2.join ((s1.dhF).le lx2 (PH.le.refl _))
  obtain ⟨R4, h4, l4, d4, m4, g4, b'⟩ := post v R2 (h2.un x2) s3.dRh ⟨h2, x2, d3, PH.un_left _ _, PH.un_right d3, b, K.mono l2 (PH.le.refl _) k⟩
  exact ⟨v, he, hs, R4, h4, l1.trans (l2.trans l4), s3.ent d4 m4 g4, b'⟩
theorem VTri.conseq {P : Program} {fv : Value} {args : Array Value} {A A' K : HP} {B B' : Value → HP} (t : VTri P fv args A B) (pre : HP.ent A' (HP.sep A K)) (post : ∀ v, HP.ent (HP.sep (B v) K) (B' v)) : VTri P fv args A' B' := by
  rcases t with ⟨f, caps, e, g, t⟩ | ⟨l, e, t⟩
  · exact .inl ⟨f, caps, e, g, t.conseq pre post⟩
  · exact .inr ⟨l, e, t.conseq pre post⟩
theorem VTri.weak {P : Program} {fv : Value} {args : Array Value} {A A' : HP} {B B' : Value → HP} (t : VTri P fv args A B) (pre : ∀ R h, A'.p R h → A.p R h) (post : ∀ v R h, (B v).p R h → (B' v).p R h) : VTri P fv args A' B' :=
  t.conseq (K := HP.tt) (.of fun R h H => HP.sep_tt (pre R h H)) fun v => .of fun R h H => post v R h (HP.sep_left H)
theorem VTri.ex {P : Program} {fv : Value} {args : Array Value} {α : Type} {A : α → HP} {B : Value → HP} {f : FuncId} {caps : Array Value} (hf : fv = .func (.func f) #[] caps) (t : ∀ x, VTri P fv args (A x) B) (g : Fgo P f) : VTri P fv args (HP.ex A) B := by
  refine .inl ⟨f, caps, hf, g, Tri.ex fun x => ?_⟩
  rcases t x with ⟨f', caps', e, _, t⟩ | ⟨l, e, _⟩
  · rw [hf] at e; cases e; exact t
  · rw [hf] at e; cases e
end Go.Proofs.Ytmibmjehjagmbaa
