/- Texts of this claim, joined. No condition. -/
import Derived.Test.YtcpjdfihpdjkbaaGreatDoorRows
import Derived.WalkKit
import Derived.Deep.RegionHeld3
import Derived.RangeFuncLeaves
import Derived.RangeFuncRecord
import Derived.TacticsIn
import Derived.IntWalk
set_option linter.unusedSimpArgs false
set_option linter.unusedVariables false

namespace Go.Proofs.YtcpjdfihpdjkbaaGreatDoor

abbrev PH := Nat → Option Obj
namespace PH
def none' : PH := fun _ => none
def one (b : Nat) (o : Obj) : PH := fun k => if k = b then some o else none
def dj (h g : PH) : Prop := ∀ k, h k = none ∨ g k = none
def un (h g : PH) : PH := fun k => match h k with | some o => some o | none => g k
def le (h g : PH) : Prop := ∀ k o, h k = some o → g k = some o
def own (h : PH) (w : World) : Prop := ∀ k o, h k = some o → w.heap[k]? = some o
theorem le.refl (h : PH) : h.le h := fun _ _ e => e
theorem le.trans {a b c : PH} (h : a.le b) (g : b.le c) : a.le c := fun k o e => g k o (h k o e)
theorem none_le (h : PH) : none'.le h := fun _ _ e => by cases e
theorem own.le {h g : PH} {w : World} (hg : g.own w) (hl : h.le g) : h.own w := fun k o e => hg k o (hl k o e)
theorem dj.symm {h g : PH} (d : h.dj g) : g.dj h := fun k => (d k).symm
theorem le.none {h g : PH} (l : h.le g) {k : Nat} (e : g k = Option.none) : h k = Option.none := by
  cases hk : h k with
  | none => rfl
  | some o => rw [l k o hk] at e; cases e
theorem dj.le {h g h' g' : PH} (d : h.dj g) (l : h'.le h) (l' : g'.le g) : h'.dj g' := fun k => (d k).imp l.none l'.none
theorem un_left (h g : PH) : h.le (h.un g) := fun k o e => by unfold un; rw [e]
theorem un_right {h g : PH} (d : h.dj g) : g.le (h.un g) := fun k o e => by
  unfold un
  rcases d k with e' | e'
  · rw [e']; exact e
  · rw [e'] at e; cases e
theorem un_some {h g : PH} {k : Nat} {o : Obj} (e : (h.un g) k = some o) : h k = some o ∨ g k = some o := by
  unfold un at e
  split at e
  · rename_i e'; exact .inl (e'.trans e)
  · exact .inr e
theorem un_none {h g : PH} {k : Nat} (e : h k = Option.none) (e' : g k = Option.none) : (h.un g) k = Option.none := by unfold un; rw [e]; exact e'
theorem un_le {h g f : PH} (l : h.le f) (l' : g.le f) : (h.un g).le f := fun k o e => (un_some e).elim (l k o) (l' k o)
theorem dj_un {h g f : PH} (d : h.dj f) (d' : g.dj f) : (h.un g).dj f := fun k => by
  rcases d k with e | e
  · rcases d' k with e' | e'
    · exact .inl (un_none e e')
    · exact .inr e'
  · exact .inr e
theorem dj_none (h : PH) : h.dj none' := fun _ => .inr rfl
theorem none_dj (h : PH) : none'.dj h := fun _ => .inl rfl
theorem one_self (b : Nat) (o : Obj) : one b o b = some o := if_pos rfl
theorem one_some {b k : Nat} {o x : Obj} (e : one b o k = some x) : k = b ∧ x = o := by
  unfold one at e
  split at e
  · rename_i h; exact ⟨h, (Option.some.inj e).symm⟩
  · cases e
end PH

structure HP where
  p : PH → PH → Prop
  mono : ∀ {R R' h h' : PH}, R.le R' → h.le h' → p R h → p R' h'

namespace HP
def tt : HP := ⟨fun _ _ => True, fun _ _ _ => trivial⟩
def pure (φ : Prop) : HP := ⟨fun _ _ => φ, fun _ _ h => h⟩
def ex {α : Type} (A : α → HP) : HP := ⟨fun R h => ∃ x, (A x).p R h, fun l l' ⟨x, hx⟩ => ⟨x, (A x).mono l l' hx⟩⟩
def and (φ : Prop) (A : HP) : HP := ⟨fun R h => φ ∧ A.p R h, fun l l' ⟨a, b⟩ => ⟨a, A.mono l l' b⟩⟩
def one (b : Nat) (o : Obj) : HP := ⟨fun _ h => h b = some o, fun _ l e => l b o e⟩
def ro (b : Nat) (o : Obj) : HP := ⟨fun R _ => R b = some o, fun l _ e => l b o e⟩
def sep (A B : HP) : HP := ⟨fun R h => ∃ h1 h2, h1.dj h2 ∧ h1.le h ∧ h2.le h ∧ A.p R h1 ∧ B.p R h2,
  fun l l' ⟨h1, h2, d, l1, l2, a, b⟩ => ⟨h1, h2, d, l1.trans l', l2.trans l', A.mono l (PH.le.refl _) a, B.mono l (PH.le.refl _) b⟩⟩

def ent (A B : HP) : Prop := ∀ R h : PH, R.dj h → A.p R h → ∃ R' h' : PH, R.le R' ∧ R'.dj h' ∧ h'.le h ∧ (∀ k o, R' k = some o → R k = some o ∨ h k = some o) ∧ B.p R' h'
theorem ent.of {A B : HP} (h : ∀ R x, A.p R x → B.p R x) : ent A B := fun R x d a => ⟨R, x, PH.le.refl _, d, PH.le.refl _, fun _ _ e => .inl e, h R x a⟩
theorem ent.refl (A : HP) : ent A A := .of fun _ _ h => h
theorem ent.trans {A B C : HP} (h : ent A B) (g : ent B C) : ent A C := fun R x d a => by
  obtain ⟨R1, x1, l1, d1, m1, s1, b⟩ := h R x d a
  obtain ⟨R2, x2, l2, d2, m2, s2, c⟩ := g R1 x1 d1 b
  exact ⟨R2, x2, l1.trans l2, d2, m2.trans m1, fun k o e => (s2 k o e).elim (s1 k o) (fun e => .inr (m1 k o e)), c⟩
theorem sep_left {A B : HP} {R h : PH} (H : (sep A B).p R h) : A.p R h := let ⟨_, _, _, l1, _, a, _⟩ := H; A.mono (PH.le.refl _) l1 a
theorem sep_right {A B : HP} {R h : PH} (H : (sep A B).p R h) : B.p R h := let ⟨_, _, _, _, l2, _, b⟩ := H; B.mono (PH.le.refl _) l2 b
theorem sep_comm {A B : HP} {R h : PH} (H : (sep A B).p R h) : (sep B A).p R h := let ⟨h1, h2, d, l1, l2, a, b⟩ := H; ⟨h2, h1, d.symm, l2, l1, b, a⟩
theorem sep_assoc {A B C : HP} {R h : PH} (H : (sep (sep A B) C).p R h) : (sep A (sep B C)).p R h := by
  obtain ⟨h1, h2, d, l1, l2, ⟨h3, h4, d', l3, l4, a, b⟩, c⟩ := H
  have d4 := d.le l4 (PH.le.refl h2)
  exact ⟨h3, h4.un h2, (PH.dj_un d'.symm (d.le l3 (PH.le.refl h2)).symm).symm, l3.trans l1, PH.un_le (l4.trans l1) l2, a, h4, h2, d4, PH.un_left _ _, PH.un_right d4, b, c⟩
theorem sep_assoc' {A B C : HP} {R h : PH} (H : (sep A (sep B C)).p R h) : (sep (sep A B) C).p R h :=
  sep_comm (sep_assoc (sep_comm (sep_assoc (sep_comm H))))
theorem sep_mono {A B A' B' : HP} {R h : PH} (H : (sep A B).p R h) (f : ∀ x, A.p R x → A'.p R x) (g : ∀ x, B.p R x → B'.p R x) : (sep A' B').p R h :=
  let ⟨h1, h2, d, l1, l2, a, b⟩ := H; ⟨h1, h2, d, l1, l2, f _ a, g _ b⟩
theorem sep_tt {A : HP} {R h : PH} (H : A.p R h) : (sep A tt).p R h := ⟨h, PH.none', PH.dj_none h, PH.le.refl _, PH.none_le _, H, trivial⟩
theorem tt_sep {A : HP} {R h : PH} (H : A.p R h) : (sep tt A).p R h := sep_comm (sep_tt H)
theorem ent.sep {A B : HP} (h : ent A B) (K : HP) : ent (sep A K) (sep B K) := fun R x d H => by
  obtain ⟨h1, h2, dd, l1, l2, a, k⟩ := H
  obtain ⟨R1, x1, l, d1, m1, s1, b⟩ := h R h1 (d.le (PH.le.refl _) l1) a
  have dx : x1.dj h2 := dd.le m1 (PH.le.refl _)
  refine ⟨R1, x1.un h2, l, (PH.dj_un d1.symm ?_).symm, PH.un_le (m1.trans l1) l2, fun k o e => (s1 k o e).imp id (l1 k o), x1, h2, dx, PH.un_left _ _, PH.un_right dx, b, K.mono l (PH.le.refl _) k⟩
  intro k
  cases hk : R1 k with
  | none => exact .inr rfl
  | some o =>
    rcases s1 k o hk with e | e
    · rcases d k with e' | e'
      · rw [e] at e'; cases e'
      · exact .inl (l2.none e')
    · rcases dd k with e' | e'
      · rw [e] at e'; cases e'
      · exact .inl e'
theorem ent.sep2 {A B A' B' : HP} (h : ent A B) (g : ent A' B') : ent (HP.sep A A') (HP.sep B B') :=
  (h.sep A').trans ((ent.of fun _ _ => sep_comm).trans ((g.sep B).trans (ent.of fun _ _ => sep_comm)))
theorem ent.share (b : Nat) (o : Obj) : ent (HP.one b o) (HP.ro b o) := fun R h d e => by
  refine ⟨R.un (PH.one b o), PH.none', PH.un_left _ _, PH.dj_none _, PH.none_le _, fun k x hx => (PH.un_some hx).imp id fun hx => ?_, ?_⟩
  · obtain ⟨rfl, rfl⟩ := PH.one_some hx; exact e
  · have hb : R b = none := (d b).resolve_right (by rw [show h b = some o from e]; simp)
    show (R.un (PH.one b o)) b = some o
    unfold PH.un; rw [hb]; exact PH.one_self b o
end HP

def tens : List Int := [1, 10, 100, 1000, 10000, 100000, 1000000, 10000000, 100000000, 1000000000, 10000000000, 100000000000, 1000000000000, 10000000000000, 100000000000000, 1000000000000000, 10000000000000000, 100000000000000000, 1000000000000000000, 10000000000000000000]
def GRe (R : PH) (g : Nat) : Prop := ∃ (tp : TypeId) (p : Value) (ty : TypeId) (fr : Nat × Nat), R g = some (.cells #[.iface tp p] ty fr)
def GR (R : PH) : Prop := (∃ (ty : TypeId) (fr : Nat × Nat), R 1 = some (.cells (tens.map (Value.int .u64)).toArray ty fr)) ∧ GRe R 4 ∧ GRe R 5
theorem GR.mono {R R' : PH} (l : R.le R') (g : GR R) : GR R' := let ⟨⟨t, f, e⟩, ⟨a, b, c, d, e2⟩, ⟨a', b', c', d', e3⟩⟩ := g; ⟨⟨t, f, l _ _ e⟩, ⟨a, b, c, d, l _ _ e2⟩, ⟨a', b', c', d', l _ _ e3⟩⟩
structure Sat (w : World) (R h F : PH) : Prop where
  dRh : R.dj h
  dRF : R.dj F
  dhF : h.dj F
  oR : R.own w
  oh : h.own w
  oF : F.own w
  gl : GR R
structure Same (w w' : World) : Prop where
  os : w'.os = w.os
  tape : w'.tape = w.tape
  output : w'.output = w.output
  size : w.heap.size ≤ w'.heap.size
theorem Same.refl (w : World) : Same w w := ⟨rfl, rfl, rfl, Nat.le_refl _⟩
theorem Same.trans {a b c : World} (h : Same a b) (g : Same b c) : Same a c := ⟨g.os.trans h.os, g.tape.trans h.tape, g.output.trans h.output, Nat.le_trans h.size g.size⟩
theorem Sat.ent {w : World} {R h F R' h' : PH} (s : Sat w R h F) (l : R.le R') (d : R'.dj h') (m : h'.le h) (g : ∀ k o, R' k = some o → R k = some o ∨ h k = some o) : Sat w R' h' F := by
  refine ⟨d, fun k => ?_, s.dhF.le m (PH.le.refl _), fun k o e => (g k o e).elim (s.oR k o) (s.oh k o), s.oh.le m, s.oF, s.gl.mono l⟩
  cases hk : R' k with
  | none => exact .inl rfl
  | some o =>
    refine .inr ?_
    rcases g k o hk with e | e
    · exact (s.dRF k).resolve_left (by rw [e]; simp)
    · exact (s.dhF k).resolve_left (by rw [e]; simp)
theorem Sat.cut {w : World} {R h F h1 h2 : PH} (s : Sat w R h F) (d : h1.dj h2) (l1 : h1.le h) (l2 : h2.le h) : Sat w R h1 (h2.un F) :=
  ⟨s.dRh.le (PH.le.refl _) l1, (PH.dj_un (s.dRh.le (PH.le.refl _) l2).symm s.dRF.symm).symm, (PH.dj_un d.symm (s.dhF.le l1 (PH.le.refl _)).symm).symm, s.oR, s.oh.le l1, fun k o e => (PH.un_some e).elim (s.oh.le l2 k o) (s.oF k o), s.gl⟩
theorem Sat.join {w : World} {R h1 h2 F : PH} (s : Sat w R h1 (h2.un F)) (d : h2.dj F) : Sat w R (h1.un h2) F ∧ h1.dj h2 := by
  have l2 : h2.le (h2.un F) := PH.un_left _ _
  have lF : F.le (h2.un F) := PH.un_right d
  have d12 := s.dhF.le (PH.le.refl _) l2
  exact ⟨⟨(PH.dj_un s.dRh.symm (s.dRF.le (PH.le.refl _) l2).symm).symm, s.dRF.le (PH.le.refl _) lF, PH.dj_un (s.dhF.le (PH.le.refl _) lF) d, s.oR, fun k o e => (PH.un_some e).elim (s.oh k o) (s.oF.le l2 k o), s.oF.le lF, s.gl⟩, d12⟩

def Tri (P : Program) (f : FuncId) (args : Array Value) (A : HP) (B : Value → HP) : Prop :=
  ∀ w R h F, Sat w R h F → A.p R h → Calls P f args w fun e w' => ∃ v, e = .returned v ∧ Same w w' ∧ ∃ R' h', R.le R' ∧ Sat w' R' h' F ∧ (B v).p R' h'
def outOf : Next → Option Value
  | .value v => some v
  | .skip => some undef
  | _ => none
def OTri (P : Program) (s : Sem Next) (A : HP) (B : Value → HP) : Prop :=
  ∀ w R h F, Sat w R h F → A.p R h → ∃ nx v w', s.run P w = .ok nx w' ∧ outOf nx = some v ∧ Same w w' ∧ ∃ R' h', R.le R' ∧ Sat w' R' h' F ∧ (B v).p R' h'
def ORead (P : Program) (s : Sem Next) (A : HP) (v : Value) : Prop :=
  ∀ w R h F, Sat w R h F → A.p R h → s.run P w = .ok (.value v) w

def Fgo (P : Program) (f : FuncId) : Prop := ∃ fn, P.funcs[f]? = some fn ∧ fn.body.isNone = false ∧ (fn.name == "runtime.NumGoroutine") = false
def YTri (P : Program) (l : Nat) (args : Array Value) (A : HP) (B : Value → HP) : Prop :=
  ∀ w R h F, Sat w R h F → A.p R h → ∃ fn tmps assign body, (Instr.yield l args).run P w = .ok (.round l fn tmps assign body) w ∧
    RoundIn Fence.wide 0 P l fn tmps assign body w fun e w' => ∃ v, e = .returned v ∧ Same w w' ∧ ∃ R' h', R.le R' ∧ Sat w' R' h' F ∧ (B v).p R' h'
def VTri (P : Program) (fv : Value) (args : Array Value) (A : HP) (B : Value → HP) : Prop :=
  (∃ f caps, fv = .func (.func f) #[] caps ∧ Fgo P f ∧ Tri P f (args ++ caps) A B) ∨ (∃ l, fv = .func (.yield l) #[] #[] ∧ YTri P l args A B)
def MTri (P : Program) (v : Value) (name : String) (args : Array Value) (A : HP) (B : Value → HP) : Prop :=
  ∃ t x f r, v = .iface t x ∧ (∀ w, (method (P.types.size + Made.depth) t x name).run P w = .ok (f, r) w) ∧ Fgo P f ∧ Tri P f (#[r] ++ args) A B
def RndPost {γ : Type} (Sh K : γ → HP) (Jx : HP) (may : γ → Prop) (v : Value) : HP :=
  HP.ex fun b : Bool => HP.and (v = .bool b) (if b then HP.ex fun g' => HP.and (may g') (HP.sep (Sh g') (K g')) else Jx)
def SeqPost {γ : Type} (Sh K : γ → HP) (Jx : HP) (fin : γ → Prop) : HP :=
  HP.ex fun o : Option γ => match o with
    | some g => HP.and (fin g) (HP.sep (Sh g) (K g))
    | none => Jx
def SeqTri (P : Program) (gv : Value) {γ : Type} (A : HP) (Sh : γ → HP) (Pr : γ → Array Value → HP) (may : γ → Array Value → γ → Prop) (fin : γ → Prop) (g0 : γ) : Prop :=
  ∃ f caps, gv = .func (.func f) #[] caps ∧ Fgo P f ∧ ∀ (l : Nat) (K : γ → HP) (Jx : HP),
    (∀ g args, (∃ g', may g args g') → VTri P (.func (.yield l) #[] #[]) args (HP.sep (Pr g args) (HP.sep (Sh g) (K g))) (RndPost Sh K Jx (may g args))) →
    Tri P f (#[.func (.yield l) #[] #[]] ++ caps) (HP.sep A (HP.sep (Sh g0) (K g0))) (fun _ => HP.sep A (SeqPost Sh K Jx fin))
theorem Tri.conseq {P : Program} {f : FuncId} {args : Array Value} {A A' K : HP} {B B' : Value → HP} (t : Tri P f args A B) (pre : HP.ent A' (HP.sep A K)) (post : ∀ v, HP.ent (HP.sep (B v) K) (B' v)) :
    Tri P f args A' B' := fun w R h F s a' => by
  obtain ⟨R1, h1, l1, d1, m1, g1, x1, x2, dx, lx1, lx2, a, k⟩ := pre R h s.dRh a'
  have s1 := s.ent l1 d1 m1 g1
  refine (t w R1 x1 _ (s1.cut dx lx1 lx2) a).mono fun e w' ⟨v, he, hs, R2, h2, l2, s2, b⟩ => ?_
  obtain ⟨s3, d3⟩ := s2.join ((s1.dhF).le lx2 (PH.le.refl _))
  obtain ⟨R4, h4, l4, d4, m4, g4, b'⟩ := post v R2 (h2.un x2) s3.dRh ⟨h2, x2, d3, PH.un_left _ _, PH.un_right d3, b, K.mono l2 (PH.le.refl _) k⟩
  exact ⟨v, he, hs, R4, h4, l1.trans (l2.trans l4), s3.ent l4 d4 m4 g4, b'⟩
theorem Tri.post {P : Program} {f : FuncId} {args : Array Value} {A : HP} {B B' : Value → HP} (t : Tri P f args A B) (post : ∀ v, HP.ent (B v) (B' v)) : Tri P f args A B' :=
  t.conseq (K := HP.tt) (.of fun _ _ => HP.sep_tt) fun v => (HP.ent.of fun _ _ => HP.sep_left).trans (post v)
theorem OTri.conseq {P : Program} {o : Sem Next} {A A' K : HP} {B B' : Value → HP} (t : OTri P o A B) (pre : HP.ent A' (HP.sep A K)) (post : ∀ v, HP.ent (HP.sep (B v) K) (B' v)) :
    OTri P o A' B' := fun w R h F s a' => by
  obtain ⟨R1, h1, l1, d1, m1, g1, x1, x2, dx, lx1, lx2, a, k⟩ := pre R h s.dRh a'
  have s1 := s.ent l1 d1 m1 g1
  obtain ⟨nx, v, w', he, ho, hs, R2, h2, l2, s2, b⟩ := t w R1 x1 _ (s1.cut dx lx1 lx2) a
  obtain ⟨s3, d3⟩ := s2.join ((s1.dhF).le lx2 (PH.le.refl _))
  obtain ⟨R4, h4, l4, d4, m4, g4, b'⟩ := post v R2 (h2.un x2) s3.dRh ⟨h2, x2, d3, PH.un_left _ _, PH.un_right d3, b, K.mono l2 (PH.le.refl _) k⟩
  exact ⟨nx, v, w', he, ho, hs, R4, h4, l1.trans (l2.trans l4), s3.ent l4 d4 m4 g4, b'⟩
theorem OTri.post {P : Program} {o : Sem Next} {A : HP} {B B' : Value → HP} (t : OTri P o A B) (post : ∀ v, HP.ent (B v) (B' v)) : OTri P o A B' :=
  t.conseq (K := HP.tt) (.of fun _ _ => HP.sep_tt) fun v => (HP.ent.of fun _ _ => HP.sep_left).trans (post v)
theorem Tri.weak {P : Program} {f : FuncId} {args : Array Value} {A A' : HP} {B B' : Value → HP} (t : Tri P f args A B) (pre : ∀ R h, A'.p R h → A.p R h) (post : ∀ v R h, (B v).p R h → (B' v).p R h) : Tri P f args A' B' :=
  t.conseq (K := HP.tt) (.of fun R h H => HP.sep_tt (pre R h H)) fun v => .of fun R h H => post v R h (HP.sep_left H)
theorem OTri.weak {P : Program} {o : Sem Next} {A A' : HP} {B B' : Value → HP} (t : OTri P o A B) (pre : ∀ R h, A'.p R h → A.p R h) (post : ∀ v R h, (B v).p R h → (B' v).p R h) : OTri P o A' B' :=
  t.conseq (K := HP.tt) (.of fun R h H => HP.sep_tt (pre R h H)) fun v => .of fun R h H => post v R h (HP.sep_left H)
theorem Tri.frame {P : Program} {f : FuncId} {args : Array Value} {A : HP} {B : Value → HP} (t : Tri P f args A B) (K : HP) : Tri P f args (HP.sep A K) (fun v => HP.sep (B v) K) :=
  t.conseq (HP.ent.refl _) fun _ => HP.ent.refl _
theorem OTri.frame {P : Program} {o : Sem Next} {A : HP} {B : Value → HP} (t : OTri P o A B) (K : HP) : OTri P o (HP.sep A K) (fun v => HP.sep (B v) K) :=
  t.conseq (HP.ent.refl _) fun _ => HP.ent.refl _
theorem OTri.fact {P : Program} {o : Sem Next} {A : HP} {B : Value → HP} {φ : Prop} (hf : ∀ R h, A.p R h → φ) (t : φ → OTri P o A B) : OTri P o A B := fun w R h F s a => t (hf R h a) w R h F s a
theorem Tri.fact {P : Program} {f : FuncId} {args : Array Value} {A : HP} {B : Value → HP} {φ : Prop} (hf : ∀ R h, A.p R h → φ) (t : φ → Tri P f args A B) : Tri P f args A B := fun w R h F s a => t (hf R h a) w R h F s a
theorem ORead.ent {P : Program} {s : Sem Next} {A A' : HP} {v : Value} (e : HP.ent A A') (r : ORead P s A' v) : ORead P s A v := fun w R h F st a => by
  obtain ⟨R', h', q1, q2, q3, q4, a'⟩ := e R h st.dRh a
  exact r w R' h' F (st.ent q1 q2 q3 q4) a'
theorem Tri.ex {P : Program} {f : FuncId} {args : Array Value} {α : Type} {A : α → HP} {B : Value → HP} (t : ∀ x, Tri P f args (A x) B) : Tri P f args (HP.ex A) B :=
  fun w R h F s ⟨x, a⟩ => t x w R h F s a
theorem HP.swap {A B K : HP} {R h : PH} (H : (HP.sep A (HP.sep B K)).p R h) : (HP.sep B (HP.sep A K)).p R h :=
  HP.sep_assoc (HP.sep_mono (HP.sep_assoc' H) (fun _ h => HP.sep_comm h) fun _ h => h)
theorem YTri.conseq {P : Program} {l : Nat} {args : Array Value} {A A' K : HP} {B B' : Value → HP} (t : YTri P l args A B) (pre : HP.ent A' (HP.sep A K)) (post : ∀ v, HP.ent (HP.sep (B v) K) (B' v)) :
    YTri P l args A' B' := fun w R h F s a' => by
  obtain ⟨R1, h1, l1, d1, m1, g1, x1, x2, dx, lx1, lx2, a, k⟩ := pre R h s.dRh a'
  have s1 := s.ent l1 d1 m1 g1
  obtain ⟨fn, tmps, asg, body, hy, hr⟩ := t w R1 x1 _ (s1.cut dx lx1 lx2) a
  refine ⟨fn, tmps, asg, body, hy, hr.mono fun e w' ⟨v, he, hs, R2, h2, l2, s2, b⟩ => ?_⟩
  obtain ⟨s3, d3⟩ := s2.join ((s1.dhF).le lx2 (PH.le.refl _))
  obtain ⟨R4, h4, l4, d4, m4, g4, b'⟩ := post v R2 (h2.un x2) s3.dRh ⟨h2, x2, d3, PH.un_left _ _, PH.un_right d3, b, K.mono l2 (PH.le.refl _) k⟩
  exact ⟨v, he, hs, R4, h4, l1.trans (l2.trans l4), s3.ent l4 d4 m4 g4, b'⟩
theorem VTri.conseq {P : Program} {fv : Value} {args : Array Value} {A A' K : HP} {B B' : Value → HP} (t : VTri P fv args A B) (pre : HP.ent A' (HP.sep A K)) (post : ∀ v, HP.ent (HP.sep (B v) K) (B' v)) : VTri P fv args A' B' := by
  rcases t with ⟨f, caps, e, g, t⟩ | ⟨l, e, t⟩
  · exact .inl ⟨f, caps, e, g, t.conseq pre post⟩
  · exact .inr ⟨l, e, t.conseq pre post⟩
theorem VTri.weak {P : Program} {fv : Value} {args : Array Value} {A A' : HP} {B B' : Value → HP} (t : VTri P fv args A B) (pre : ∀ R h, A'.p R h → A.p R h) (post : ∀ v R h, (B v).p R h → (B' v).p R h) : VTri P fv args A' B' :=
  t.conseq (K := HP.tt) (.of fun R h H => HP.sep_tt (pre R h H)) fun v => .of fun R h H => post v R h (HP.sep_left H)
end Go.Proofs.YtcpjdfihpdjkbaaGreatDoor



namespace Go.Proofs.YtcpjdfihpdjkbaaGreatDoor.RX
open Go.Proofs.YtcpjdfihpdjkbaaGreatDoor

inductive Uni where
  | n (x : Nat) | i (x : Int) | c (x : Bool) | s (x : List UInt8) | a (x : Option Addr) | v (x : Value) | p (x : HP)
def Uni.nat : Uni → Nat | .n x => x | _ => 0
def Uni.int : Uni → Int | .i x => x | _ => 0
def Uni.bool : Uni → Bool | .c x => x | _ => false
def Uni.str : Uni → List UInt8 | .s x => x | _ => []
def Uni.adr : Uni → Option Addr | .a x => x | _ => none
def Uni.val : Uni → Value | .v x => x | _ => undef
def Uni.hp : Uni → HP | .p x => x | _ => HP.tt
@[simp] theorem Uni.nat_n (x : Nat) : (Uni.n x).nat = x := rfl
@[simp] theorem Uni.int_i (x : Int) : (Uni.i x).int = x := rfl
@[simp] theorem Uni.bool_c (x : Bool) : (Uni.c x).bool = x := rfl
@[simp] theorem Uni.str_s (x : List UInt8) : (Uni.s x).str = x := rfl
@[simp] theorem Uni.adr_a (x : Option Addr) : (Uni.a x).adr = x := rfl
@[simp] theorem Uni.val_v (x : Value) : (Uni.v x).val = x := rfl
@[simp] theorem Uni.hp_p (x : HP) : (Uni.p x).hp = x := rfl
abbrev Env := List Uni
def look : Env → Nat → Uni
  | [], _ => .i 0
  | x :: _, 0 => x
  | _ :: ρ, k + 1 => look ρ k

inductive F1 where
  | neg | not | toNat | ofNat | wrap (k : IntKind) | inr (k : IntKind) | size | isSome
  deriving DecidableEq
inductive F2 where
  | add | sub | mul | quo | rem | shl (k : IntKind) | shr (k : IntKind) | bit (op : BinOp) (k : IntKind) | lt | le | eq | and | or | beq | seq | slt | cat | nadd | nsub | mx | mn
  deriving DecidableEq
def F1.app : F1 → Uni → Uni
  | .neg, x => .i (-x.int)
  | .not, x => .c (!x.bool)
  | .toNat, x => .n x.int.toNat
  | .ofNat, x => .i (x.nat : Int)
  | .wrap k, x => .i (k.wrap x.int)
  | .inr k, x => .c (decide (k.min ≤ x.int) && decide (x.int ≤ k.max))
  | .size, x => .n x.str.length
  | .isSome, x => .c x.adr.isSome
def F2.app : F2 → Uni → Uni → Uni
  | .add, x, y => .i (x.int + y.int)
  | .sub, x, y => .i (x.int - y.int)
  | .mul, x, y => .i (x.int * y.int)
  | .quo, x, y => .i (x.int.tdiv y.int)
  | .rem, x, y => .i (x.int.tmod y.int)
  | .shl k, x, y => .i (k.wrap (x.int * 2 ^ (min y.int.toNat k.bits)))
  | .shr k, x, y => .i (x.int.fdiv (2 ^ (min y.int.toNat k.bits)))
  | .bit op k, x, y => .i (bits op k x.int y.int)
  | .lt, x, y => .c (decide (x.int < y.int))
  | .le, x, y => .c (decide (x.int ≤ y.int))
  | .eq, x, y => .c (decide (x.int = y.int))
  | .and, x, y => .c (x.bool && y.bool)
  | .or, x, y => .c (x.bool || y.bool)
  | .beq, x, y => .c (x.bool == y.bool)
  | .seq, x, y => .c (decide (x.str = y.str))
  | .slt, x, y => .c (Op.bytesLess x.str y.str)
  | .cat, x, y => .s (x.str ++ y.str)
  | .nadd, x, y => .n (x.nat + y.nat)
  | .nsub, x, y => .n (x.nat - y.nat)
  | .mx, x, y => .i (max x.int y.int)
  | .mn, x, y => .i (min x.int y.int)

inductive E where
  | v (k : Nat) | i (x : Int) | n (x : Nat) | c (b : Bool) | s (x : List UInt8) | o1 (f : F1) (a : E) | o2 (f : F2) (a b : E)
  deriving DecidableEq
def E.den (ρ : Env) : E → Uni
  | .v k => look ρ k
  | .i x => .i x
  | .n x => .n x
  | .c b => .c b
  | .s x => .s x
  | .o1 f a => f.app (a.den ρ)
  | .o2 f a b => f.app (a.den ρ) (b.den ρ)
def E.prop (ρ : Env) : E → Prop
  | .c b => b = true
  | .o1 .not a => ¬ a.prop ρ
  | .o1 (.inr k) a => k.min ≤ (a.den ρ).int ∧ (a.den ρ).int ≤ k.max
  | .o2 .lt a b => (a.den ρ).int < (b.den ρ).int
  | .o2 .le a b => (a.den ρ).int ≤ (b.den ρ).int
  | .o2 .eq a b => (a.den ρ).int = (b.den ρ).int
  | .o2 .and a b => a.prop ρ ∧ b.prop ρ
  | .o2 .or a b => a.prop ρ ∨ b.prop ρ
  | .o2 .seq a b => (a.den ρ).str = (b.den ρ).str
  | e => (e.den ρ).bool = true
theorem E.prop_iff (ρ : Env) (e : E) : e.prop ρ ↔ (e.den ρ).bool = true := by
  induction e with
  | o1 f a ih => cases f <;> simp [E.prop, E.den, F1.app, Uni.bool, ih] <;> (cases a.den ρ <;> simp)
  | o2 f a b iha ihb => cases f <;> simp [E.prop, E.den, F2.app, Uni.bool, iha, ihb] <;> (cases a.den ρ <;> cases b.den ρ <;> simp)
  | c b => simp [E.prop, E.den, Uni.bool]
  | v k => exact Iff.rfl
  | i x => exact Iff.rfl
  | n x => exact Iff.rfl
  | s x => exact Iff.rfl

inductive BR where
  | v (k : Nat) | g (n : Nat)
  deriving DecidableEq
def BR.den (ρ : Env) : BR → Nat
  | .v k => (look ρ k).nat
  | .g n => n
inductive SA where
  | nil | v (k : Nat) | b (r : BR) (off : Nat)
  deriving DecidableEq
def SA.den (ρ : Env) : SA → Option Addr
  | .nil => none
  | .v k => (look ρ k).adr
  | .b r off => some ⟨r.den ρ, off, none⟩
inductive A where
  | int (k : IntKind) (e : E) | bool (e : E) | str (e : E) | ptr (r : BR) (off : Nat) | eptr (s : Nat) (ix : E) (size off : Nat)
  | sl (s : SA) (len cap : E) | map (r : BR) | nilp | nilm | nilf | nili | val (k : Nat) | func (f : FuncId) (caps : List (BR × Nat))
  deriving DecidableEq
def oneC : Value → Value
  | .agg _ => .nilIface
  | .tuple _ => .nilIface
  | v => v
def capV (ρ : Env) (x : BR × Nat) : Value := .pointer (some ⟨x.1.den ρ, x.2, none⟩)
def A.den (ρ : Env) : A → Value
  | .int k e => .int k (e.den ρ).int
  | .bool e => .bool (e.den ρ).bool
  | .str e => .string ⟨(e.den ρ).str.toArray⟩
  | .ptr r off => .pointer (some ⟨r.den ρ, off, none⟩)
  | .eptr s ix size off => .pointer ((look ρ s).adr.map fun a => (a.add ((ix.den ρ).int.toNat * size)).add off)
  | .sl s len cap => .slice (s.den ρ) (len.den ρ).nat (cap.den ρ).nat
  | .map r => .map (some (r.den ρ))
  | .nilp => .pointer none
  | .nilm => .map none
  | .nilf => .nilFunc
  | .nili => .nilIface
  | .val k => oneC (look ρ k).val
  | .func f caps => .func (.func f) #[] (caps.map (capV ρ)).toArray
inductive W where
  | a (x : A) | agg (l : List A)
  deriving DecidableEq
def W.den (ρ : Env) : W → Value
  | .a x => x.den ρ
  | .agg l => .agg (l.map (A.den ρ)).toArray
inductive V where
  | w (x : W) | tup (l : List W) | nx (c k v : Nat)
  deriving DecidableEq
def V.den (ρ : Env) : V → Value
  | .w x => x.den ρ
  | .tup l => .tuple (l.map (W.den ρ)).toArray
  | .nx c k v => if (look ρ c).bool then .tuple #[.bool true, (look ρ k).val, (look ρ v).val] else .tuple #[.bool false]

inductive Key where
  | b (r : BR) | a (k : Nat)
  deriving DecidableEq
inductive C where
  | cells (l : List A) (ty : TypeId) | emap | prop (k : Nat) | dfr
  deriving DecidableEq
abbrev Hp := List (Key × C)
def cden (ρ : Env) (x : Key × C) : HP :=
  match x.2, x.1 with
  | .cells l ty, .b r => HP.one (r.den ρ) (.cells (l.map (A.den ρ)).toArray ty (0, 0))
  | .emap, .b r => HP.one (r.den ρ) (.map #[] 0)
  | .dfr, .b r => HP.one (r.den ρ) (.deferred (some []))
  | .prop k, _ => (look ρ k).hp
  | _, _ => HP.pure False
def hden (ρ : Env) : Hp → HP
  | [] => HP.tt
  | x :: r => match r with
    | [] => cden ρ x
    | _ :: _ => HP.sep (cden ρ x) (hden ρ r)

inductive So where
  | n | i | c | s | a | v | p
  deriving DecidableEq
def exs : List So → Env → (Env → HP) → HP
  | [], ρ, f => f ρ
  | .n :: r, ρ, f => HP.ex fun x : Nat => exs r (ρ ++ [.n x]) f
  | .i :: r, ρ, f => HP.ex fun x : Int => exs r (ρ ++ [.i x]) f
  | .c :: r, ρ, f => HP.ex fun x : Bool => exs r (ρ ++ [.c x]) f
  | .s :: r, ρ, f => HP.ex fun x : List UInt8 => exs r (ρ ++ [.s x]) f
  | .a :: r, ρ, f => HP.ex fun x : Option Addr => exs r (ρ ++ [.a x]) f
  | .v :: r, ρ, f => HP.ex fun x : Value => exs r (ρ ++ [.v x]) f
  | .p :: r, ρ, f => HP.ex fun x : HP => exs r (ρ ++ [.p x]) f
def exP : List So → Env → (Env → Prop) → Prop
  | [], ρ, f => f ρ
  | .n :: r, ρ, f => ∃ x : Nat, exP r (ρ ++ [.n x]) f
  | .i :: r, ρ, f => ∃ x : Int, exP r (ρ ++ [.i x]) f
  | .c :: r, ρ, f => ∃ x : Bool, exP r (ρ ++ [.c x]) f
  | .s :: r, ρ, f => ∃ x : List UInt8, exP r (ρ ++ [.s x]) f
  | .a :: r, ρ, f => ∃ x : Option Addr, exP r (ρ ++ [.a x]) f
  | .v :: r, ρ, f => ∃ x : Value, exP r (ρ ++ [.v x]) f
  | .p :: r, ρ, f => ∃ x : HP, exP r (ρ ++ [.p x]) f
def allP : List So → Env → (Env → Prop) → Prop
  | [], ρ, f => f ρ
  | .n :: r, ρ, f => ∀ x : Nat, allP r (ρ ++ [.n x]) f
  | .i :: r, ρ, f => ∀ x : Int, allP r (ρ ++ [.i x]) f
  | .c :: r, ρ, f => ∀ x : Bool, allP r (ρ ++ [.c x]) f
  | .s :: r, ρ, f => ∀ x : List UInt8, allP r (ρ ++ [.s x]) f
  | .a :: r, ρ, f => ∀ x : Option Addr, allP r (ρ ++ [.a x]) f
  | .v :: r, ρ, f => ∀ x : Value, allP r (ρ ++ [.v x]) f
  | .p :: r, ρ, f => ∀ x : HP, allP r (ρ ++ [.p x]) f
def Cur (α : Type) : List So → Type
  | [] => α
  | .n :: r => Nat → Cur α r
  | .i :: r => Int → Cur α r
  | .c :: r => Bool → Cur α r
  | .s :: r => List UInt8 → Cur α r
  | .a :: r => Option Addr → Cur α r
  | .v :: r => Value → Cur α r
  | .p :: r => HP → Cur α r
def Cur.app {α : Type} : (l : List So) → Cur α l → Env → α
  | [], f, _ => f
  | .n :: r, f, ρ => Cur.app r (f (look ρ 0).nat) (ρ.drop 1)
  | .i :: r, f, ρ => Cur.app r (f (look ρ 0).int) (ρ.drop 1)
  | .c :: r, f, ρ => Cur.app r (f (look ρ 0).bool) (ρ.drop 1)
  | .s :: r, f, ρ => Cur.app r (f (look ρ 0).str) (ρ.drop 1)
  | .a :: r, f, ρ => Cur.app r (f (look ρ 0).adr) (ρ.drop 1)
  | .v :: r, f, ρ => Cur.app r (f (look ρ 0).val) (ρ.drop 1)
  | .p :: r, f, ρ => Cur.app r (f (look ρ 0).hp) (ρ.drop 1)

inductive FV where
  | n (r : BR) | e (e : E) | a (s : SA) | v (x : A) | p (h : Hp)
  deriving DecidableEq
def FV.den (ρ : Env) : FV → Uni
  | .n r => .n (r.den ρ)
  | .e y => y.den ρ
  | .a s => .a (s.den ρ)
  | .v x => .v (x.den ρ)
  | .p h => .p (hden ρ h)

inductive T where
  | ret (v : V) (h : Hp)
  | br (c : E) (a b : T)
  | need (c : E) (k : T)
  | new (k : T)
  | call (f : FuncId) (args : List W) (c : Hp) (ss : List So) (r : V) (nb : Hp) (k : T)
  | op (o : Op) (ty : TypeId) (ar : List (Nat × V)) (c : Hp) (ss : List So) (r : V) (nb : Hp) (k : T)
  | read (o : Op) (ty : TypeId) (ar : List (Nat × V)) (c : Hp) (ss : List So) (r : V) (k : T)
  | loop (ss : List So) (init : List FV) (body : T)
  | again (d : Nat) (fr : List FV)
  | all (a b : T)
  | fail (why : Nat)
  | callv (v : Nat) (args : List W) (c : Hp) (ss : List So) (r : V) (nb : Hp) (k : T)
  | rangef (g : A) (c sh : Hp) (ss : List So) (init : List FV) (pss : List So) (pvs : List W) (pch : Hp) (rnd aft : T)
  | join (ss : List So) (reg k : T)
  | callm (v : Nat) (name : String) (args : List W) (c : Hp) (ss : List So) (r : V) (nb : Hp) (k : T)

def arEval (ρ : Env) (ar : List (Nat × V)) : Operand → Value
  | .tmp t => match ar.find? (·.1 == t) with
    | some x => x.2.den ρ
    | none => undef
  | .const v => v
  | .global g => .pointer (some ⟨g, 0, none⟩)
  | .func f => .func (.func f) #[] #[]
def semOf (ρ : Env) (o : Op) (ty : TypeId) (ar : List (Nat × V)) : Sem Next := execOp (arEval ρ ar) { dst := none, op := o, type := ty, pos := "", after := #[], guard := none }

def T.den (P : Program) (post : Value → HP) : T → List (Env → Prop) → Env → Prop
  | .ret v h, _, ρ => HP.ent (hden ρ h) (post (v.den ρ))
  | .br c a b, L, ρ => (c.prop ρ → a.den P post L ρ) ∧ (¬ c.prop ρ → b.den P post L ρ)
  | .need c k, L, ρ => c.prop ρ ∧ (c.prop ρ → k.den P post L ρ)
  | .new k, L, ρ => ∀ x : Nat, k.den P post L (ρ ++ [.n x])
  | .call f args c ss r nb k, L, ρ => Tri P f (args.map (W.den ρ)).toArray (hden ρ c) fun v => exs ss ρ fun ρ' => HP.and (v = r.den ρ') (HP.and (k.den P post L ρ') (hden ρ' nb))
  | .op o ty ar c ss r nb k, L, ρ => OTri P (semOf ρ o ty ar) (hden ρ c) fun v => exs ss ρ fun ρ' => HP.and (v = r.den ρ') (HP.and (k.den P post L ρ') (hden ρ' nb))
  | .read o ty ar c ss r k, L, ρ => exP ss ρ fun ρ' => ORead P (semOf ρ o ty ar) (hden ρ c) (r.den ρ') ∧ k.den P post L ρ'
  | .loop ss init body, L, ρ => ∃ (I : Cur Prop ss) (μ : Cur Nat ss), Cur.app ss I (init.map (FV.den ρ)) ∧
      allP ss ρ fun ρ' => Cur.app ss I (ρ'.drop ρ.length) → body.den P post ((fun ys => Cur.app ss I ys ∧ Cur.app ss μ ys < Cur.app ss μ (ρ'.drop ρ.length)) :: L) ρ'
  | .again d fr, L, ρ => match L[d]? with
    | some X => X (fr.map (FV.den ρ))
    | none => False
  | .all a b, L, ρ => a.den P post L ρ ∧ b.den P post L ρ
  | .fail _, _, _ => False
  | .callv v args c ss r nb k, L, ρ => VTri P (look ρ v).val (args.map (W.den ρ)).toArray (hden ρ c) fun v => exs ss ρ fun ρ' => HP.and (v = r.den ρ') (HP.and (k.den P post L ρ') (hden ρ' nb))
  | .rangef g c sh ss init pss pvs pch rnd aft, L, ρ => ∃ (γ : Type) (Sh : γ → HP) (Pr : γ → Array Value → HP) (may : γ → Array Value → γ → Prop) (fin : γ → Prop) (g0 : γ) (I : γ → Cur Prop ss),
      SeqTri P (g.den ρ) (hden ρ c) Sh Pr may fin g0 ∧ Cur.app ss (I g0) (init.map (FV.den ρ)) ∧
      (∀ g, allP ss ρ fun ρ' => Cur.app ss (I g) (ρ'.drop ρ.length) → Sh g = hden ρ' sh) ∧
      (∀ g args, (∃ g', may g args g') → allP ss ρ fun ρ' => Cur.app ss (I g) (ρ'.drop ρ.length) → exP pss ρ' fun ρ'' => args = (pvs.map (W.den ρ'')).toArray ∧ HP.ent (Pr g args) (hden ρ'' pch) ∧
        rnd.den P post ((fun ys => ∃ g', may g args g' ∧ Cur.app ss (I g') ys) :: L) ρ'') ∧
      (∀ g, fin g → allP ss ρ fun ρ' => Cur.app ss (I g) (ρ'.drop ρ.length) → aft.den P post L ρ')
  | .join ss reg k, L, ρ => ∃ I : Cur Prop ss, reg.den P post ((fun ys => Cur.app ss I ys) :: L) ρ ∧ allP ss ρ fun ρ' => Cur.app ss I (ρ'.drop ρ.length) → k.den P post L ρ'
  | .callm v name args c ss r nb k, L, ρ => MTri P (look ρ v).val name (args.map (W.den ρ)).toArray (hden ρ c) fun v => exs ss ρ fun ρ' => HP.and (v = r.den ρ') (HP.and (k.den P post L ρ') (hden ρ' nb))
end Go.Proofs.YtcpjdfihpdjkbaaGreatDoor.RX



namespace Go.Proofs.YtcpjdfihpdjkbaaGreatDoor.RX
open Go.Proofs.YtcpjdfihpdjkbaaGreatDoor

structure JH where
  ask : Bool := false
  ss : List So := []
  n : Nat := 0
  tv : List (Tmp × Option V) := []
  h : Hp := []
  lk : List (Nat × Key) := []
structure Cfg where
  absT : List TypeId := []
  opq : List TypeId := []
  hv : List (Nat × List Key) := []
  keep : List FuncId := []
  link : List (FuncId × Nat) := []
  turn : List (FuncId × List Nat) := []
  ent : List (Tmp × List TypeId) := []
  shr : List (Nat × List Key) := []
  vt : List Key := []
  mkd : List Tmp := []
  rlink : List (FuncId × Nat × Nat) := []
  pty : List (Nat × List TypeId) := []
  outl : Bool := false
  stay : List Key := []
  snk : List (Nat × List Key) := []
  jn : List ((Nat × Nat) × Option JH) := []
  jd : Bool := false
  opn : Bool := false
  peek : List TypeId := []
  rdf : Bool := false
  cel : List (Nat × Key × List Nat) := []
  apa : Bool := false
  cut : List FuncId := []
  hlk : List (Nat × Nat × Key) := []
  stc : List (Key × List Nat) := []
  jb : Bool := false
  nj : List Nat := []
  vlk : Bool := false
structure S where
  t : List (Option V)
  h : Hp
  n : Nat
  kn : List (E × Bool)
  lk : List (Nat × Key)
  dp : Nat
  blk : Nat
  df : List BR


def E.bel (n : Nat) : E → Bool
  | .v k => Nat.blt k n
  | .o1 _ a => a.bel n
  | .o2 _ a b => a.bel n && b.bel n
  | _ => true
def BR.bel (n : Nat) : BR → Bool
  | .v k => Nat.blt k n
  | .g _ => true
def SA.bel (n : Nat) : SA → Bool
  | .nil => true
  | .v k => Nat.blt k n
  | .b r _ => r.bel n
def A.bel (n : Nat) : A → Bool
  | .int _ e => e.bel n
  | .bool e => e.bel n
  | .str e => e.bel n
  | .ptr r _ => r.bel n
  | .eptr s ix _ _ => Nat.blt s n && ix.bel n
  | .sl s l c => s.bel n && l.bel n && c.bel n
  | .map r => r.bel n
  | .val k => Nat.blt k n
  | .func _ cs => cs.all fun x => x.1.bel n
  | _ => true
def W.bel (n : Nat) : W → Bool
  | .a x => x.bel n
  | .agg l => l.all (A.bel n)
def V.bel (n : Nat) : V → Bool
  | .w x => x.bel n
  | .tup l => l.all (W.bel n)
  | .nx c k v => Nat.blt c n && Nat.blt k n && Nat.blt v n
def Key.bel (n : Nat) : Key → Bool
  | .b r => r.bel n
  | .a k => Nat.blt k n
def C.bel (n : Nat) : C → Bool
  | .cells l _ => l.all (A.bel n)
  | .emap => true
  | .dfr => true
  | .prop k => Nat.blt k n
def hbel (n : Nat) (h : Hp) : Bool := h.all fun x => x.1.bel n && x.2.bel n
def S.bel (s : S) : Bool := (s.t.all fun | some v => v.bel s.n | none => true) && hbel s.n s.h && s.df.all (BR.bel s.n) && s.kn.all fun x => x.1.bel s.n


def S.put (s : S) (d : Option Tmp) (v : V) : S := match d with
  | some k => { s with t := s.t.set k (some v) }
  | none => s
def mapM' {α β : Type} (f : α → Option β) : List α → Option (List β)
  | [] => some []
  | x :: r => match f x with
    | some y => match mapM' f r with
      | some l => some (y :: l)
      | none => none
    | none => none
def ofVal1 : Value → Option A
  | .int k n => some (.int k (.i n))
  | .bool b => some (.bool (.c b))
  | .string s => some (.str (.s s.data.toList))
  | .pointer none => some .nilp
  | .slice none 0 0 => some (.sl .nil (.n 0) (.n 0))
  | .map none => some .nilm
  | .nilFunc => some .nilf
  | .nilIface => some .nili
  | _ => none
def ofVal : Value → Option W
  | .agg cs => (mapM' ofVal1 cs.toList).map .agg
  | v => (ofVal1 v).map .a
def ev (s : S) : Operand → Option V
  | .tmp t => match s.t[t]? with
    | some o => o
    | none => none
  | .const v => (ofVal v).map .w
  | .global g => some (.w (.a (.ptr (.g g) 0)))
  | .func f => some (.w (.a (.func f [])))
def evA (s : S) (x : Operand) : Option A := match ev s x with
  | some (.w (.a y)) => some y
  | _ => none
def evW (s : S) (x : Operand) : Option W := match ev s x with
  | some (.w y) => some y
  | _ => none
def W.list : W → List A
  | .a x => [x]
  | .agg l => l
def aggT (P : Program) (t : TypeId) : Bool := match P.underlying t with
  | some (.struct _) => true
  | some (.array _ _) => true
  | _ => false
def szT (P : Program) (t : TypeId) : Nat := match P.info? t with
  | some i => i.size
  | none => 0
def partA (P : Program) (t : TypeId) (l : List A) (off : Nat) : Option W := match P.underlying t with
  | none => none
  | some _ => if aggT P t then (if off + szT P t ≤ l.length then some (.agg ((l.drop off).take (szT P t))) else none) else (l[off]?).map .a
def isLit : E → Option Bool
  | .c b => some b
  | _ => none
def knowsL : List (E × Bool) → E → Option Bool
  | [], _ => none
  | (x, b) :: r, e => if x = e then some b else if x = .o1 .not e then some (!b) else if e = .o1 .not x then some (!b) else knowsL r e
def knows (l : List (E × Bool)) (e : E) : Option Bool := match isLit e with
  | some b => some b
  | none => knowsL l e
def noT : E → E
  | .c b => .c (!b)
  | e => .o1 .not e
def cmpE (f : F2) (a b : E) : E := match f, a, b with
  | .lt, .i x, .i y => .c (decide (x < y))
  | .le, .i x, .i y => .c (decide (x ≤ y))
  | .eq, .i x, .i y => .c (decide (x = y))
  | _, _, _ => .o2 f a b
def need1 (e : E) (l : List E) : List E := match e with
  | .c true => l
  | _ => e :: l
def rng (k : IntKind) (e : E) : E := match e with
  | .i x => if k.min ≤ x ∧ x ≤ k.max then .c true else .o1 (.inr k) e
  | _ => .o1 (.inr k) e
def arith (op : BinOp) (a b : E) : Option E := match op, a, b with
  | .add, .i x, .i y => some (.i (x + y))
  | .sub, .i x, .i y => some (.i (x - y))
  | .mul, .i x, .i y => some (.i (x * y))
  | .add, _, _ => some (.o2 .add a b)
  | .sub, _, _ => some (.o2 .sub a b)
  | .mul, _, _ => some (.o2 .mul a b)
  | _, _, _ => none
def binInt (op : BinOp) (k : IntKind) (a b : E) : Option (List E × A) := match op with
  | .add | .sub | .mul => match arith op a b with
    | some e => if k.signed then some (need1 (rng k e) [], .int k e) else some ([], .int k (.o1 (.wrap k) e))
    | none => none
  | .quo => match a, b with
    | .i x, .i y => if y ≠ 0 ∧ k.min ≤ x.tdiv y ∧ x.tdiv y ≤ k.max then some ([], .int k (.i (x.tdiv y))) else none
    | _, _ => some (need1 (noT (cmpE .eq b (.i 0))) (need1 (rng k (.o2 .quo a b)) []), .int k (.o2 .quo a b))
  | .rem => match a, b with
    | .i x, .i y => if y ≠ 0 then some ([], .int k (.i (x.tmod y))) else none
    | _, _ => some (need1 (noT (cmpE .eq b (.i 0))) [], .int k (.o2 .rem a b))
  | .and | .or | .xor | .andNot => some ([], .int k (.o2 (.bit op k) a b))
  | .eql => some ([], .bool (cmpE .eq a b))
  | .neq => some ([], .bool (noT (cmpE .eq a b)))
  | .lss => some ([], .bool (cmpE .lt a b))
  | .leq => some ([], .bool (cmpE .le a b))
  | .gtr => some ([], .bool (cmpE .lt b a))
  | .geq => some ([], .bool (cmpE .le b a))
  | _ => none
def fitsIn (a b : IntKind) : Bool := decide (b.min ≤ a.min) && decide (a.max ≤ b.max)
def isNilT : A → Option E
  | .nilp => some (.c true)
  | .nilm => some (.c true)
  | .nilf => some (.c true)
  | .ptr _ _ => some (.c false)
  | .map _ => some (.c false)
  | .func _ _ => some (.c false)
  | .sl .nil _ _ => some (.c true)
  | .sl (.v k) _ _ => some (noT (.o1 .isSome (.v k)))
  | .sl (.b _ _) _ _ => some (.c false)
  | _ => none
def isNilC : A → Bool
  | .nilp => true
  | .nilm => true
  | .nilf => true
  | .sl .nil (.n 0) (.n 0) => true
  | _ => false
def nilKind (P : Program) (t : TypeId) (x : A) : Bool := match P.underlying t, x with
  | some (.pointer _), .nilp => true
  | some (.pointer _), .ptr _ _ => true
  | some (.map _ _), .nilm => true
  | some (.map _ _), .map _ => true
  | some (.slice _), .sl _ _ _ => true
  | some (.func _ _ _), .nilf => true
  | some (.func _ _ _), .func _ _ => true
  | _, _ => false
def boolT (P : Program) (t : TypeId) : Bool := match P.underlying t with
  | some .bool => true
  | _ => false
def strT (P : Program) (t : TypeId) : Bool := match P.underlying t with
  | some .string => true
  | _ => false
def binA (P : Program) (op : BinOp) (t : TypeId) (x y : A) : Option (List E × A) := match op, x, y with
  | .shl, .int k a, .int _ b => some (need1 (cmpE .le (.i 0) b) [], .int k (.o2 (.shl k) a b))
  | .shr, .int k a, .int _ b => some (need1 (cmpE .le (.i 0) b) [], .int k (.o2 (.shr k) a b))
  | _, .int k a, .int k' b => if k = k' then binInt op k a b else none
  | .eql, .bool a, .bool b => if boolT P t then some ([], .bool (.o2 .beq a b)) else none
  | .neq, .bool a, .bool b => if boolT P t then some ([], .bool (noT (.o2 .beq a b))) else none
  | .eql, .str a, .str b => some ([], .bool (.o2 .seq a b))
  | .neq, .str a, .str b => some ([], .bool (noT (.o2 .seq a b)))
  | .add, .str a, .str b => some ([.o2 .le (.o1 .ofNat (.o2 .nadd (.o1 .size a) (.o1 .size b))) (.i 9223372036854775807)], .str (.o2 .cat a b))
  | .lss, .str a, .str b => some ([], .bool (.o2 .slt a b))
  | .eql, a, b => if isNilC b && nilKind P t a && nilKind P t b then (isNilT a).map fun e => ([], .bool e) else if isNilC a && nilKind P t a && nilKind P t b then (isNilT b).map fun e => ([], .bool e) else none
  | .neq, a, b => if isNilC b && nilKind P t a && nilKind P t b then (isNilT a).map fun e => ([], .bool (noT e)) else if isNilC a && nilKind P t a && nilKind P t b then (isNilT b).map fun e => ([], .bool (noT e)) else none
  | _, _, _ => none
def capOf : V → Option (BR × Nat)
  | .w (.a (.ptr r off)) => some (r, off)
  | _ => none
def pickE (e : E) (a b : E) : E := match a, b with
  | .c true, _ => .o2 .or e b
  | _, .c false => .o2 .and e a
  | _, _ => .o2 .or (.o2 .and e a) (.o2 .and (noT e) b)
def natLit : E → Option Nat
  | .i x => if 0 ≤ x then some x.toNat else none
  | _ => none
def lenN : E → Option Nat
  | .n x => some x
  | _ => none
def findC (h : Hp) (k : Key) : Option C := match h with
  | [] => none
  | (x, c) :: r => if x = k then some c else findC r k

def pureMF (s : S) (fn : Fn) (first caps : Array Operand) : Option (List E × V) := match fn, first.toList with
  | .func f, [] => match mapM' (ev s) caps.toList with
    | some vs => (mapM' capOf vs).map fun cs => ([], .w (.a (.func f cs)))
    | none => none
  | _, _ => none
def pureLen (P : Program) (s : S) (x : Operand) (t : TypeId) : Option (List E × V) := match P.underlying t, evA s x with
  | some (.slice _), some (.sl _ len _) => some ([], .w (.a (.int .i64 (match len with | .n q => .i q | _ => .o1 .ofNat len))))
  | some .string, some (.str e) => some ([], .w (.a (.int .i64 (match e with | .s q => .i q.length | _ => .o1 .ofNat (.o1 .size e)))))
  | some (.map _ _), some .nilm => some ([], .w (.a (.int .i64 (.i 0))))
  | _, _ => none
def pureCap (P : Program) (s : S) (x : Operand) (t : TypeId) : Option (List E × V) := match P.underlying t, evA s x with
  | some (.slice _), some (.sl _ _ cap) => some ([], .w (.a (.int .i64 (.o1 .ofNat cap))))
  | _, _ => none
def pureMx (f : F2) (s : S) (x y : Operand) : Option (List E × V) := match evA s x, evA s y with
  | some (.int k a), some (.int k' b) => if k = k' then some ([], .w (.a (.int k (.o2 f a b)))) else none
  | _, _ => none
def pureCall (P : Program) (s : S) (c : Call) : Option (List E × V) := match c.callee, c.args.toList, c.argTypes.toList with
  | .builtin .len, [x], [t] => pureLen P s x t
  | .builtin .cap, [x], [t] => pureCap P s x t
  | .builtin .max, [x, y], _ => pureMx .mx s x y
  | .builtin .min, [x, y], _ => pureMx .mn s x y
  | _, _, _ => none
def pureIx (P : Program) (s : S) (t : TypeId) (x ix : Operand) : Option (List E × V) := match P.underlying t, evA s x, evA s ix with
  | some (.slice el), some (.sl (.v k) len _), some (.int _ e) => if (P.info? el).isSome then some (need1 (cmpE .le (.i 0) e) [.o2 .lt e (.o1 .ofNat len), .o1 .isSome (.v k)], .w (.a (.eptr k e (szT P el) 0))) else none
  | some (.slice el), some (.sl (.b r off) len _), some (.int _ e) => match natLit e, lenN len with
    | some i, some n => if i < n ∧ (P.info? el).isSome then some ([], .w (.a (.ptr r (off + i * szT P el)))) else none
    | _, _ => none
  | some (.array n el), some (.ptr r off), some (.int _ e) => match natLit e with
    | some i => if i < n ∧ (P.info? el).isSome then some ([], .w (.a (.ptr r (off + i * szT P el)))) else none
    | none => none
  | _, _, _ => none
def pureOp (P : Program) (s : S) : Op → Option (List E × V)
  | .move x | .assign x => (ev s x).map fun v => ([], v)
  | .pick c a b => match evA s c with
    | some (.bool e) => match knows s.kn e with
      | some true => (ev s a).map fun v => ([], v)
      | some false => (ev s b).map fun v => ([], v)
      | none => match evA s a, evA s b with
        | some (.bool x), some (.bool y) => some ([], .w (.a (.bool (pickE e x y))))
        | _, _ => none
    | _ => none
  | .nilCheck x => match ev s x with
    | some (.w (.a (.ptr r off))) => some ([], .w (.a (.ptr r off)))
    | some (.w (.a (.func f cs))) => some ([], .w (.a (.func f cs)))
    | some (.w (.a (.eptr k ix sz off))) => if knows s.kn (.o1 .isSome (.v k)) = some true then some ([], .w (.a (.eptr k ix sz off))) else none
    | _ => none
  | .fieldAddr t x f => match P.underlying t with
    | some (.struct fs) => match fs[f]? with
      | some fd => if szT P fd.type = 0 then none else match evA s x with
        | some (.ptr r off) => some ([], .w (.a (.ptr r (off + fd.offset))))
        | some (.eptr k ix sz off) => if knows s.kn (.o1 .isSome (.v k)) = some true then some ([], .w (.a (.eptr k ix sz (off + fd.offset)))) else none
        | _ => none
      | none => none
    | _ => none
  | .field t x f => match P.underlying t with
    | some (.struct fs) => match fs[f]? with
      | some fd => match evW s x with
        | some (.agg l) => (partA P fd.type l fd.offset).map fun w => ([], .w w)
        | _ => none
      | none => none
    | _ => none
  | .extract x i => match ev s x with
    | some (.tup l) => (l[i]?).map fun w => ([], .w w)
    | some (.nx c _ _) => if i = 0 then some ([], .w (.a (.bool (.v c)))) else none
    | _ => none
  | .load t a => match evA s a with
    | some (.ptr r off) => match findC s.h (.b r) with
      | some (.cells l _) => (partA P t l off).map fun w => ([], .w w)
      | _ => none
    | _ => none
  | .binOp op t x y _ => match evA s x, evA s y with
    | some a, some b => (binA P op t a b).map fun r => (r.1, .w (.a r.2))
    | _, _ => none
  | .unOp .not _ x => match evA s x with
    | some (.bool e) => some ([], .w (.a (.bool (noT e))))
    | _ => none
  | .unOp .neg _ x => match evA s x with
    | some (.int k e) => (binInt .sub k (.i 0) e).map fun r => (r.1, .w (.a r.2))
    | _ => none
  | .convert src dst x => match P.underlying src, P.underlying dst, evA s x with
    | some (.int sk), some (.int k), some (.int k' e) => if sk = k' then (if fitsIn sk k then some (need1 (rng k e) [], .w (.a (.int k e))) else some ([], .w (.a (.int k (.o1 (.wrap k) e))))) else none
    | some .string, some .string, some (.str e) => some ([], .w (.a (.str e)))
    | _, _, _ => none
  | .makeFunc fn first caps => pureMF s fn first caps
  | .indexAddr t x ix => pureIx P s t x ix
  | .call c => pureCall P s c
  | _ => none


structure Fresh where
  ss : List So
  l : List A
  h : Hp
  n : Nat
def refA (n : Nat) : A → Fresh
  | .int k _ => ⟨[.i], [.int k (.v n)], [], n + 1⟩
  | .bool _ => ⟨[.c], [.bool (.v n)], [], n + 1⟩
  | .str _ => ⟨[.s], [.str (.v n)], [], n + 1⟩
  | .ptr _ _ => ⟨[.n, .p], [.ptr (.v n) 0], [(.b (.v n), .prop (n + 1))], n + 2⟩
  | .sl _ _ _ => ⟨[.a, .n, .n, .p], [.sl (.v n) (.v (n + 1)) (.v (n + 2))], [(.a n, .prop (n + 3))], n + 4⟩
  | .map _ => ⟨[.n, .p], [.map (.v n)], [(.b (.v n), .prop (n + 1))], n + 2⟩
  | .func f cs => ⟨[], [.func f cs], [], n⟩
  | _ => ⟨[.v, .p], [.val n], [(.a n, .prop (n + 1))], n + 2⟩
def refAs (n : Nat) : List A → Fresh
  | [] => ⟨[], [], [], n⟩
  | x :: r =>
    let a := refA n x
    let b := refAs a.n r
    ⟨a.ss ++ b.ss, a.l ++ b.l, a.h ++ b.h, b.n⟩
def repF (f : Nat → Fresh) (n : Nat) : Nat → Fresh
  | 0 => ⟨[], [], [], n⟩
  | k + 1 =>
    let a := f n
    let b := repF f a.n k
    ⟨a.ss ++ b.ss, a.l ++ b.l, a.h ++ b.h, b.n⟩
def foldF (f : TypeId → Nat → Fresh) (n : Nat) : List TypeId → Fresh
  | [] => ⟨[], [], [], n⟩
  | t :: r =>
    let a := f t n
    let b := foldF f a.n r
    ⟨a.ss ++ b.ss, a.l ++ b.l, a.h ++ b.h, b.n⟩
def ownP (own : Bool) (k : Key) (ss : List So) (l : List A) (n : Nat) : Fresh := if own then ⟨ss ++ [.p], l, [(k, .prop n)], n + 1⟩ else ⟨ss, l, [], n⟩
def shT (P : Program) (cfg : Cfg) (own : Bool) : Nat → TypeId → Nat → Fresh
  | 0, _, n => ⟨[], [], [], n⟩
  | fuel + 1, t, n => match P.underlying t with
    | some .bool => ⟨[.c], [.bool (.v n)], [], n + 1⟩
    | some (.int k) => ⟨[.i], [.int k (.v n)], [], n + 1⟩
    | some .string => ⟨[.s], [.str (.v n)], [], n + 1⟩
    | some (.pointer _) => if cfg.opq.contains t then ownP own (.a n) [.v] [.val n] (n + 1) else ownP own (.b (.v n)) [.n] [.ptr (.v n) 0] (n + 1)
    | some (.slice _) => ownP own (.a n) [.a, .n, .n] [.sl (.v n) (.v (n + 1)) (.v (n + 2))] (n + 3)
    | some (.map _ _) => if cfg.opq.contains t then ownP own (.a n) [.v] [.val n] (n + 1) else ownP own (.b (.v n)) [.n] [.map (.v n)] (n + 1)
    | some (.struct fs) => foldF (shT P cfg own fuel) n (fs.toList.map (·.type))
    | some (.array k e) => repF (shT P cfg own fuel e) n k
    | _ => ownP own (.a n) [.v] [.val n] (n + 1)
def asW (P : Program) (t : TypeId) (l : List A) : W := if aggT P t then .agg l else match l with
  | [x] => .a x
  | _ => .agg l
structure FreshV where
  ss : List So
  v : V
  h : Hp
  n : Nat
def shTs (P : Program) (cfg : Cfg) (own : Bool) (n : Nat) : List TypeId → List So × List W × Hp × Nat
  | [] => ([], [], [], n)
  | t :: r =>
    let a := shT P cfg own 20 t n
    let b := shTs P cfg own a.n r
    (a.ss ++ b.1, asW P t a.l :: b.2.1, a.h ++ b.2.2.1, b.2.2.2)
def shR (P : Program) (cfg : Cfg) (own : Bool) (n : Nat) : List TypeId → FreshV
  | [t] =>
    let a := shT P cfg own 20 t n
    ⟨a.ss, .w (asW P t a.l), a.h, a.n⟩
  | ts =>
    let b := shTs P cfg own n ts
    ⟨b.1, .tup b.2.1, b.2.2.1, b.2.2.2⟩
def shO (P : Program) (cfg : Cfg) (own : Bool) (n : Nat) (t : TypeId) : FreshV := match P.underlying t with
  | some (.tuple ts) => shR P cfg own n ts.toList
  | _ => shR P cfg own n [t]


def keysA : A → List Key
  | .ptr r _ => [.b r]
  | .eptr k _ _ _ => [.a k]
  | .sl (.v k) _ _ => [.a k]
  | .sl (.b r _) _ _ => [.b r]
  | .map r => [.b r]
  | .func _ cs => cs.map fun x => .b x.1
  | .val k => [.a k]
  | _ => []
def keysV : V → List Key
  | .w x => x.list.flatMap keysA
  | .tup l => l.flatMap fun x => x.list.flatMap keysA
  | .nx _ k v => [.a k, .a v]
def linkOf (lk : List (Nat × Key)) : Key → List Key
  | .b (.v k) => (lk.filter fun x => x.1 == k).map (·.2)
  | .a k => (lk.filter fun x => x.1 == k).map (·.2)
  | _ => []
def reach (h : Hp) (lk : List (Nat × Key)) : Nat → List Key → List Key → List Key
  | 0, _, acc => acc
  | _, [], acc => acc
  | fuel + 1, k :: todo, acc =>
    if acc.contains k then reach h lk fuel todo acc
    else
      let more := linkOf lk k ++ match findC h k with
        | some (.cells l _) => l.flatMap keysA
        | _ => []
      reach h lk fuel (more ++ todo) (acc ++ [k])
def pickH (h : Hp) : List Key → Hp
  | [] => []
  | k :: r => match findC h k with
    | some c => (k, c) :: pickH h r
    | none => pickH h r
def nodupH : Hp → Bool
  | [] => true
  | x :: r => !r.contains x && nodupH r
def subH (m l : Hp) : Bool := nodupH m && m.all fun x => l.contains x
structure Back where
  ss : List So
  h : Hp
  n : Nat
def backs (cfg : Cfg) (h : Hp) (n : Nat) : List Key → Back
  | [] => ⟨[], [], n⟩
  | k :: r => match findC h k with
    | none => backs cfg h n r
    | some (.cells l ty) =>
      if cfg.absT.contains ty then
        let b := backs cfg h (n + 1) r
        ⟨.p :: b.ss, (k, .prop n) :: b.h, b.n⟩
      else
        let a := refAs n l
        let b := backs cfg h a.n r
        ⟨a.ss ++ b.ss, (k, .cells a.l ty) :: a.h ++ b.h, b.n⟩
    | some _ =>
      let b := backs cfg h (n + 1) r
      ⟨.p :: b.ss, (k, .prop n) :: b.h, b.n⟩

def refSome (ks : List Nat) : Nat → Nat → List A → Fresh
  | _, n, [] => ⟨[], [], [], n⟩
  | i, n, x :: r =>
    if ks.contains i then
      let a := refA n x
      let b := refSome ks (i + 1) a.n r
      ⟨a.ss ++ b.ss, a.l ++ b.l, a.h ++ b.h, b.n⟩
    else
      let b := refSome ks (i + 1) n r
      ⟨b.ss, x :: b.l, b.h, b.n⟩
def backsC (cfg : Cfg) (h : Hp) (n : Nat) : List Key → Back
  | [] => ⟨[], [], n⟩
  | k :: r => match cfg.stc.find? (·.1 = k), findC h k with
    | some x, some (.cells l ty) =>
      let a := refSome x.2 0 n l
      let b := backsC cfg h a.n r
      ⟨a.ss ++ b.ss, (k, .cells a.l ty) :: a.h ++ b.h, b.n⟩
    | _, _ =>
      let a := backs cfg h n [k]
      let b := backsC cfg h a.n r
      ⟨a.ss ++ b.ss, a.h ++ b.h, b.n⟩


def brE (s : S) (e : E) (kt kf : S → T) : T := match knows s.kn e with
  | some true => kt s
  | some false => kf s
  | none => if s.bel && e.bel s.n then .br e (kt { s with kn := (e, true) :: s.kn }) (kf { s with kn := (e, false) :: s.kn }) else .fail 1
def needs : List E → (S → T) → S → T
  | [], K, s => K s
  | e :: r, K, s => if knows s.kn e = some true then needs r K s else if e.bel s.n then .need e (needs r K { s with kn := (e, true) :: s.kn }) else .fail 2
def opTmps (o : Op) : List Tmp := o.operands.toList.filterMap fun | .tmp t => some t | _ => none
def arOf (s : S) : List Tmp → Option (List (Nat × V))
  | [] => some []
  | t :: r => match ev s (.tmp t) with
    | some v => (arOf s r).map fun l => (t, v) :: l
    | none => none
def ptrT (P : Program) (t : TypeId) : Bool := match P.underlying t with
  | some (.pointer _) => true
  | _ => false
def funT (P : Program) (t : TypeId) : Bool := match P.underlying t with
  | some (.func _ _ _) => true
  | _ => false
def refT (P : Program) (t : TypeId) : Bool := ptrT P t || match P.underlying t with
  | some (.struct fs) => fs.any fun f => ptrT P f.type
  | _ => false
def isReadOp : Op → Bool
  | .lookup .. | .load .. | .binOp .. | .index .. | .slice .. | .field .. | .typeAssert .. => true
  | .call { callee := .builtin .len, .. } => true
  | .call { callee := .builtin .max, .. } => true
  | .call { callee := .builtin .min, .. } => true
  | .convert .. => true
  | .entry _ => true
  | .nilCheck _ => true
  | .fieldAddr .. => true
  | .indexAddr .. => true
  | _ => false
def slT (P : Program) (t : TypeId) : Bool := match P.underlying t with
  | some (.slice _) => true
  | _ => false
def isConv : Op → Bool
  | .convert .. => true
  | _ => false
def makes (P : Program) : Op → Bool
  | .convert src dst _ => strT P src || (slT P src && slT P dst)
  | .load t _ => ptrT P t
  | .lookup t _ _ _ => match P.underlying t with
    | some (.map _ e) => ptrT P e
    | _ => false
  | _ => false
def noRes : Op → Bool
  | .store .. | .mapUpdate .. | .insert .. | .entryStore .. => true
  | _ => false
def subKeys (v : V) : List Nat := (keysV v).filterMap fun
  | .a k => some k
  | _ => none
def takenOut : Nat := 1000000
def farK (s : S) (x : A) : List Key := (keysA x) ++ (keysA x).flatMap (linkOf s.lk)
def mapKeys (v : V) : List Nat := (keysV v).filterMap fun
  | .b (.v k) => some k
  | _ => none
def numOf : Key → List Nat
  | .b (.v k) => [k]
  | .a k => [k]
  | _ => []
def linksOf (o : Op) (s : S) (n : Nat) (v : V) : List (Nat × Key) := match o with
  | .nilCheck x => match evA s x, v with
    | some (.val k), .w (.a (.ptr (.v j) _)) => if s.n ≤ j then (farK s (.val k)).map fun q => (j, q) else []
    | _, _ => []
  | .fieldAddr _ x _ => match evA s x, v with
    | some y, .w (.a (.val k)) => (farK s y).map fun q => (k, q)
    | _, _ => []
  | .indexAddr _ x _ => match evA s x, v with
    | some y, .w (.a (.val k)) => (farK s y).map fun q => (k, q)
    | _, _ => []
  | .call c => match c.callee, v with
    | .value (.func _), .w (.a (.val k)) => (c.args.toList.flatMap fun x => match evA s x with | some y => farK s y | none => []).map fun q => (k, q)
    | _, _ => []
  | .convert _ _ x => match evA s x, v with
    | some a, .w (.a (.sl (.v k) _ _)) => (keysA a).map fun q => (k, q)
    | some a, .w (.a (.val k)) => (farK s a).map fun q => (k, q)
    | _, _ => []
  | .slice _ x .. => match evA s x, v with
    | some a, .w (.a (.sl (.v k) _ _)) => (keysA a).map fun q => (k, q)
    | _, _ => []
  | .range _ x => match evA s x with
    | some a => (keysA a).map fun q => (n, q)
    | _ => []
  | .load _ x => match evA s x, v with
    | some (.eptr k _ _ _), .w (.a (.ptr r _)) => [(k, .b r), (k + takenOut, .b r)]
    | some (.eptr k _ _ _), .w (.agg l) => l.flatMap fun
      | .ptr r _ => [(k, .b r), (k + takenOut, .b r)]
      | .val j => [(k, .a j), (k + takenOut, .a j)]
      | .sl (.v j) _ _ => [(j, .a k)]
      | _ => []
    | some y, v => ((subKeys v).flatMap fun k => (keysA y).map fun q => (k, q)) ++ (mapKeys v).flatMap fun k => (farK s y).map fun q => (k, q)
    | _, _ => []
  | .lookup _ x _ _ => match evA s x with
    | some y => ((subKeys v).flatMap fun k => (farK s y).map fun q => (k, q)) ++ (mapKeys v).flatMap fun k => (farK s y).flatMap fun q => (numOf q).flatMap fun j => [(j, .b (.v k)), (j + takenOut, .b (.v k))]
    | _ => []
  | .entry x => match evA s x with
    | some y => (subKeys v).flatMap fun k => ((keysA y).flatMap (linkOf s.lk)).map fun q => (k, q)
    | _ => []
  | _ => []
def isAppC (c : Call) : Bool := match c.callee with
  | .builtin .append => true
  | _ => false
def firstOf (P : Program) (cfg : Cfg) : Op → List Operand × Bool
  | .mapUpdate t m _ _ | .insert t m _ _ => ([m], match P.underlying t with | some (.map _ e) => ptrT P e || funT P e | _ => false)
  | .mapEntry _ m _ => ([m], false)
  | .entryStore t m _ _ => ([m], match P.underlying t with | some (.map _ e) => ptrT P e || funT P e || slT P e | _ => false)
  | .store t ad _ => ([ad], ptrT P t || (cfg.opn && slT P t))
  | .call c => match c.callee with
    | .builtin _ => (c.args.toList.take 1, match c.argTypes.toList with
      | t :: _ => match P.underlying t with
        | some (.slice e) => refT P e || (cfg.apa && isAppC c)
        | _ => false
      | [] => false)
    | _ => (c.operands.toList, true)
  | .load _ x => ([x], false)
  | .lookup _ x _ _ => ([x], false)
  | o => (o.operands.toList, true)
def resO (P : Program) (cfg : Cfg) (n : Nat) (o : Oper) : FreshV := if noRes o.op then ⟨[], .tup [], [], n⟩ else match o.op with
  | .next _ false => ⟨[.c, .v, .v], .nx n (n + 1) (n + 2), [], n + 3⟩
  | .range _ _ => ⟨[.n, .p], .w (.a (.ptr (.v n) 0)), [(.b (.v n), .prop (n + 1))], n + 2⟩
  | .entry _ => match o.dst with
    | some d => match cfg.ent.find? (·.1 == d) with
      | some x =>
        let b := shTs P cfg true n x.2
        ⟨b.1, .tup b.2.1, b.2.2.1, b.2.2.2⟩
      | none => shO P cfg true n o.type
    | none => shO P cfg true n o.type
  | .mapEntry t _ _ => match P.underlying t with
    | some (.map _ e) =>
      let b := shTs P cfg true n [e]
      ⟨b.1 ++ [.i], .tup (b.2.1 ++ [.a (.int .i64 (.v b.2.2.2))]), b.2.2.1, b.2.2.2 + 1⟩
    | _ => shO P cfg true n o.type
  | _ => shO P cfg true n o.type
def resR (P : Program) (cfg : Cfg) (n : Nat) (o : Oper) : FreshV := match o.op, o.dst with
  | .entry _, some d => match cfg.ent.find? (·.1 == d) with
    | some x =>
      let b := shTs P cfg false n x.2
      ⟨b.1, .tup b.2.1, b.2.2.1, b.2.2.2⟩
    | none => shO P cfg false n o.type
  | _, _ => shO P cfg false n o.type
def resRS (P : Program) (cfg : Cfg) (s : S) (o : Oper) : FreshV := match o.op with
  | .nilCheck x => match ev s x with
    | some (.w (.a (.val k))) => if cfg.opn && !funT P o.type then ⟨[.n], .w (.a (.ptr (.v s.n) 0)), [], s.n + 1⟩ else ⟨[], .w (.a (.val k)), [], s.n⟩
    | some v => ⟨[], v, [], s.n⟩
    | none => resR P cfg s.n o
  | .fieldAddr .. => ⟨[.v], .w (.a (.val s.n)), [], s.n + 1⟩
  | .indexAddr .. => ⟨[.v], .w (.a (.val s.n)), [], s.n + 1⟩
  | _ => resR P cfg s.n o
def isNext : Op → Bool
  | .next _ _ => true
  | _ => false
def isApp : Op → Bool
  | .call c => match c.callee with
    | .builtin .append => true
    | _ => false
  | _ => false
def isSel : Op → Bool
  | .select _ _ => true
  | _ => false
def backO (cfg : Cfg) (s : S) (o : Oper) (n : Nat) (roots : List Key) : Back := if isConv o.op then ⟨[], [], n⟩ else if isApp o.op then (if cfg.opn && !cfg.apa then backs cfg s.h n (roots.filter fun k => !((opTmps o.op).flatMap fun t => match ev s (.tmp t) with | some v => keysV v | none => []).contains k) else ⟨[], [], n⟩) else if cfg.stc.isEmpty then backs cfg s.h n roots else backsC cfg s.h n roots
def keptO (stay : List Key) (b : Bool) (cons : Hp) (ks : List Key) : Hp := if b then cons.filter fun x => stay.contains x.1 else cons.filter fun x => !ks.contains x.1
def nearL (s : S) : Nat → Key → List Key
  | 0, _ => []
  | d + 1, k => (linkOf s.lk k).flatMap fun q => if (findC s.h q).isSome then [q] else q :: nearL s d q
def nearK (o : Op) (s : S) (k : Key) : List Key := k :: (if isNext o then [] else nearL s 4 k)
def goneK (o : Op) (s : S) (ks : List Key) : List Key := if isNext o then ks else reach s.h s.lk 60 ks []
def peekT (P : Program) (cfg : Cfg) : Op → Bool
  | .load t _ => cfg.peek.contains t
  | .lookup t _ _ _ => match P.underlying t with
    | some (.map _ e) => cfg.peek.contains e
    | _ => false
  | _ => false
def makesC (P : Program) (cfg : Cfg) (o : Oper) : Bool := (makes P o.op && !peekT P cfg o.op) || match o.dst with
  | some d => cfg.mkd.contains d
  | none => false
def genOp (P : Program) (cfg : Cfg) (s : S) (o : Oper) (K : S → T) : T :=
  if isSel o.op then .fail 9 else
  match arOf s (opTmps o.op) with
  | none => .fail 10
  | some ar =>
    let roots := ar.flatMap fun x => keysV x.2
    let ks := reach s.h s.lk 60 roots []
    let cons := pickH s.h ks
    if !subH cons (s.h.filter fun x => ks.contains x.1) then .fail 13 else
    if isReadOp o.op && !makesC P cfg o then
      let r := resRS P cfg s o
      if s.bel && decide (r.n = s.n + r.ss.length) then
        -- what is read is owned by what it was read from: no part of its own
        let ss := r.ss
        let s' := { s with n := r.n, lk := linksOf o.op s s.n r.v ++ s.lk }
        .read o.op o.type ar cons ss r.v (K (s'.put o.dst r.v))
      else .fail 11
    else
      let r := resO P cfg s.n o
      let fo := firstOf P cfg o.op
      let roots0 := (fo.1.flatMap fun x => match ev s x with | some v => keysV v | none => []).flatMap (nearK o.op s)
      let b := backO cfg s o r.n roots0.eraseDups
      let rest := s.h.filter fun x => !ks.contains x.1
      let kept := keptO cfg.stay (fo.2 && !isNext o.op) cons (goneK o.op s roots0)
      if s.bel && decide (b.n = s.n + (r.ss ++ b.ss).length) then
        let rb := r.h ++ b.h
        let nb := rb ++ kept.filter fun x => !(rb.any fun y => decide (y.1 = x.1))
        .op o.op o.type ar cons (r.ss ++ b.ss) r.v nb (K ({ s with n := b.n, h := nb ++ rest, lk := linksOf o.op s s.n r.v ++ s.lk }.put o.dst r.v))
      else .fail 12
def firstPtr : List A → List Nat
  | [] => []
  | .ptr (.v k) _ :: _ => [k]
  | .val k :: _ => [k]
  | _ :: r => firstPtr r
def vList : V → List A
  | .w x => x.list
  | .tup l => l.flatMap W.list
  | .nx _ _ _ => []
def partKeys (v : V) (i : Nat) : List Key := match v with
  | .tup l => (((l[i]?).map W.list).getD []).flatMap keysA
  | _ => []
def keyNum : Key → List Nat
  | .b (.v k) => [k]
  | .a k => [k]
  | _ => []
def callLinks (cfg : Cfg) (f : FuncId) (args : List W) (v : V) : List (Nat × Key) :=
  ((cfg.rlink.filter fun x => x.1 == f).flatMap fun x => (partKeys v x.2.1).flatMap fun k => (keyNum k).flatMap fun n => (partKeys v x.2.2).map fun q => (n, q)) ++
  (cfg.link.filter fun x => x.1 == f).flatMap fun x => (firstPtr (vList v)).flatMap fun k => match args[x.2]? with
    | some w => (w.list.flatMap keysA).map fun q => (k, q)
    | none => []
def turnsOf (cfg : Cfg) (s : S) (f : FuncId) (args : List W) : List Key := match cfg.turn.find? (·.1 == f) with
  | some x => x.2.flatMap fun i => match args[i % 100]? with
    | some w => (w.list.flatMap keysA).flatMap fun k => if 100 ≤ i then k :: linkOf s.lk k else [k]
    | none => []
  | none => (args.flatMap fun x => x.list.flatMap keysA).flatMap fun k => k :: nearL s 4 k
def stayOf (cfg : Cfg) (f : FuncId) (cons : Hp) (ks : List Key) : Hp := if (cfg.turn.find? (·.1 == f)).isSome then cons.filter fun x => !ks.contains x.1 else []
def callF (P : Program) (cfg : Cfg) (s : S) (o : Oper) (f : FuncId) (args : List W) (K : S → T) : T :=
  match P.funcs[f]? with
  | none => .fail 20
  | some fn =>
    if cfg.cut.contains f then .fail 29 else
    let roots := args.flatMap fun x => x.list.flatMap keysA
    let ks := reach s.h s.lk 60 roots []
    let cons := pickH s.h ks
    let rest := s.h.filter fun x => !ks.contains x.1
    if !subH cons (s.h.filter fun x => ks.contains x.1) then .fail 22 else
    let r := shR P cfg true s.n fn.resultTypes.toList
    let roots' := turnsOf cfg s f args
    let b := backs cfg s.h r.n (roots'.eraseDups)
    if s.bel && fn.body.isSome && fn.name != "runtime.NumGoroutine" && decide (r.n = s.n + r.ss.length) && decide (b.n = s.n + (r.ss ++ b.ss).length) then
      if cfg.keep.contains f then .call f args cons r.ss r.v (r.h ++ cons) (K ({ s with n := r.n, h := r.h ++ cons ++ rest, lk := callLinks cfg f args r.v ++ s.lk }.put o.dst r.v)) else
      let nb := r.h ++ b.h ++ stayOf cfg f cons roots'
      .call f args cons (r.ss ++ b.ss) r.v nb (K ({ s with n := b.n, h := nb ++ rest, lk := callLinks cfg f args r.v ++ s.lk }.put o.dst r.v))
    else .fail 21
def newB (s : S) (d : Option Tmp) (c : C) (v : BR → A) (K : S → T) : T :=
  if s.bel && c.bel s.n then .new (K ({ s with n := s.n + 1, h := (.b (.v s.n), c) :: s.h }.put d (.w (.a (v (.v s.n)))))) else .fail 30
def fillA (place : Nat → Option (Nat × Nat)) (cells : List A) : List (Nat × W) → Option (List A)
  | [] => some cells
  | (i, w) :: rest => match place i with
    | none => none
    | some (off, size) =>
      if w.list.length ≠ size || off + w.list.length > cells.length then none
      else fillA place (cells.take off ++ w.list ++ cells.drop (off + w.list.length)) rest
def zeroL (P : Program) (t : TypeId) : Option (List A) := match P.info? t with
  | some i => match i.zero with
    | some v => (ofVal v).map W.list
    | none => none
  | none => none
def partsOf (s : S) (l : List (Nat × Operand)) : Option (List (Nat × W)) := mapM' (fun x => (evW s x.2).map fun w => (x.1, w)) l
def repL {α : Type} : Nat → List α → List α
  | 0, _ => []
  | n + 1, l => l ++ repL n l
def delC (h : Hp) (k : Key) : Hp := h.filter fun x => !decide (x.1 = k)
def effCall (P : Program) (cfg : Cfg) (s : S) (o : Oper) (c : Call) (K : S → T) : T := match c.callee with
  | .value (.func f) => match mapM' (evW s) c.args.toList with
    | some ws => match P.funcs[f]? with
      | some fn => if fn.body.isSome then callF P cfg s o f ws K else genOp P cfg s o K
      | none => .fail 44
    | none => .fail 45
  | .value x => match evA s x, mapM' (evW s) c.args.toList with
    | some (.func f cs), some ws => callF P cfg s o f (ws ++ cs.map fun q => .a (.ptr q.1 q.2)) K
    | _, _ => .fail 46
  | _ => genOp P cfg s o K
def effSlice (P : Program) (s : S) (o : Oper) (t : TypeId) (len : Nat) (parts : Array (Nat × Operand)) (K : S → T) : T := match P.underlying t with
  | some (.slice el) => match (if len * szT P el = 0 then some [] else zeroL P el), partsOf s parts.toList with
    | some z, some ps => if (P.info? el).isSome ∧ (len * szT P el = 0 ∨ z.length = szT P el) then match fillA (fun i => some (i * szT P el, szT P el)) (repL len z) ps with
        | some l => if len * szT P el ≤ 16777216 then newB s o.dst (.cells l el) (fun r => .sl (.b r 0) (.n len) (.n len)) K else .fail 36
        | none => .fail 37
      else .fail 38
    | _, _ => .fail 38
  | _ => .fail 39
def effBuild (P : Program) (s : S) (o : Oper) (t : TypeId) (parts : Array (Nat × Operand)) (K : S → T) : T := match P.underlying t with
  | some (.struct fs) => match zeroL P t, partsOf s parts.toList with
    | some z, some ps => if fs.all (fun f => (P.info? f.type).isSome) then match fillA (fun i => (fs[i]?).map fun f => (f.offset, szT P f.type)) z ps with
        | some l => K (s.put o.dst (.w (.agg l)))
        | none => .fail 33
      else .fail 34
    | _, _ => .fail 34
  | some (.array _ el) => match zeroL P t, partsOf s parts.toList with
    | some z, some ps => if (P.info? el).isSome then match fillA (fun i => some (i * szT P el, szT P el)) z ps with
        | some l => K (s.put o.dst (.w (.agg l)))
        | none => .fail 33
      else .fail 34
    | _, _ => .fail 34
  | _ => .fail 35
def effStore (P : Program) (cfg : Cfg) (s : S) (o : Oper) (t : TypeId) (ad x : Operand) (K : S → T) : T := match evA s ad, evW s x with
  | some (.ptr r off), some w => match findC s.h (.b r) with
    | some (.cells l ty) =>
      if w.list.length = szT P t ∧ (P.info? t).isSome ∧ off + w.list.length ≤ l.length ∧ (s.h.filter fun x => decide (x.1 = .b r)) = [(.b r, .cells l ty)] then
        K ({ s with h := (.b r, .cells (l.take off ++ w.list ++ l.drop (off + w.list.length)) ty) :: delC s.h (.b r) }.put o.dst (.tup []))
      else .fail 40
    | _ => genOp P cfg s o K
  | _, _ => genOp P cfg s o K
def effPick (s : S) (o : Oper) (c a b : Operand) (K : S → T) : T := match evA s c with
  | some (.bool e) => brE s e (fun s => match ev s a with | some v => K (s.put o.dst v) | none => .fail 41) (fun s => match ev s b with | some v => K (s.put o.dst v) | none => .fail 42)
  | _ => .fail 43
def effOp (P : Program) (cfg : Cfg) (s : S) (o : Oper) (K : S → T) : T := match o.op with
  | .alloc e => match zeroL P e with
    | some l => newB s o.dst (.cells l e) (fun r => .ptr r 0) K
    | none => .fail 31
  | .box e x => match evW s x with
    | some w => newB s o.dst (.cells w.list e) (fun r => .ptr r 0) K
    | none => .fail 32
  | .makeMap _ none => newB s o.dst .emap .map K
  | .build t parts => effBuild P s o t parts K
  | .buildSlice t len parts => effSlice P s o t len parts K
  | .store t ad x => effStore P cfg s o t ad x K
  | .pick c a b => effPick s o c a b K
  | .call c => effCall P cfg s o c K
  | _ => genOp P cfg s o K
def stepO (P : Program) (cfg : Cfg) (s : S) (o : Oper) (K : S → T) : T := match pureOp P s o.op with
  | some (es, v) => needs es (fun s => K (s.put o.dst v)) s
  | none => effOp P cfg s o K
def guardO (ops : Array Oper) (s : S) (o : Oper) (run skip : S → T) : T := match o.guard with
  | none => run s
  | some (j, want) => match (ops[j]?).bind (·.dst) with
    | none => .fail 50
    | some d => match s.t[d]? with
      | some (some (.tup [])) => skip s
      | _ => match evA s (.tmp d) with
        | some (.bool e) => brE s e (fun s => if want then run s else skip s) (fun s => if want then skip s else run s)
        | _ => .fail 51
def notDefer : Op → Bool
  | .defer _ => false
  | _ => true
def callvOf (s : S) (o : Oper) : Option (Nat × List W) := match o.op with
  | .call c => match c.callee with
    | .value x => match evA s x, mapM' (evW s) c.args.toList with
      | some (.val k), some ws => some (k, ws)
      | _, _ => none
    | _ => none
  | _ => none
def vLinks (cfg : Cfg) (args : List W) (v : V) : List (Nat × Key) := if cfg.vlk then (firstPtr (vList v)).flatMap fun k => (args.flatMap fun w => w.list.flatMap keysA).map fun q => (k, q) else []
def callV (P : Program) (cfg : Cfg) (s : S) (o : Oper) (v : Nat) (args : List W) (K : S → T) : T :=
  let ks := reach s.h s.lk 60 (Key.a v :: cfg.vt ++ args.flatMap fun x => x.list.flatMap keysA) []
  let cons := pickH s.h ks
  let rest := s.h.filter fun x => !ks.contains x.1
  if !subH cons (s.h.filter fun x => ks.contains x.1) then .fail 23 else
  let r := shO P cfg true s.n o.type
  let rt := (Key.a v :: cfg.vt).eraseDups
  let b := backs cfg s.h r.n rt
  let nb := r.h ++ b.h ++ cons.filter fun x => !rt.contains x.1
  if s.bel && decide (b.n = s.n + (r.ss ++ b.ss).length) then
    .callv v args cons (r.ss ++ b.ss) r.v nb (K ({ s with n := b.n, h := nb ++ rest, lk := vLinks cfg args r.v ++ s.lk }.put o.dst r.v))
  else .fail 24
def callmOf (s : S) (o : Oper) : Option (Nat × String × List W) := match o.op with
  | .call c => match c.callee with
    | .invoke x name => match evA s x, mapM' (evW s) c.args.toList with
      | some (.val k), some ws => some (k, name, ws)
      | _, _ => none
    | _ => none
  | _ => none
def callM (P : Program) (cfg : Cfg) (s : S) (o : Oper) (v : Nat) (name : String) (args : List W) (K : S → T) : T :=
  let ks := reach s.h s.lk 60 (Key.a v :: cfg.vt ++ args.flatMap fun x => x.list.flatMap keysA) []
  let cons := pickH s.h ks
  let rest := s.h.filter fun x => !ks.contains x.1
  if !subH cons (s.h.filter fun x => ks.contains x.1) then .fail 25 else
  let r := shO P cfg true s.n o.type
  let rt := (Key.a v :: cfg.vt ++ args.flatMap fun x => x.list.flatMap keysA).eraseDups
  let b := backs cfg s.h r.n rt
  let nb := r.h ++ b.h ++ cons.filter fun x => !rt.contains x.1
  if s.bel && decide (b.n = s.n + (r.ss ++ b.ss).length) then
    .callm v name args cons (r.ss ++ b.ss) r.v nb (K ({ s with n := b.n, h := nb ++ rest, lk := vLinks cfg args r.v ++ s.lk }.put o.dst r.v))
  else .fail 26
def stepV (P : Program) (cfg : Cfg) (s : S) (o : Oper) (K : S → T) : T := match callvOf s o with
  | some (v, args) => callV P cfg s o v args K
  | none => match callmOf s o with
    | some (v, name, args) => callM P cfg s o v name args K
    | none => stepO P cfg s o K
def runL (P : Program) (cfg : Cfg) (ops : Array Oper) : List Oper → S → (S → T) → T
  | [], s, K => K s
  | o :: r, s, K => guardO ops s o (fun s => stepV P cfg s o fun s => runL P cfg ops r s K) (fun s => runL P cfg ops r (s.put o.dst (.tup [])) K)


def mapT (P : Program) (t : TypeId) : Bool := match P.underlying t with
  | some (.map _ _) => true
  | _ => false
def adrO : Op → Bool
  | .nilCheck _ => true
  | .fieldAddr .. => true
  | .indexAddr .. => true
  | .slice .. => true
  | _ => false
def keptCall (cfg : Cfg) : Op → Bool
  | .call c => match c.callee with
    | .value (.func f) => cfg.rdf && cfg.keep.contains f
    | _ => false
  | _ => false
def isValCall : Op → Bool
  | .call c => match c.callee with
    | .value (.tmp _) => true
    | .invoke _ _ => true
    | _ => false
  | _ => false
def keyW : Key → W
  | .b r => .a (.ptr r 0)
  | .a k => .a (.val k)
def touch1 (P : Program) (cfg : Cfg) (s : S) (o : Oper) : S × List Key := match pureOp P s o.op with
  | some (_, v) => (s.put o.dst v, [])
  | none =>
    let s' := match o.dst with
      | some d => { s with t := s.t.set d none }
      | none => s
    if isReadOp o.op && !makesC P cfg o then (if mapT P o.type || ptrT P o.type || (cfg.opn && (slT P o.type || adrO o.op)) then (match o.dst with
      | some d => { s with t := s.t.set d (some (.tup ((reach s.h s.lk 60 ((opTmps o.op).flatMap fun t => match ev s (.tmp t) with | some v => keysV v | none => []) []).map keyW))) }
      | none => s) else s', [])
    else if keptCall cfg o.op then (s', []) else (s', reach s.h s.lk 60 (((opTmps o.op).flatMap fun t => match ev s (.tmp t) with | some v => keysV v | none => []) ++ if isValCall o.op then cfg.vt else []) [])
def touches (P : Program) (cfg : Cfg) : List Oper → S → List (List Key)
  | [], _ => []
  | o :: r, s => (touch1 P cfg s o).2 :: touches P cfg r (touch1 P cfg s o).1
def stabAt (ops : Array Oper) (tk : List (List Key)) (h0 : Hp) (listed : Array Bool) : Hp := h0.filter fun x => (List.range ops.size).all fun j => !listed.getD j false || !(tk.getD j []).contains x.1
def stabBut (ops : Array Oper) (tk : List (List Key)) (h0 : Hp) (D : List Nat) : Hp := h0.filter fun x => (List.range ops.size).all fun j => D.contains j || !(tk.getD j []).contains x.1
def deps1 (ops : Array Oper) (i : Nat) : List Oper → Nat → List Nat → List Nat
  | [], _, D => D
  | o :: r, j, D => deps1 ops i r (j + 1) (if o.after.any fun e => Region.binds .any e && (e.on == i || D.contains e.on) then j :: D else D)
def depOk (ops : Array Oper) (listed : Array Bool) (tk : List (List Key)) (i : Nat) (D : List Nat) : Bool :=
  !D.contains i && decide (tk.getD i [] = []) && D.all fun j => !listed.getD j true && match ops[j]? with
    | some o => o.after.any fun e => Region.binds .any e && (e.on == i || D.contains e.on)
    | none => false
def guardIs (ops : Array Oper) (s : S) (o : Oper) : Option Bool := match o.guard with
  | none => some true
  | some (j, want) => match (ops[j]?).bind (·.dst) with
    | none => none
    | some d => match s.t[d]? with
      | some (some (.tup [])) => some false
      | _ => match evA s (.tmp d) with
        | some (.bool e) => (knows s.kn e).map fun b => b == want
        | _ => none
def readC (P : Program) (cfg : Cfg) (hs : Hp) (s : S) (o : Oper) : Option (List (Nat × V) × Hp × FreshV) :=
  if cfg.rdf && isReadOp o.op && !makesC P cfg o && !isSel o.op then match arOf s (opTmps o.op) with
    | none => none
    | some ar =>
      let cons := pickH s.h (reach s.h s.lk 60 (ar.flatMap fun x => keysV x.2) [])
      let r := resRS P cfg s o
      if nodupH cons && cons.all (fun x => hs.contains x) && s.bel && decide (r.n = s.n + r.ss.length) then some (ar, cons, r) else none
  else none
def mayFirst (P : Program) (cfg : Cfg) (ops : Array Oper) (hs : Hp) (s : S) (o : Oper) : Bool := match guardIs ops s o with
  | none => false
  | some false => true
  | some true => (pureOp P { s with h := hs } o.op).isSome || (readC P cfg hs s o).isSome
def firstFree (P : Program) (cfg : Cfg) (ops : Array Oper) (tk : List (List Key)) (h0 : Hp) (listed : Array Bool) (s : S) : List Nat → Option (Nat × Oper × List Nat)
  | [] => none
  | i :: r => match ops[i]? with
    | none => none
    | some o => if Region.free .any ops listed i then
        if depOk ops listed tk i [] && mayFirst P cfg ops (stabBut ops tk h0 []) s o then some (i, o, [])
        else
          let D := deps1 ops i ops.toList 0 []
          if depOk ops listed tk i D && mayFirst P cfg ops (stabBut ops tk h0 D) s o then some (i, o, D) else firstFree P cfg ops tk h0 listed s r
      else firstFree P cfg ops tk h0 listed s r
def allT (f : Nat → T) : List Nat → T
  | [] => .fail 64
  | [i] => f i
  | i :: r => .all (f i) (allT f r)
def guardE (ops : Array Oper) (s : S) (i : Nat) : Option E := match ops[i]? with
  | none => none
  | some o => match o.guard with
    | none => none
    | some (j, _) => match (ops[j]?).bind (·.dst) with
      | none => none
      | some d => match evA s (.tmp d) with
        | some (.bool e) => if (knows s.kn e).isSome then none else some e
        | _ => none
def splitG (ops : Array Oper) : List Nat → S → (S → T) → T
  | [], s, K => K s
  | i :: r, s, K => match guardE ops s i with
    | some e => brE s e (fun s => splitG ops r s K) (fun s => splitG ops r s K)
    | none => splitG ops r s K
def stepD (P : Program) (cfg : Cfg) (ops : Array Oper) (tk : List (List Key)) (h0 : Hp) (listed : Array Bool) (rs : List Nat) (rec : Array Bool → S → T) (s : S) : T :=
  match firstFree P cfg ops tk h0 listed s rs with
  | some (i, o, D) => guardO ops s o (fun s => match pureOp P { s with h := stabBut ops tk h0 D } o.op with
      | some (es, v) => needs es (fun s => rec (listed.setIfInBounds i true) (s.put o.dst v)) s
      | none => match readC P cfg (stabBut ops tk h0 D) s o with
        | some (ar, cons, r) => .read o.op o.type ar cons r.ss r.v (rec (listed.setIfInBounds i true) ({ s with n := r.n, lk := linksOf o.op s s.n r.v ++ s.lk }.put o.dst r.v))
        | none => .fail 61)
    (fun s => rec (listed.setIfInBounds i true) (s.put o.dst (.tup [])))
  | none => allT (fun i => match ops[i]? with
        | none => .fail 62
        | some o => guardO ops s o (fun s => stepV P cfg s o fun s => if (stabAt ops tk h0 (listed.setIfInBounds i true)).all (fun x => s.h.contains x) then rec (listed.setIfInBounds i true) s else .fail 63)
            (fun s => rec (listed.setIfInBounds i true) (s.put o.dst (.tup [])))) rs
def runD (P : Program) (cfg : Cfg) (ops : Array Oper) (tk : List (List Key)) (h0 : Hp) : Nat → Array Bool → S → (S → T) → T
  | 0, listed, s, K => if Region.ready .any ops listed = [] then K s else .fail 60
  | fuel + 1, listed, s, K =>
    let rs := Region.ready .any ops listed
    if rs = [] then K s
    else if (firstFree P cfg ops tk h0 listed s rs).isSome then stepD P cfg ops tk h0 listed rs (fun l s => runD P cfg ops tk h0 fuel l s K) s
    else splitG ops rs s fun s => stepD P cfg ops tk h0 listed rs (fun l s => runD P cfg ops tk h0 fuel l s K) s


def assigned : Code → List Tmp
  | .region _ ops _ => ops.toList.filterMap (·.dst)
  | .seq a b => assigned a ++ assigned b
  | .cond _ a b => assigned a ++ assigned b
  | .block _ b => assigned b
  | .loop b => assigned b
  | .rangeFunc _ _ a b => assigned a ++ assigned b
  | .scope b => assigned b
  | _ => []
def refL (n : Nat) : A → Fresh
  | .ptr _ _ => ⟨[.n], [.ptr (.v n) 0], [], n + 1⟩
  | .sl .nil _ _ => ⟨[.a, .n, .n, .p], [.sl (.v n) (.v (n + 1)) (.v (n + 2))], [(.a n, .prop (n + 3))], n + 4⟩
  | .sl _ _ _ => ⟨[.a, .n, .n], [.sl (.v n) (.v (n + 1)) (.v (n + 2))], [], n + 3⟩
  | .map _ => ⟨[.n], [.map (.v n)], [], n + 1⟩
  | x => refA n x
def refLs (n : Nat) : List A → Fresh
  | [] => ⟨[], [], [], n⟩
  | x :: r =>
    let a := refL n x
    let b := refLs a.n r
    ⟨a.ss ++ b.ss, a.l ++ b.l, a.h ++ b.h, b.n⟩
def refMask (ks : List Nat) : Nat → Nat → List A → Fresh
  | _, n, [] => ⟨[], [], [], n⟩
  | i, n, x :: r =>
    if ks.contains i then
      let a := refL n x
      let b := refMask ks (i + 1) a.n r
      ⟨a.ss ++ b.ss, a.l ++ b.l, a.h ++ b.h, b.n⟩
    else
      let b := refMask ks (i + 1) n r
      ⟨b.ss, x :: b.l, b.h, b.n⟩
def refCells (ce : List (Key × List Nat)) (k : Key) (n : Nat) (l : List A) : Fresh := match ce.find? (·.1 = k) with
  | some x => refMask x.2 0 n l
  | none => refLs n l
def W.like : W → List A → W
  | .a _, [x] => .a x
  | .a x, _ => .a x
  | .agg _, l => .agg l
def renA (x y : A) : List (Key × Key) := match keysA x, keysA y with
  | [k], [q] => if k = q then [] else [(k, q)]
  | _, _ => []
def renAs : List A → List A → List (Key × Key)
  | x :: r, y :: q => renA x y ++ renAs r q
  | _, _ => []
structure Head where
  s : S
  ss : List So
  ren : List (Key × Key)
  ex : Hp := []
def headT : List Tmp → Head → Head
  | [], hd => hd
  | t :: r, hd => match hd.s.t[t]? with
    | some (some (.w w)) =>
      let f := refLs hd.s.n w.list
      headT r ⟨{ hd.s with n := f.n, t := hd.s.t.set t (some (.w (w.like f.l))) }, hd.ss ++ f.ss, hd.ren ++ renAs w.list f.l, hd.ex ++ f.h⟩
    | some (some (.tup _)) => headT r { hd with s := { hd.s with t := hd.s.t.set t none } }
    | _ => headT r hd
def renK (ren : List (Key × Key)) (k : Key) : Key := match ren.find? (·.1 = k) with
  | some x => x.2
  | none => k
def headH (ce : List (Key × List Nat)) (ab : List TypeId) (hv : List Key) : Hp → Head → Hp → Head
  | [], hd, acc => { hd with s := { hd.s with h := acc } }
  | (k, c) :: r, hd, acc =>
    if hv.contains k then match c, hd.ren.any (fun x => x.1 = k && match x.2 with | .a _ => true | _ => false) with
      | .cells l ty, false =>
        if ab.contains ty then headH ce ab hv r ⟨{ hd.s with n := hd.s.n + 1 }, hd.ss ++ [.p], hd.ren, hd.ex⟩ (acc ++ [(k, .prop hd.s.n)]) else
        let f := refCells ce k hd.s.n l
        headH ce ab hv r ⟨{ hd.s with n := f.n }, hd.ss ++ f.ss, hd.ren ++ renAs l f.l, hd.ex ++ f.h⟩ (acc ++ [(k, .cells f.l ty)])
      | _, _ => headH ce ab hv r ⟨{ hd.s with n := hd.s.n + 1 }, hd.ss ++ [.p], hd.ren, hd.ex⟩ (acc ++ [(k, .prop hd.s.n)])
    else headH ce ab hv r hd (acc ++ [(k, c)])
def celAt (cfg : Cfg) (b : Nat) : List (Key × List Nat) := (cfg.cel.filter (·.1 == b)).map (·.2)
def dedup : List Tmp → List Tmp → List Tmp
  | [], acc => acc
  | t :: r, acc => dedup r (if acc.contains t then acc else acc ++ [t])
def dropNx (t : List (Option V)) : List (Option V) := t.map fun
  | some (.nx ..) => none
  | x => x
def hlkAt (cfg : Cfg) (b : Nat) : List (Nat × Key) := (cfg.hlk.filter (·.1 == b)).map (·.2)
def headOf (cfg : Cfg) (body : Code) (s : S) : Head :=
  let hv := match cfg.hv.find? (·.1 == s.blk) with
    | some x => x.2
    | none => []
  let dr := match cfg.snk.find? (·.1 == s.blk) with
    | some x => x.2
    | none => []
  let a := headT (dedup (assigned body) []) ⟨s, [], [], []⟩
  let b := headH (celAt cfg s.blk) cfg.absT hv s.h a []
  let ren := b.ren
  let lk2 := ren.flatMap fun x => match x.2 with
    | .b (.v j) => (linkOf (hlkAt cfg s.blk ++ s.lk) x.1).map fun q => (j, renK ren q)
    | .a j => (linkOf (hlkAt cfg s.blk ++ s.lk) x.1).map fun q => (j, renK ren q)
    | _ => []
  { b with s := { b.s with t := dropNx b.s.t, h := (b.s.h.filterMap fun x => if dr.contains x.1 then none else if (ren.any (·.1 = x.1)) && !hv.contains x.1 then none else some (renK ren x.1, x.2)) ++ b.ex, dp := s.dp + 1, lk := lk2 ++ s.lk } }
def fitA (base : Nat) : A → A → Option (List (Nat × FV))
  | .int k (.v j), .int k' e => if base ≤ j ∧ k = k' then some [(j, .e (.o1 .neg (.o1 .neg e)))] else some []
  | .bool (.v j), .bool e => if base ≤ j then some [(j, .e (.o1 .not (.o1 .not e)))] else some []
  | .str (.v j), .str e => if base ≤ j then some [(j, .e (.o2 .cat e (.s [])))] else some []
  | .ptr (.v j) _, .ptr r _ => if base ≤ j then some [(j, .n r)] else some []
  | .sl (.v j) _ _, .sl s l c => if base ≤ j then some [(j, .a s), (j + 1, .e (.o2 .nadd l (.n 0))), (j + 2, .e (.o2 .nadd c (.n 0)))] else some []
  | .map (.v j), .map r => if base ≤ j then some [(j, .n r)] else some []
  | .val j, x => if base ≤ j then some [(j, .v x)] else some []
  | _, _ => some []
def fitAs (base : Nat) : List A → List A → List (Nat × FV)
  | x :: r, y :: q => ((fitA base x y).getD []) ++ fitAs base r q
  | _, _ => []
def fitTs (base : Nat) : List (Option V) → List (Option V) → List (Nat × FV)
  | some (.w x) :: r, some (.w y) :: q => fitAs base x.list y.list ++ fitTs base r q
  | _ :: r, _ :: q => fitTs base r q
  | _, _ => []
def lookF (l : List (Nat × FV)) (j : Nat) : Option FV := (l.find? (·.1 == j)).map (·.2)
def keyTo (base : Nat) (l : List (Nat × FV)) : Key → Key
  | .b (.v j) => if base ≤ j then match lookF l j with
      | some (.n r) => .b r
      | _ => .b (.v j)
    else .b (.v j)
  | .a j => if base ≤ j then match lookF l j with
      | some (.a (.v m)) => .a m
      | some (.a (.b r _)) => .b r
      | some (.v x) => ((keysA x).head?).getD (.a j)
      | _ => .a j
    else .a j
  | k => k
def fitHc (base : Nat) (s : S) (l : List (Nat × FV)) : Hp → List (Nat × FV)
  | [] => l
  | (k, .cells c _) :: r => match findC s.h (keyTo base l k) with
    | some (.cells d _) => fitHc base s (l ++ fitAs base c d) r
    | _ => fitHc base s l r
  | _ :: r => fitHc base s l r
def fitHp (base : Nat) (s : S) (l : List (Nat × FV)) : Hp → List (Nat × FV)
  | [] => l
  | (k, .prop j) :: r => if base ≤ j then
      let ks := reach s.h (if (findC s.h (keyTo base l k)).isSome then s.lk.filterMap fun x => if takenOut ≤ x.1 then some (x.1 - takenOut, x.2) else none else s.lk) 60 [keyTo base l k] []
      fitHp base s (l ++ [(j, .p (pickH s.h ks))]) r
    else fitHp base s l r
  | _ :: r => fitHp base s l r
def fitHpJ (base : Nat) (s : S) (own : List Key) (l : List (Nat × FV)) : Hp → List (Nat × FV)
  | [] => l
  | (k, .prop j) :: r => if base ≤ j then
      let k' := keyTo base l k
      let ks := reach s.h (if (findC s.h k').isSome then s.lk.filterMap fun x => if takenOut ≤ x.1 then some (x.1 - takenOut, x.2) else none else s.lk) 60 [k'] []
      fitHpJ base s own (l ++ [(j, .p (pickH s.h (ks.filter fun q => decide (q = k') || !own.contains q)))]) r
    else fitHpJ base s own l r
  | _ :: r => fitHpJ base s own l r
def fitS (base : Nat) (hd : S) (s : S) : List FV :=
  let a := fitTs base hd.t s.t
  let b := fitHc base s a hd.h
  let c := fitHpJ base s (hd.h.map fun x => keyTo base b x.1) b hd.h
  (List.range' base (hd.n - base)).map fun j => (lookF c j).getD (.n (.g 0))
def fitJ (base : Nat) (hd : S) (s : S) : List FV :=
  let a := fitTs base hd.t s.t
  let b := fitHc base s a hd.h
  let c := fitHpJ base s (hd.h.map fun x => keyTo base b x.1) b hd.h
  (List.range' base (hd.n - base)).map fun j => (lookF c j).getD (.n (.g 0))
def okA (base : Nat) (fr : List FV) (x y : A) : Bool := (decide (x = y) && x.bel base) || match x, y with
  | .int k (.v j), .int k' e => decide (base ≤ j) && decide (k = k') && decide (fr[j - base]? = some (.e (.o1 .neg (.o1 .neg e))))
  | .bool (.v j), .bool e => decide (base ≤ j) && decide (fr[j - base]? = some (.e (.o1 .not (.o1 .not e))))
  | .str (.v j), .str e => decide (base ≤ j) && decide (fr[j - base]? = some (.e (.o2 .cat e (.s []))))
  | .ptr (.v j) o, .ptr r o' => decide (base ≤ j) && decide (o = o') && decide (fr[j - base]? = some (.n r))
  | .sl (.v j) (.v j1) (.v j2), .sl s l c => decide (base ≤ j) && decide (base ≤ j1) && decide (base ≤ j2) && decide (fr[j - base]? = some (.a s)) && decide (fr[j1 - base]? = some (.e (.o2 .nadd l (.n 0)))) && decide (fr[j2 - base]? = some (.e (.o2 .nadd c (.n 0))))
  | .map (.v j), .map r => decide (base ≤ j) && decide (fr[j - base]? = some (.n r))
  | .val j, x => decide (base ≤ j) && decide (fr[j - base]? = some (.v x))
  | _, _ => false
def okAs (base : Nat) (fr : List FV) : List A → List A → Bool
  | [], [] => true
  | x :: r, y :: q => okA base fr x y && okAs base fr r q
  | _, _ => false
def okW (base : Nat) (fr : List FV) : W → W → Bool
  | .a x, .a y => okA base fr x y
  | .agg l, .agg m => okAs base fr l m
  | _, _ => false
def okT (base : Nat) (fr : List FV) : List (Option V) → List (Option V) → Bool
  | [], [] => true
  | none :: r, _ :: q => okT base fr r q
  | some (.w x) :: r, some (.w y) :: q => okW base fr x y && okT base fr r q
  | some (.tup x) :: r, some (.tup y) :: q => decide (x = y) && x.all (W.bel base) && okT base fr r q
  | _, _ => false
def okK (base : Nat) (fr : List FV) : Key → Key → Bool
  | .b (.v j), .b r => if base ≤ j then decide (fr[j - base]? = some (.n r)) else decide (r = .v j)
  | .b (.g n), .b r => decide (r = .g n)
  | .a j, k => if base ≤ j then match fr[j - base]? with
      | some (.a (.v m)) => decide (k = .a m)
      | some (.a (.b r _)) => decide (k = .b r)
      | _ => false
    else decide (k = .a j)
  | _, _ => false
def isB : Key → Bool
  | .b _ => true
  | .a _ => false
def partsH (base : Nat) (fr : List FV) (h : Hp) : Hp → Option Hp
  | [] => some []
  | (k, c) :: r => match partsH base fr h r with
    | none => none
    | some l => match c with
      | .cells x ty => match h.find? (fun y => isB k && okK base fr k y.1 && (match y.2 with | .cells z ty' => okAs base fr x z && decide (ty = ty') | _ => false)) with
        | some y => some (y :: l)
        | none => none
      | .emap => if k.bel base && h.contains (k, .emap) then some ((k, .emap) :: l) else none
      | .dfr => if k.bel base && h.contains (k, .dfr) then some ((k, .dfr) :: l) else none
      | .prop j => if base ≤ j then match fr[j - base]? with
          | some (.p q) => some (q ++ l)
          | _ => none
        else if k.bel base && h.contains (k, .prop j) then some ((k, .prop j) :: l) else none
def FV.so : FV → List So
  | .n _ => [.n]
  | .a _ => [.a]
  | .v _ => [.v]
  | .p _ => [.p]
  | .e (.o1 .neg _) => [.i]
  | .e (.o1 .not _) => [.c]
  | .e (.o2 .cat _ _) => [.s]
  | .e (.o2 .nadd _ _) => [.n]
  | .e _ => []
def okS (base : Nat) (ss : List So) (hd s : S) (fr : List FV) : Bool :=
  okT base fr hd.t s.t && (match partsH base fr s.h hd.h with
    | some l => nodupH l && l.all (fun x => s.h.contains x)
    | none => false) && decide (fr.flatMap FV.so = ss) && decide (fr.length = ss.length) && decide (hd.n = base + ss.length) && hd.kn.all (fun x => x.1.bel base) && (decide (hd.df = s.df) && hd.df.all (BR.bel base))

def whyS (base : Nat) (ss : List So) (hd s : S) (fr : List FV) : Nat :=
  (if okT base fr hd.t s.t then 0 else 1) + (match partsH base fr s.h hd.h with
    | some l => (if nodupH l then 0 else 2) + (if l.all (fun x => s.h.contains x) then 0 else 4)
    | none => 8) + (if decide (fr.flatMap FV.so = ss) then 0 else 16) + (if decide (fr.length = ss.length) then 0 else 32) + (if decide (hd.n = base + ss.length) then 0 else 64) + (if hd.kn.all (fun x => x.1.bel base) then 0 else 128) + (if decide (hd.df = s.df) && hd.df.all (BR.bel base) then 0 else 256) + (if s.bel then 0 else 512) + (if decide (hd.kn = s.kn) then 0 else 1024)
def diffH (base : Nat) (fr : List FV) (h : Hp) (m : Hp) : Hp := m.filter fun x => (partsH base fr h [x]).isNone

inductive Ex where
  | norm | exit (id : Nat) | ret
structure Rg where
  s1 : S
  c : Hp
  rest : Hp
  shk : List Key
  hd : Head
  fr : List FV
  pss : List So
  pvs : List W
  pch : Hp
  pn : Nat
def headR (ab : List TypeId) (hv : List Key) (rest : Hp) (s : S) : Head :=
  let b := headH [] ab hv rest ⟨{ s with h := [] }, [], [], []⟩ []
  let ren := b.ren
  let lk2 := ren.flatMap fun x => match x.2 with
    | .b (.v j) => (linkOf s.lk x.1).map fun q => (j, renK ren q)
    | .a j => (linkOf s.lk x.1).map fun q => (j, renK ren q)
    | _ => []
  { b with s := { b.s with t := s.t, kn := s.kn, h := (b.s.h.filterMap fun x => if (ren.any (·.1 = x.1)) && !hv.contains x.1 then none else some (renK ren x.1, x.2)) ++ b.ex, dp := s.dp + 1, lk := lk2 ++ s.lk, df := [] } }
def lookL {α : Type} (l : List (Nat × List α)) (b : Nat) : List α := match l.find? (·.1 == b) with
  | some x => x.2
  | none => []
def Rg.start (r : Rg) : S := { r.s1 with h := r.rest, df := [] }
def rgOf (P : Program) (cfg : Cfg) (s : S) (gv : A) : Rg :=
  let s1 : S := { s with n := s.n + 1, h := (.b (.v s.n), .dfr) :: s.h, df := .v s.n :: s.df }
  let shk := lookL cfg.shr s.blk
  let ks := reach s.h s.lk 60 (keysA gv) []
  let c := s1.h.filter fun x => ks.contains x.1 && !shk.contains x.1
  let rest := s1.h.filter fun x => !(ks.contains x.1 && !shk.contains x.1)
  let hd := headR cfg.absT (lookL cfg.hv s.blk) rest s1
  let p := shTs P cfg true hd.s.n (lookL cfg.pty s.blk)
  ⟨s1, c, rest, shk, hd, fitS s1.n hd.s { s1 with h := rest, df := [] }, p.1, p.2.1, p.2.2.1, p.2.2.2⟩
def setPs (t : List (Option V)) (ps : List Tmp) (ws : List W) : List (Option V) := (ps.zip ws).foldl (fun t x => t.set x.1 (some (.w x.2))) t
def Rg.round (r : Rg) (ps : List Tmp) : S := { r.hd.s with n := r.pn, h := r.pch ++ r.hd.s.h, t := setPs r.hd.s.t ps r.pvs }
def Rg.ok (r : Rg) (gv : A) (rd : Bool) (s : S) (ps : List Tmp) : Bool :=
  !rd && (gv.bel s.n && hbel r.s1.n r.c) && s.bel && okS r.s1.n r.hd.ss r.hd.s r.start r.fr && r.hd.s.bel && decide (r.pn = r.hd.s.n + r.pss.length) && decide (r.pvs.length = ps.length)
def Rg.endS (r : Rg) (s : S) : S := { s with t := r.hd.s.t }
def Rg.leftS (r : Rg) (s : S) : S := { s with t := r.s1.t, h := r.c ++ s.h, df := r.s1.df }
def Rg.doneS (r : Rg) (s : S) : S := { r.hd.s with h := r.c ++ r.hd.s.h, df := r.s1.df, dp := s.dp }
def JH.toS (j : JH) (s : S) : S := { s with t := j.tv.foldl (fun t x => t.set x.1 x.2) s.t, h := j.h, n := j.n, lk := j.lk ++ s.lk }
def jnOf (cfg : Cfg) (k : Nat × Nat) : Option JH := match cfg.jn.find? (·.1 == k) with
  | some x => x.2
  | none => if (if Nat.ble 1000000 k.1 then cfg.jb && !cfg.nj.contains k.1 else cfg.jd) then some { ask := true } else none
def dumpS (k : Nat × Nat) (base : Nat) (s : S) : T := .all (.fail 9100) (.all (.again k.1 [.n (.v k.2), .n (.v base)]) (.all (.ret (.tup []) s.h) (.all (.ret (.tup []) (s.lk.map fun x => (x.2, .prop x.1))) (s.t.foldr (fun v r => .all (match v with | some v => .ret v [] | none => .fail 0) r) (.fail 1)))))
def joinT (k : Nat × Nat) (j : JH) (s : S) (run : S → (S → T) → T) (K : S → T) : T :=
  .join j.ss (run { s with dp := s.dp + 1 } fun s2 => if j.ask then dumpS k s.n s2 else if okS s.n j.ss (j.toS s) s2 (fitJ s.n (j.toS s) s2) then .again (s2.dp - (s.dp + 1)) (fitJ s.n (j.toS s) s2) else .all (.fail 9200) (.all (.again k.1 [.n (.v k.2), .n (.v (whyS s.n j.ss (j.toS s) s2 (fitJ s.n (j.toS s) s2)))]) (.ret (.tup []) (diffH s.n (fitJ s.n (j.toS s) s2) s2.h j.h)))) (if j.ask then .all (.fail 87) (.again k.1 [.n (.v k.2)]) else K (j.toS s))
def joinQ (cfg : Cfg) (k : Nat × Nat) (s : S) (run : S → (S → T) → T) (K : S → T) : T := match jnOf cfg k with
  | some j => joinT k j s run K
  | none => run s K
def regKey (ops : Array Oper) (s : S) : Nat × Nat := (((ops.toList.filterMap (·.dst)).head?).getD 0, s.n)
def condKey : Operand → Nat
  | .tmp t => 2000000 + t
  | _ => 2000000
def exec (P : Program) (cfg : Cfg) (rd : Bool) : Code → S → (Ex → S → T) → T
  | .skip, s, K => K .norm s
  | .region _ ops false, s, K => if ops.all (fun o => notDefer o.op) then
      (if ops.any (fun o => o.guard.isSome) then joinQ cfg (3000000 + (regKey ops s).1, s.n) s (fun s K => runL P cfg ops ops.toList s K) (fun s => K .norm s) else runL P cfg ops ops.toList s fun s => K .norm s)
    else .fail 66
  | .region _ ops true, s, K =>
    if nodupH s.h && hbel s.n s.h && Region.noSelect ops && ops.all (fun o => notDefer o.op) then
      joinQ cfg (regKey ops s) s (fun s K => runD P cfg ops (touches P cfg ops.toList s) s.h ops.size (Array.replicate ops.size false) s K) fun s => K .norm s
    else .fail 65
  | .seq a b, s, K => exec P cfg rd a s fun e s => match e with
    | .norm => exec P cfg rd b s K
    | e => K e s
  | .cond c a b, s, K => match evA s c with
    | some (.bool e) => joinQ cfg (condKey c, s.n) s (fun s K2 => brE s e (fun s => exec P cfg rd a s fun x s => match x with
        | .norm => K2 s
        | x => K x s) (fun s => exec P cfg rd b s fun x s => match x with
        | .norm => K2 s
        | x => K x s)) fun s => K .norm s
    | _ => .fail 70
  | .block id b, s, K => joinQ cfg (1000000 + id, s.n) s (fun s K2 => exec P cfg rd b { s with blk := id } fun e s => match e with
    | .exit i => if i = id then K2 s else K (.exit i) s
    | .norm => K2 s
    | e => K e s) fun s => K .norm s
  | .loop b, s, K =>
    let hd := headOf cfg b s
    let fr := fitS s.n hd.s s
    if okS s.n hd.ss hd.s s fr && s.bel && decide (hd.s.kn = s.kn) && decide (hd.s.dp = s.dp + 1) then
      .loop hd.ss fr (exec P cfg rd b hd.s fun e s2 => match e with
        | .norm =>
          let fr2 := fitS s.n hd.s s2
          if okS s.n hd.ss hd.s s2 fr2 then .again (s2.dp - hd.s.dp) fr2 else .all (.fail (8000 + s.blk)) (.ret (.tup []) (diffH s.n fr2 s2.h hd.s.h))
        | e => K e s2)
    else .fail (81 + 1000 * whyS s.n hd.ss hd.s s fr)
  | .rangeFunc g ps asg b, s, K => match evA s g with
    | none => .fail 82
    | some gv =>
      let r := rgOf P cfg s gv
      if r.ok gv rd s ps.toList then
        .new (.rangef gv r.c (r.hd.s.h.filter fun x => r.shk.contains x.1) r.hd.ss r.fr r.pss r.pvs r.pch
          (exec P cfg true asg (r.round ps.toList) fun x sA => match x with
            | .norm => exec P cfg true b sA fun x s2 => match x with
              | .norm =>
                let fr2 := fitS r.s1.n r.hd.s (r.endS s2)
                if okS r.s1.n r.hd.ss r.hd.s (r.endS s2) fr2 then .again (s2.dp - r.hd.s.dp) fr2 else .all (.fail (8000 + s.blk)) (.ret (.tup []) (diffH r.s1.n fr2 s2.h r.hd.s.h))
              | x => K x (r.leftS s2)
            | _ => .fail 84)
          (K .norm (r.doneS s)))
      else .all (.fail 85) (.ret (.tup []) (diffH r.s1.n r.fr r.rest r.hd.s.h))
  | .exit id, s, K => K (.exit id) s
  | .ret, s, K => K .ret s
  | .scope b, s, K => exec P cfg rd b s K
  | .label _, s, K => K .norm s
  | _, _, _ => .fail 90
def resOf (P : Program) (s : S) : ResultVar → Option W
  | .tmp t => match ev s (.tmp t) with
    | some (.w x) => some x
    | _ => none
  | .cell a t => match evA s (.tmp a) with
    | some (.ptr r off) => match findC s.h (.b r) with
      | some (.cells l _) => partA P t l off
      | _ => none
    | _ => none
def leaveV (v : V) (ks : List Key) (s : S) : T :=
  let h := pickH s.h (reach s.h [] 200 (ks ++ keysV v) [])
  if subH h s.h then .ret v h else .fail 98
def leave (P : Program) (fn : Func) (ks : List Key) (s : S) : T := match mapM' (resOf P s) fn.results.toList with
  | some [x] => leaveV (.w x) ks s
  | some l => leaveV (.tup l) ks s
  | none => .fail 95
def isDf (df : List BR) (x : Key × C) : Bool := df.any fun r => decide (x = (.b r, .dfr))
def nodupR : List BR → Bool
  | [] => true
  | x :: r => !r.contains x && nodupR r
def dfOk (s : S) : Bool := nodupR s.df && s.df.all fun r => s.h.contains (.b r, .dfr)
def leaveS (s : S) : S := { s with h := s.h.filter fun x => !isDf s.df x, df := [] }
def leaveD (P : Program) (fn : Func) (ks : List Key) (s : S) : T := if dfOk s then leave P fn ks (leaveS s) else .fail 99
def outK (cfg : Cfg) (ks : List Key) (s : S) : List Key := if cfg.outl then ks.flatMap (linkOf s.lk) else []
def resK (P : Program) (cfg : Cfg) (fn : Func) (s : S) : List Key := if cfg.opn then (fn.results.toList.flatMap fun r => match resOf P s r with | some x => x.list.flatMap keysA | none => []).flatMap (nearL s 4) else []
def tree (P : Program) (cfg : Cfg) (fn : Func) (args : List W) (h : Hp) (n : Nat) : T := match fn.body with
  | some c => exec P cfg false c ⟨args.map (fun w => some (.w w)) ++ List.replicate (fn.ntmps - args.length) (some (.tup [])), h, n, [], [], 0, 0, []⟩ fun e s => match e with
    | .norm => leaveD P fn (h.map (·.1) ++ outK cfg (h.map (·.1)) s ++ resK P cfg fn s) s
    | .ret => leaveD P fn (h.map (·.1) ++ outK cfg (h.map (·.1)) s ++ resK P cfg fn s) s
    | .exit _ => .fail 96
  | none => .fail 97
end Go.Proofs.YtcpjdfihpdjkbaaGreatDoor.RX



namespace Go.Proofs.YtcpjdfihpdjkbaaGreatDoor.RX
open Go.Proofs.YtcpjdfihpdjkbaaGreatDoor


theorem look_app (ρ x : Env) {k : Nat} (h : k < ρ.length) : look (ρ ++ x) k = look ρ k := by
  induction ρ generalizing k with
  | nil => simp at h
  | cons a r ih => cases k with
    | zero => rfl
    | succ k => exact ih (by simpa using h)
theorem look_at (ρ : Env) (u : Uni) (x : Env) : look (ρ ++ u :: x) ρ.length = u := by
  induction ρ with
  | nil => rfl
  | cons a r ih => exact ih
theorem E.app {ρ : Env} {e : E} (h : e.bel ρ.length = true) (x : Env) : e.den (ρ ++ x) = e.den ρ := by
  induction e with
  | v k => exact look_app ρ x (by simpa [E.bel] using h)
  | o1 f a ih => simp only [E.bel] at h; simp only [E.den, ih h]
  | o2 f a b iha ihb => simp only [E.bel, Bool.and_eq_true] at h; simp only [E.den, iha h.1, ihb h.2]
  | _ => rfl
theorem BR.app {ρ : Env} {r : BR} (h : r.bel ρ.length = true) (x : Env) : r.den (ρ ++ x) = r.den ρ := by
  cases r with
  | v k => simp only [BR.den]; rw [look_app ρ x (by simpa [BR.bel] using h)]
  | g n => rfl
theorem SA.app {ρ : Env} {r : SA} (h : r.bel ρ.length = true) (x : Env) : r.den (ρ ++ x) = r.den ρ := by
  cases r with
  | nil => rfl
  | v k => simp only [SA.den]; rw [look_app ρ x (by simpa [SA.bel] using h)]
  | b r o => simp only [SA.den]; rw [BR.app (by simpa [SA.bel] using h)]
theorem A.app {ρ : Env} {y : A} (h : y.bel ρ.length = true) (x : Env) : y.den (ρ ++ x) = y.den ρ := by
  cases y <;> simp only [A.bel, Bool.and_eq_true, decide_eq_true_eq, Nat.blt_eq] at h <;> simp only [A.den]
  case int => rw [E.app h]
  case bool => rw [E.app h]
  case str => rw [E.app h]
  case ptr => rw [BR.app h]
  case eptr => rw [look_app ρ x h.1, E.app h.2]
  case sl => rw [SA.app h.1.1, E.app h.1.2, E.app h.2]
  case map => rw [BR.app h]
  case val => rw [look_app ρ x h]
  case func f cs =>
    congr 2
    refine List.map_congr_left fun c hc => ?_
    simp only [capV]
    rw [BR.app (List.all_eq_true.1 h c hc)]
theorem As.app {ρ : Env} {l : List A} (h : l.all (A.bel ρ.length) = true) (x : Env) : l.map (A.den (ρ ++ x)) = l.map (A.den ρ) :=
  List.map_congr_left fun y hy => A.app (List.all_eq_true.1 h y hy) x
theorem W.app {ρ : Env} {y : W} (h : y.bel ρ.length = true) (x : Env) : y.den (ρ ++ x) = y.den ρ := by
  cases y with
  | a y => exact A.app h x
  | agg l => simp only [W.den]; rw [As.app h]
theorem V.app {ρ : Env} {y : V} (h : y.bel ρ.length = true) (x : Env) : y.den (ρ ++ x) = y.den ρ := by
  cases y with
  | w y => exact W.app h x
  | tup l =>
    simp only [V.den]
    congr 2
    exact List.map_congr_left fun y hy => W.app (List.all_eq_true.1 h y hy) x
  | nx c k v =>
    simp only [V.bel, Bool.and_eq_true, decide_eq_true_eq, Nat.blt_eq] at h
    simp only [V.den, look_app ρ x h.1.1, look_app ρ x h.1.2, look_app ρ x h.2]
theorem cden_app {ρ : Env} {y : Key × C} (h : (y.1.bel ρ.length && y.2.bel ρ.length) = true) (x : Env) : cden (ρ ++ x) y = cden ρ y := by
  obtain ⟨k, c⟩ := y
  simp only [Bool.and_eq_true] at h
  obtain ⟨hk, hc⟩ := h
  cases c with
  | prop j => simp only [cden]; rw [look_app ρ x (by simpa [C.bel] using hc)]
  | cells l ty => cases k with
    | b r => simp only [cden]; rw [BR.app hk, As.app hc]
    | a j => rfl
  | emap => cases k with
    | b r => simp only [cden]; rw [BR.app hk]
    | a j => rfl
  | dfr => cases k with
    | b r => simp only [cden]; rw [BR.app hk]
    | a j => rfl
theorem hden_app {ρ : Env} {h : Hp} (hb : hbel ρ.length h = true) (x : Env) : hden (ρ ++ x) h = hden ρ h := by
  induction h with
  | nil => rfl
  | cons y r ih =>
    simp only [hbel, List.all_cons, Bool.and_eq_true] at hb
    have e := cden_app (ρ := ρ) (y := y) (by simp [hb.1]) x
    have ih' := ih (by unfold hbel; exact hb.2)
    cases r with
    | nil => exact e
    | cons z q => simp only [hden] at ih' ⊢; rw [e, ih']


theorem hden_cons (ρ : Env) (x : Key × C) (r : Hp) (R h : PH) : (hden ρ (x :: r)).p R h ↔ (HP.sep (cden ρ x) (hden ρ r)).p R h := by
  cases r with
  | nil => exact ⟨fun H => HP.sep_tt H, fun H => HP.sep_left H⟩
  | cons y q => exact Iff.rfl
theorem hden_app2 {ρ : Env} {l m : Hp} {R h : PH} : (hden ρ (l ++ m)).p R h ↔ (HP.sep (hden ρ l) (hden ρ m)).p R h := by
  induction l generalizing h with
  | nil => exact ⟨fun H => HP.tt_sep H, fun H => HP.sep_right H⟩
  | cons x r ih =>
    rw [List.cons_append, hden_cons]
    constructor
    · intro H
      exact HP.sep_mono (HP.sep_assoc' (HP.sep_mono H (fun _ h => h) fun _ h => (ih).1 h)) (fun _ h => (hden_cons ρ x r _ _).2 h) fun _ h => h
    · intro H
      exact HP.sep_mono (HP.sep_assoc (HP.sep_mono H (fun _ h => (hden_cons ρ x r _ _).1 h) fun _ h => h)) (fun _ h => h) fun _ h => (ih).2 h
theorem hden_filter {ρ : Env} (q : Key × C → Bool) {l : Hp} {R h : PH} (H : (hden ρ l).p R h) : (HP.sep (hden ρ (l.filter q)) (hden ρ (l.filter fun x => !q x))).p R h := by
  induction l generalizing h with
  | nil => exact HP.sep_tt trivial
  | cons x r ih =>
    have H1 := (hden_cons ρ x r R h).1 H
    cases hq : q x with
    | true =>
      rw [List.filter_cons, List.filter_cons]
      simp only [hq, if_true, Bool.not_true, Bool.false_eq_true, if_false]
      exact HP.sep_mono (HP.sep_assoc' (HP.sep_mono H1 (fun _ h => h) fun _ h => ih h)) (fun _ h => (hden_cons ρ x _ _ _).2 h) fun _ h => h
    | false =>
      rw [List.filter_cons, List.filter_cons]
      simp only [hq, if_true, Bool.not_false, Bool.false_eq_true, if_false]
      have H2 := HP.sep_mono H1 (fun _ h => h) fun _ h => ih h
      have H3 := HP.sep_comm (HP.sep_assoc' (HP.sep_mono H2 (fun _ h => h) fun _ h => HP.sep_comm h))
      exact HP.sep_mono H3 (fun _ h => h) fun _ h => (hden_cons ρ x _ _ _).2 h
theorem hden_mem {ρ : Env} {l : Hp} {x : Key × C} (hx : x ∈ l) {R h : PH} (H : (hden ρ l).p R h) : (cden ρ x).p R h := by
  induction l generalizing h with
  | nil => cases hx
  | cons y r ih =>
    have H1 := (hden_cons ρ y r R h).1 H
    cases hx with
    | head => exact HP.sep_left H1
    | tail _ hr => exact ih hr (HP.sep_right H1)
theorem hden_remove {ρ : Env} {l : Hp} {x : Key × C} (hx : x ∈ l) {R h : PH} (H : (hden ρ l).p R h) : (HP.sep (cden ρ x) (hden ρ (l.erase x))).p R h := by
  induction l generalizing h with
  | nil => cases hx
  | cons y r ih =>
    have H1 := (hden_cons ρ y r R h).1 H
    by_cases e : y = x
    · subst e
      rw [List.erase_cons_head]
      exact H1
    · rw [List.erase_cons_tail (by simpa using e)]
      have hr : x ∈ r := by
        cases hx with
        | head => exact absurd rfl e
        | tail _ hr => exact hr
      have H2 := HP.sep_mono H1 (fun _ h => h) fun _ h => ih hr h
      have H3 := HP.sep_assoc (HP.sep_mono (HP.sep_assoc' H2) (fun _ h => HP.sep_comm h) fun _ h => h)
      exact HP.sep_mono H3 (fun _ h => h) fun _ h => (hden_cons ρ y _ _ _).2 h
theorem hden_sub {ρ : Env} {m : Hp} : ∀ {l : Hp}, nodupH m = true → (∀ x ∈ m, x ∈ l) → ∀ {R h : PH}, (hden ρ l).p R h → (hden ρ m).p R h := by
  induction m with
  | nil => intro _ _ _ _ _ _; trivial
  | cons x r ih =>
    intro l hn hs R h H
    simp only [nodupH, Bool.and_eq_true, Bool.not_eq_true', List.contains_eq_mem, decide_eq_false_iff_not] at hn
    have H1 := hden_remove (hs x (List.mem_cons_self ..)) H
    refine (hden_cons ρ x r R h).2 (HP.sep_mono H1 (fun _ h => h) fun _ h => ih hn.2 (fun y hy => ?_) h)
    exact (List.mem_erase_of_ne (fun e => hn.1 (by rw [← e]; exact hy))).2 (hs y (List.mem_cons_of_mem _ hy))
theorem findC_mem {h : Hp} {k : Key} {c : C} (e : findC h k = some c) : (k, c) ∈ h := by
  induction h with
  | nil => cases e
  | cons x r ih =>
    obtain ⟨y, d⟩ := x
    simp only [findC] at e
    split at e
    · rename_i hy; subst hy; cases e; exact List.mem_cons_self ..
    · exact List.mem_cons_of_mem _ (ih e)


def Tm (ρ : Env) (t : List (Option V)) (a : Act) : Prop := a.tmps.size = t.length ∧ ∀ (i : Nat) (v : V), t[i]? = some (some v) → a.tmps[i]? = some (v.den ρ)
def markOf (ρ : Env) (r : BR) : Deferred := { target := .collected (r.den ρ), args := #[] }
structure Ok (ρ : Env) (s : S) (a : Act) (w0 w : World) (R h F : PH) : Prop where
  dfr : a.defers = s.df.map (markOf ρ)
  tm : Tm ρ s.t a
  len : ρ.length = s.n
  kn : ∀ x ∈ s.kn, (x.1.den ρ).bool = x.2
  hp : (hden ρ s.h).p R h
  sat : Sat w R h F
  same : Same w0 w
theorem Tm.put {ρ : Env} {t : List (Option V)} {a : Act} (h : Tm ρ t a) (d : Tmp) (v : V) : Tm ρ (t.set d (some v)) (a.put (some d) (v.den ρ)) := by
  refine ⟨by simp [Act.put, h.1], fun i u hi => ?_⟩
  simp only [Act.put]
  by_cases e : d = i
  · subst e
    have hl : d < t.length := by
      rcases Nat.lt_or_ge d t.length with g | g
      · exact g
      · rw [List.set_eq_of_length_le g, List.getElem?_eq_none g] at hi; cases hi
    rw [List.getElem?_set_self hl] at hi
    simp only [Option.some.injEq] at hi
    subst hi
    rw [Array.getElem?_setIfInBounds_self_of_lt (by rw [h.1]; exact hl)]
  · rw [List.getElem?_set_ne e] at hi
    rw [Array.getElem?_setIfInBounds_ne e]
    exact h.2 i u hi
theorem Ok.put {ρ : Env} {s : S} {a : Act} {w0 w : World} {R h F : PH} (k : Ok ρ s a w0 w R h F) (d : Option Tmp) (v : V) : Ok ρ (s.put d v) (a.put d (v.den ρ)) w0 w R h F := by
  cases d with
  | none => exact k
  | some d => exact ⟨k.dfr, k.tm.put d v, k.len, k.kn, k.hp, k.sat, k.same⟩
theorem Tm.app {ρ : Env} {t : List (Option V)} {a : Act} (h : Tm ρ t a) (hb : (t.all fun | some v => v.bel ρ.length | none => true) = true) (x : Env) : Tm (ρ ++ x) t a :=
  ⟨h.1, fun i v hi => by rw [V.app (by have := List.all_eq_true.1 hb _ (List.mem_of_getElem? hi); exact this)]; exact h.2 i v hi⟩
theorem Ok.app {ρ : Env} {s : S} {a : Act} {w0 w : World} {R h F : PH} (k : Ok ρ s a w0 w R h F) (hb : s.bel = true) (x : Env) (n : Nat) (hn : n = s.n + x.length) : Ok (ρ ++ x) { s with n := n } a w0 w R h F := by
  simp only [S.bel, Bool.and_eq_true] at hb
  obtain ⟨⟨⟨h1, h2⟩, h4⟩, h3⟩ := hb
  rw [← k.len] at h1 h2 h3 h4
  refine ⟨?_, k.tm.app h1 x, by simp [k.len, hn], fun y hy => ?_, ?_, k.sat, k.same⟩
  · rw [k.dfr]
    exact List.map_congr_left fun r hr => by unfold markOf; rw [BR.app (List.all_eq_true.1 h4 r hr)]
  · rw [E.app (List.all_eq_true.1 h3 y hy)]; exact k.kn y hy
  · show (hden (ρ ++ x) s.h).p R h
    rw [hden_app h2]; exact k.hp


theorem ofVal1_den {v : Value} {x : A} (h : ofVal1 v = some x) (ρ : Env) : x.den ρ = v := by
  unfold ofVal1 at h
  split at h <;> first | (cases h; done) | (cases h; rfl)
theorem mapM'_eq {α β : Type} {f : α → Option β} : ∀ {l : List α} {m : List β}, mapM' f l = some m → l.map f = m.map some
  | [], m, h => by cases h; rfl
  | x :: r, m, h => by
    simp only [mapM'] at h
    split at h
    · rename_i y hy
      split at h
      · rename_i q hq; cases h; simp [hy, mapM'_eq hq]
      · cases h
    · cases h
theorem ofVals_den {l : List Value} {m : List A} (h : mapM' ofVal1 l = some m) (ρ : Env) : m.map (A.den ρ) = l := by
  induction l generalizing m with
  | nil => cases h; rfl
  | cons x r ih =>
    simp only [mapM'] at h
    split at h
    · rename_i y hy
      split at h
      · rename_i q hq; cases h; simp [ofVal1_den hy, ih hq]
      · cases h
    · cases h
theorem ofVal_den {v : Value} {x : W} (h : ofVal v = some x) (ρ : Env) : x.den ρ = v := by
  unfold ofVal at h
  split at h
  · rename_i cs
    simp only [Option.map_eq_some_iff] at h
    obtain ⟨m, hm, rfl⟩ := h
    simp only [W.den]
    rw [ofVals_den hm]
  · simp only [Option.map_eq_some_iff] at h
    obtain ⟨m, hm, rfl⟩ := h
    exact ofVal1_den hm ρ
theorem ev_den {ρ : Env} {s : S} {a : Act} (h : Tm ρ s.t a) {x : Operand} {v : V} (e : ev s x = some v) : a.eval x = v.den ρ := by
  cases x with
  | tmp t =>
    simp only [ev] at e
    split at e
    · rename_i o ho
      subst e
      have := h.2 t v (by assumption)
      simp [Act.eval, this]
    · cases e
  | const c =>
    simp only [ev, Option.map_eq_some_iff] at e
    obtain ⟨w, hw, rfl⟩ := e
    exact (ofVal_den hw ρ).symm
  | global g => simp only [ev, Option.some.injEq] at e; subst e; rfl
  | func f => simp only [ev, Option.some.injEq] at e; subst e; rfl
theorem evA_den {ρ : Env} {s : S} {a : Act} (h : Tm ρ s.t a) {x : Operand} {v : A} (e : evA s x = some v) : a.eval x = v.den ρ := by
  unfold evA at e
  split at e
  · rename_i y hy; cases e; exact ev_den h hy
  · cases e
theorem evW_den {ρ : Env} {s : S} {a : Act} (h : Tm ρ s.t a) {x : Operand} {v : W} (e : evW s x = some v) : a.eval x = v.den ρ := by
  unfold evW at e
  split at e
  · rename_i y hy; cases e; exact ev_den h hy
  · cases e
theorem knowsL_den {ρ : Env} {l : List (E × Bool)} (h : ∀ x ∈ l, (x.1.den ρ).bool = x.2) {e : E} {b : Bool} (k : knowsL l e = some b) : (e.den ρ).bool = b := by
  induction l with
  | nil => cases k
  | cons x r ih =>
    have hx : (x.1.den ρ).bool = x.2 := h x (List.mem_cons_self ..)
    obtain ⟨y, c⟩ := x
    simp only at hx
    simp only [knowsL] at k
    split at k
    · rename_i he; cases k; subst he; exact hx
    · split at k
      · rename_i he
        cases k
        subst he
        simp only [E.den, F1.app, Uni.bool] at hx
        simp only [← hx, Bool.not_not]
        rfl
      · split at k
        · rename_i he
          cases k
          subst he
          simp only [E.den, F1.app, Uni.bool]
          simp only [← hx]
          rfl
        · exact ih (fun z hz => h z (List.mem_cons_of_mem _ hz)) k
theorem knows_den {ρ : Env} {l : List (E × Bool)} (h : ∀ x ∈ l, (x.1.den ρ).bool = x.2) {e : E} {b : Bool} (k : knows l e = some b) : (e.den ρ).bool = b := by
  unfold knows at k
  split at k
  · rename_i c hc
    cases k
    cases e <;> simp only [isLit] at hc <;> first | (cases hc; done) | (cases hc; rfl)
  · exact knowsL_den h k
theorem noT_den (ρ : Env) (e : E) : ((noT e).den ρ).bool = !(e.den ρ).bool := by cases e <;> simp [noT, E.den, F1.app, Uni.bool]
end Go.Proofs.YtcpjdfihpdjkbaaGreatDoor.RX



namespace Go.Proofs.YtcpjdfihpdjkbaaGreatDoor.RX
open Go.Proofs.YtcpjdfihpdjkbaaGreatDoor

section
variable {P : Program} {w : World}
theorem run_underlying {t : TypeId} {d : TypeDesc} (h : P.underlying t = some d) : (underlying t).run P w = .ok d w := by
  simp [underlying, program, h, Sem.run]
theorem underlying_info {t : TypeId} {d : TypeDesc} (h : P.underlying t = some d) : ∃ i, P.info? t = some i := by
  unfold Program.underlying at h
  split at h
  · rename_i hh; exact ⟨_, hh⟩
  · rename_i hh; exact ⟨_, hh⟩
  · cases h
theorem run_typeInfo {t : TypeId} {i : TypeInfo} (h : P.info? t = some i) : (typeInfo t).run P w = .ok i w := by
  simp [typeInfo, program, h, Sem.run]
theorem run_sizeOf {t : TypeId} {i : TypeInfo} (h : P.info? t = some i) : (sizeOf t).run P w = .ok (szT P t) w := by
  simp only [sizeOf, Sem.run_bind, run_typeInfo h, Result.andThen_ok, szT, h, Sem.run_pure]
theorem run_isAgg {t : TypeId} {d : TypeDesc} (h : P.underlying t = some d) : (isAgg t).run P w = .ok (aggT P t) w := by
  simp only [isAgg, Sem.run_bind, run_underlying h, Result.andThen_ok, aggT, h]
  cases d <;> rfl
theorem run_load {a : Addr} {v : Value} (h : w.cell? a = some v) : (load a).run P w = .ok v w := by
  simp [load, Sem.run, h]
theorem addr_add (b off n : Nat) : (⟨b, off, none⟩ : Addr).add n = ⟨b, off + n, none⟩ := by
  unfold Addr.add; split <;> simp_all
theorem run_loadCellsFrom {b off : Nat} (vs : List Value) : ∀ (i : Nat) (acc : Array Value), (∀ j v, vs[j]? = some v → w.cell? ⟨b, off + (i + j), none⟩ = some v) →
    (loadCellsFrom ⟨b, off, none⟩ i vs.length acc).run P w = .ok (acc ++ vs.toArray) w := by
  induction vs with
  | nil => intro i acc _; simp [loadCellsFrom]
  | cons x r ih =>
    intro i acc h
    have h0 := h 0 x rfl
    rw [Nat.add_zero] at h0
    simp only [List.length_cons, loadCellsFrom, addr_add, Sem.run_bind, run_load h0, Result.andThen_ok]
    rw [ih (i + 1) (acc.push x) (fun j v hj => by have := h (j + 1) v (by simpa using hj); rw [show i + 1 + j = i + (j + 1) by omega]; exact this)]
    simp
theorem run_loadCells {b off : Nat} (vs : List Value) (h : ∀ j v, vs[j]? = some v → w.cell? ⟨b, off + j, none⟩ = some v) :
    (loadCells ⟨b, off, none⟩ vs.length).run P w = .ok vs.toArray w := by
  unfold loadCells
  rw [run_loadCellsFrom vs 0 #[] (fun j v hj => by simpa using h j v hj)]
  simp
theorem run_part {ρ : Env} {t : TypeId} {l : List A} {off : Nat} {x : W} (h : partA P t l off = some x) : (part t (l.map (A.den ρ)).toArray off).run P w = .ok (x.den ρ) w := by
  unfold partA at h
  split at h
  · cases h
  · rename_i d hd
    obtain ⟨i, hi⟩ := underlying_info hd
    split at h
    · rename_i ha
      split at h
      · cases h
        simp only [part, Sem.run_bind, run_isAgg hd, Result.andThen_ok, ha, if_true, run_sizeOf hi, Sem.run_pure, W.den]
        congr 3
        rw [List.map_take, List.map_drop]
        simp [List.extract_toArray]
      · cases h
    · rename_i ha
      simp only [Option.map_eq_some_iff] at h
      obtain ⟨y, hy, rfl⟩ := h
      have ha' : aggT P t = false := by simpa using ha
      simp only [part, Sem.run_bind, run_isAgg hd, Result.andThen_ok, ha', Bool.false_eq_true, if_false, List.getElem?_toArray, List.getElem?_map, hy, Option.map_some, Sem.run_pure, W.den]
end

theorem cells_at {w : World} {R h F : PH} (s : Sat w R h F) {b : Nat} {c : Array Value} {ty : TypeId} (e : h b = some (.cells c ty (0, 0))) (k : Nat) : w.cell? ⟨b, k, none⟩ = c[k]? := by
  unfold World.cell?; rw [s.oh b _ e]; rfl
theorem cden_cells {ρ : Env} {r : BR} {l : List A} {ty : TypeId} {R h : PH} (H : (cden ρ (.b r, .cells l ty)).p R h) : h (r.den ρ) = some (.cells (l.map (A.den ρ)).toArray ty (0, 0)) := H

theorem wrap_in {k : IntKind} {x : Int} (h : k.min ≤ x ∧ x ≤ k.max) : k.wrap x = x := by
  obtain ⟨h1, h2⟩ := h
  cases k <;> simp [IntKind.min, IntKind.max, IntKind.signed, IntKind.bits, IntKind.wrap] at * <;> omega
theorem prop_bool {ρ : Env} {e : E} (h : e.prop ρ) : (e.den ρ).bool = true := (E.prop_iff ρ e).1 h
theorem rng_prop {ρ : Env} {k : IntKind} {e : E} (h : (rng k e).prop ρ) : k.min ≤ (e.den ρ).int ∧ (e.den ρ).int ≤ k.max := by
  unfold rng at h
  split at h
  · split at h
    · rename_i hh; exact hh
    · exact h
  · exact h
theorem need1_mem {e : E} {l : List E} {ρ : Env} (h : ∀ y ∈ need1 e l, y.prop ρ) : e.prop ρ ∧ ∀ y ∈ l, y.prop ρ := by
  unfold need1 at h
  split at h
  · exact ⟨rfl, h⟩
  · exact ⟨h _ (List.mem_cons_self ..), fun y hy => h y (List.mem_cons_of_mem _ hy)⟩
theorem arith_den {op : BinOp} {a b e : E} (h : arith op a b = some e) (ρ : Env) (k : IntKind) : Op.intArith op k (a.den ρ).int (b.den ρ).int = pure (.int k (k.wrap (e.den ρ).int)) := by
  unfold arith at h
  split at h <;> cases h <;> rfl
theorem cmpE_den (ρ : Env) (f : F2) (a b : E) : ((cmpE f a b).den ρ).bool = ((E.o2 f a b).den ρ).bool := by
  unfold cmpE
  split <;> rfl
theorem cmpE_prop (ρ : Env) (f : F2) (a b : E) : (cmpE f a b).prop ρ ↔ (E.o2 f a b).prop ρ := by
  rw [E.prop_iff, E.prop_iff, cmpE_den]
theorem noT_prop (ρ : Env) (e : E) : (noT e).prop ρ ↔ ¬ e.prop ρ := by
  rw [E.prop_iff, E.prop_iff, noT_den]; simp
theorem binInt_run {P : Program} {w : World} {ρ : Env} {op : BinOp} {k : IntKind} {a b : E} {es : List E} {r : A} (h : binInt op k a b = some (es, r)) (hn : ∀ e ∈ es, e.prop ρ) (t : TypeId) :
    (binOp op t (.int k (a.den ρ).int) (.int k (b.den ρ).int)).run P w = .ok (r.den ρ) w := by
  have ht : ∀ x y : Int, (x == y) = decide (x = y) := fun x y => rfl
  cases op <;> simp only [binInt] at h <;> try (cases h; done)
  case add | sub | mul =>
    split at h
    · rename_i e he
      have hd := arith_den he ρ k
      split at h
      · cases h
        have := rng_prop (need1_mem hn).1
        simp [binOp, hd, A.den, wrap_in this]
      · cases h
        simp [binOp, hd, A.den, E.den, F1.app]
    · cases h
  case quo =>
    split at h
    · rename_i x y
      split at h
      · rename_i hy
        cases h
        simp [binOp, Op.intDiv, E.den, hy.1, A.den, wrap_in hy.2]
      · cases h
    · cases h
      obtain ⟨h1, h2⟩ := need1_mem hn
      obtain ⟨h3, _⟩ := need1_mem h2
      have h4 := rng_prop h3
      rw [noT_prop, cmpE_prop] at h1
      have h5 : ¬ (b.den ρ).int = 0 := h1
      simp only [E.den, F2.app, Uni.int_i] at h4
      simp [binOp, Op.intDiv, h5, A.den, E.den, F2.app, wrap_in h4]
  case rem =>
    split at h
    · rename_i x y
      split at h
      · rename_i hy
        cases h
        simp [binOp, Op.intDiv, E.den, hy, A.den]
      · cases h
    · cases h
      obtain ⟨h1, h2⟩ := need1_mem hn
      rw [noT_prop, cmpE_prop] at h1
      have h5 : ¬ (b.den ρ).int = 0 := h1
      simp [binOp, Op.intDiv, h5, A.den, E.den, F2.app]
  case and | or | xor | andNot =>
    cases h
    simp [binOp, Op.intBits, A.den, E.den, F2.app, Uni.int, bits]
  case eql | lss | leq | gtr | geq =>
    cases h
    simp [binOp, Op.intCmp, A.den, cmpE_den, E.den, F2.app, ht]
  case neq =>
    cases h
    simp [binOp, Op.intCmp, A.den, noT_den, cmpE_den, E.den, F2.app, bne, ht]
end Go.Proofs.YtcpjdfihpdjkbaaGreatDoor.RX



namespace Go.Proofs.YtcpjdfihpdjkbaaGreatDoor.RX
open Go.Proofs.YtcpjdfihpdjkbaaGreatDoor

theorem eqGuard_not {P : Program} {w : World} {op : BinOp} {t : TypeId} {x y : Operand} {a b : Value} (h1 : ¬ (a = .nilIface ∧ b = .nilIface)) (h2 : ∀ c d, ¬ (a = .agg c ∧ b = .agg d)) :
    (eqGuard op t x y a b).run P w = .ok () w := by
  unfold eqGuard
  cases op <;> first | rfl | skip
  all_goals
    simp only [Bool.not_true, Bool.false_eq_true, if_false]
    split
    · exact absurd ⟨rfl, rfl⟩ h1
    · exact absurd ⟨rfl, rfl⟩ (h2 _ _)
    · rfl
theorem run_equal {P : Program} {w : World} {t : TypeId} {x y : Value} {b : Bool}
    (e : ∀ n, (Op.equalIn (n + 1) t x y).run P w = .ok b w) : (Op.equal t x y).run P w = .ok b w := e 9999
theorem isNilT_den {P : Program} {w : World} {ρ : Env} {t : TypeId} {a b : A} {e : E} (hb : isNilC b = true) (ka : nilKind P t a = true) (kb : nilKind P t b = true) (he : isNilT a = some e) :
    (Op.equal t (a.den ρ) (b.den ρ)).run P w = .ok (e.den ρ).bool w ∧ (Op.equal t (b.den ρ) (a.den ρ)).run P w = .ok (e.den ρ).bool w := by
  unfold nilKind at ka
  split at ka <;> first | (cases ka; done) | skip
  case h_1 h | h_2 h | h_3 h | h_4 h | h_6 h | h_7 h =>
    cases b <;> simp only [isNilC, nilKind, h] at hb kb <;> first | (cases hb; done) | (cases kb; done) | skip
    cases he
    refine ⟨run_equal fun n => ?_, run_equal fun n => ?_⟩ <;> simp [Op.equalIn, run_underlying h, A.den, E.den]
  case h_5 s l c h =>
    cases b with
    | sl s' l' c' =>
      have : s' = .nil := by
        unfold isNilC at hb
        split at hb <;> first | (cases hb; done) | skip
        all_goals rename_i hh; first | (cases hh; done) | (cases hh; rfl)
      subst this
      cases s with
      | nil => cases he; refine ⟨run_equal fun n => ?_, run_equal fun n => ?_⟩ <;> simp [Op.equalIn, run_underlying h, A.den, SA.den, E.den]
      | v k =>
        cases he
        refine ⟨run_equal fun n => ?_, run_equal fun n => ?_⟩ <;> simp only [Op.equalIn, Sem.run_bind, run_underlying h, Result.andThen_ok, A.den, SA.den, noT, E.den, F1.app, Uni.bool_c] <;> cases (look ρ k).adr <;> rfl
      | b r o => cases he; refine ⟨run_equal fun n => ?_, run_equal fun n => ?_⟩ <;> simp [Op.equalIn, run_underlying h, A.den, SA.den, E.den]
    | _ => simp only [isNilC, nilKind, h] at hb kb <;> first | (cases hb; done) | (cases kb; done)
theorem run_equal_bool {P : Program} {w : World} {t : TypeId} (h : boolT P t = true) (a b : Bool) : (Op.equal t (.bool a) (.bool b)).run P w = .ok (a == b) w := by
  unfold boolT at h
  split at h
  · rename_i hd
    exact run_equal fun n => by simp only [Op.equalIn, Sem.run_bind, run_underlying hd, Result.andThen_ok, Sem.run_pure]
  · cases h
theorem str_eq (a b : List UInt8) : ((⟨a.toArray⟩ : ByteArray).toList == (⟨b.toArray⟩ : ByteArray).toList) = decide (a = b) := by
  rw [ByteArray.toList_mk, ByteArray.toList_mk]
  exact Bool.eq_iff_iff.2 (by simp)
end Go.Proofs.YtcpjdfihpdjkbaaGreatDoor.RX



namespace Go.Proofs.YtcpjdfihpdjkbaaGreatDoor.RX
open Go.Proofs.YtcpjdfihpdjkbaaGreatDoor

theorem nilKind_not {P : Program} {t : TypeId} {a : A} (h : nilKind P t a = true) (ρ : Env) : a.den ρ ≠ .nilIface ∧ ∀ c, a.den ρ ≠ .agg c := by
  unfold nilKind at h
  split at h <;> first | (cases h; done) | simp [A.den]
theorem binOp_equal {P : Program} {w : World} {t : TypeId} {x y : Value} {b : Bool} (hx : (∃ o, x = .pointer o) ∨ (∃ o l c, x = .slice o l c) ∨ (∃ o, x = .map o) ∨ x = .nilFunc ∨ (∃ f g c, x = .func f g c))
    (h : (Op.equal t x y).run P w = .ok b w) : (binOp .eql t x y).run P w = .ok (.bool b) w ∧ (binOp .neq t x y).run P w = .ok (.bool (!b)) w := by
  rcases hx with ⟨o, rfl⟩ | ⟨o, l, c, rfl⟩ | ⟨o, rfl⟩ | rfl | ⟨f, g, c, rfl⟩ <;>
    refine ⟨?_, ?_⟩ <;> simp only [binOp, Sem.run_bind, h, Result.andThen_ok, Sem.run_pure]
theorem nilKind_form {P : Program} {t : TypeId} {a : A} (h : nilKind P t a = true) (ρ : Env) :
    (∃ o, a.den ρ = .pointer o) ∨ (∃ o l c, a.den ρ = .slice o l c) ∨ (∃ o, a.den ρ = .map o) ∨ a.den ρ = .nilFunc ∨ (∃ f g c, a.den ρ = .func f g c) := by
  unfold nilKind at h
  split at h <;> first | (cases h; done) | simp [A.den]

theorem binA_run {P : Program} {w : World} {ρ : Env} {op : BinOp} {t : TypeId} {a b : A} {es : List E} {r : A} (h : binA P op t a b = some (es, r)) (hn : ∀ e ∈ es, e.prop ρ) (x y : Operand) :
    (do eqGuard op t x y (a.den ρ) (b.den ρ); binOp op t (a.den ρ) (b.den ρ) : Sem Value).run P w = .ok (r.den ρ) w := by
  rw [Sem.run_bind]
  have guard : (∀ k, a ≠ .val k) → a ≠ .nili → (eqGuard op t x y (a.den ρ) (b.den ρ)).run P w = .ok () w := fun h1 h2 =>
    eqGuard_not (fun h => by cases a <;> simp_all [A.den]) (fun c d h => by cases a <;> simp_all [A.den])
  unfold binA at h
  split at h
  · cases h
    rw [guard (by simp) (by simp)]
    have h1 := (need1_mem hn).1
    rw [cmpE_prop] at h1
    have h2 : ¬ (E.den ρ _).int < 0 := Int.not_lt.2 (show (0 : Int) ≤ _ from h1)
    simp [binOp, Op.shift, A.den, E.den, F2.app, h2]
  · cases h
    rw [guard (by simp) (by simp)]
    have h1 := (need1_mem hn).1
    rw [cmpE_prop] at h1
    have h2 : ¬ (E.den ρ _).int < 0 := Int.not_lt.2 (show (0 : Int) ≤ _ from h1)
    simp [binOp, Op.shift, A.den, E.den, F2.app, h2]
  · split at h
    · rename_i hk
      subst hk
      rw [guard (by simp) (by simp)]
      exact binInt_run h hn t
    · cases h
  · split at h
    · rename_i hb
      cases h
      rw [guard (by simp) (by simp)]
      simp only [Result.andThen_ok, binOp, A.den, Sem.run_bind, run_equal_bool hb, Sem.run_pure, E.den, F2.app, Uni.bool_c]
    · cases h
  · split at h
    · rename_i hb
      cases h
      rw [guard (by simp) (by simp)]
      simp only [Result.andThen_ok, binOp, A.den, Sem.run_bind, run_equal_bool hb, Sem.run_pure, noT_den, E.den, F2.app, Uni.bool_c]
    · cases h
  · cases h
    rw [guard (by simp) (by simp)]
    simp only [Result.andThen_ok, A.den, binOp_string_eql, str_eq, Sem.run_pure, E.den, F2.app, Uni.bool_c]
  · cases h
    rw [guard (by simp) (by simp)]
    simp only [Result.andThen_ok, A.den, binOp_string_neq, str_eq, Sem.run_pure, noT_den, E.den, F2.app, Uni.bool_c]
  · cases h
    rw [guard (by simp) (by simp)]
    have h1 := hn _ (List.mem_cons_self ..)
    simp only [E.prop, E.den, F1.app, F2.app, Uni.int_i, Uni.nat_n] at h1
    rename_i sa sb
    have h2 : ¬ ((((⟨(sa.den ρ).str.toArray⟩ : ByteArray).size + (⟨(sb.den ρ).str.toArray⟩ : ByteArray).size : Nat) : Int) > IntKind.i64.max) := by
      simp only [ByteArray.size, List.size_toArray, IntKind.max, IntKind.signed, IntKind.bits]
      simp only [if_true]
      omega
    simp only [Result.andThen_ok, A.den, binOp, Op.stringOp, h2, if_false, Sem.run_pure, E.den, F2.app, Uni.str_s]
    congr 3
  · cases h
    rw [guard (by simp) (by simp)]
    simp only [Result.andThen_ok, A.den, binOp_string_lss, ByteArray.toList_mk, Sem.run_pure, E.den, F2.app, Uni.bool_c]
  · split at h
    · rename_i hc
      simp only [Bool.and_eq_true] at hc
      simp only [Option.map_eq_some_iff] at h
      obtain ⟨e, he, h⟩ := h
      cases h
      obtain ⟨n1, n2⟩ := nilKind_not hc.1.2 ρ
      rw [eqGuard_not (fun h => n1 h.1) (fun c d h => n2 c h.1)]
      exact (binOp_equal (nilKind_form hc.1.2 ρ) (isNilT_den hc.1.1 hc.1.2 hc.2 he).1).1
    · split at h
      · rename_i hc
        simp only [Bool.and_eq_true] at hc
        simp only [Option.map_eq_some_iff] at h
        obtain ⟨e, he, h⟩ := h
        cases h
        obtain ⟨n1, n2⟩ := nilKind_not hc.1.2 ρ
        rw [eqGuard_not (fun h => n1 h.1) (fun c d h => n2 c h.1)]
        exact (binOp_equal (nilKind_form hc.1.2 ρ) (isNilT_den hc.1.1 hc.2 hc.1.2 he).2).1
      · cases h
  · split at h
    · rename_i hc
      simp only [Bool.and_eq_true] at hc
      simp only [Option.map_eq_some_iff] at h
      obtain ⟨e, he, h⟩ := h
      cases h
      obtain ⟨n1, n2⟩ := nilKind_not hc.1.2 ρ
      rw [eqGuard_not (fun h => n1 h.1) (fun c d h => n2 c h.1)]
      simp only [A.den, noT_den]
      exact (binOp_equal (nilKind_form hc.1.2 ρ) (isNilT_den hc.1.1 hc.1.2 hc.2 he).1).2
    · split at h
      · rename_i hc
        simp only [Bool.and_eq_true] at hc
        simp only [Option.map_eq_some_iff] at h
        obtain ⟨e, he, h⟩ := h
        cases h
        obtain ⟨n1, n2⟩ := nilKind_not hc.1.2 ρ
        rw [eqGuard_not (fun h => n1 h.1) (fun c d h => n2 c h.1)]
        simp only [A.den, noT_den]
        exact (binOp_equal (nilKind_form hc.1.2 ρ) (isNilT_den hc.1.1 hc.2 hc.1.2 he).2).2
      · cases h
  · cases h
end Go.Proofs.YtcpjdfihpdjkbaaGreatDoor.RX



namespace Go.Proofs.YtcpjdfihpdjkbaaGreatDoor.RX
open Go.Proofs.YtcpjdfihpdjkbaaGreatDoor

theorem exec_value {P : Program} {w : World} {s : Sem Value} {v : Value} (h : s.run P w = .ok v w) : (do pure (.value (← s)) : Sem Next).run P w = .ok (.value v) w := by
  rw [Sem.run_bind, h]; rfl
theorem isSome_known {ρ : Env} {s : S} {k : Nat} (kn : ∀ x ∈ s.kn, (x.1.den ρ).bool = x.2) (h : knows s.kn (.o1 .isSome (.v k)) = some true) : ∃ a, (look ρ k).adr = some a := by
  have := knows_den kn h
  simp only [E.den, F1.app, Uni.bool_c] at this
  exact Option.isSome_iff_exists.1 this
theorem natLit_eq {e : E} {i : Nat} (h : natLit e = some i) : e = .i (i : Int) := by
  unfold natLit at h
  split at h
  · split at h
    · cases h
      congr 1
      omega
    · cases h
  · cases h
theorem lenN_eq {e : E} {i : Nat} (h : lenN e = some i) : e = .n i := by
  unfold lenN at h
  split at h
  · cases h; rfl
  · cases h

section
variable {P : Program} {w : World} {ρ : Env}
theorem run_indexAt_slice {t el : TypeId} (ht : P.underlying t = some (.slice el)) {i : TypeInfo} (hi : P.info? el = some i) {b : Addr} {len cap : Nat} {k : IntKind} {x : Int} (h0 : 0 ≤ x) (h1 : x < len) :
    (Instr.indexAt t (.slice (some b) len cap) (.int k x)).run P w = .ok (.pointer (some (b.add (x.toNat * szT P el)))) w := by
  have hx : 0 ≤ x ∧ x < (len : Int) := ⟨h0, h1⟩
  simp [Instr.indexAt, asIntOf, Sem.run_bind, run_underlying ht, hx, run_sizeOf hi]
theorem run_indexAt_array {t el : TypeId} {n : Nat} (ht : P.underlying t = some (.array n el)) {i : TypeInfo} (hi : P.info? el = some i) {b : Addr} {k : IntKind} {x : Int} (h0 : 0 ≤ x) (h1 : x < n) :
    (Instr.indexAt t (.pointer (some b)) (.int k x)).run P w = .ok (.pointer (some (b.add (x.toNat * szT P el)))) w := by
  have hx : 0 ≤ x ∧ x < (n : Int) := ⟨h0, h1⟩
  simp [Instr.indexAt, asIntOf, Sem.run_bind, run_underlying ht, hx, run_sizeOf hi, Instr.sureAddr]
theorem run_fieldAt {t : TypeId} {fs : Array Field} (ht : P.underlying t = some (.struct fs)) {f : Nat} {fd : Field} (hf : fs[f]? = some fd) (hz : szT P fd.type ≠ 0) {b : Addr} :
    (Instr.fieldAt t (.pointer (some b)) f).run P w = .ok (.pointer (some (b.add fd.offset))) w := by
  cases hi : P.info? fd.type with
  | none => simp [szT, hi] at hz
  | some i => simp [Instr.fieldAt, Sem.run_bind, run_underlying ht, hf, Instr.sureAddr, fieldPlace, run_sizeOf hi, hz]
theorem run_loadAt {t : TypeId} {r : BR} {off : Nat} {l : List A} {ty : TypeId} {x : W} {R h F : PH} (sat : Sat w R h F) (hc : h (r.den ρ) = some (.cells (l.map (A.den ρ)).toArray ty (0, 0))) (hp : partA P t l off = some x) :
    (Instr.loadAt t (.pointer (some ⟨r.den ρ, off, none⟩))).run P w = .ok (x.den ρ) w := by
  have hcell := cells_at sat hc
  unfold partA at hp
  split at hp
  · cases hp
  · rename_i d hd
    obtain ⟨i, hi⟩ := underlying_info hd
    simp only [Instr.loadAt, Instr.sureAddr, Sem.run_bind, Sem.run_pure, Result.andThen_ok, loadVar, run_isAgg hd]
    split at hp
    · rename_i ha
      split at hp
      · rename_i hl
        cases hp
        have hlen : ((l.map (A.den ρ)).drop off |>.take (szT P t)).length = szT P t := by simp; omega
        have hr := run_loadCells (P := P) (w := w) (b := r.den ρ) (off := off) ((l.map (A.den ρ)).drop off |>.take (szT P t)) (fun j v hj => by
          rw [hcell]
          rw [List.getElem?_take] at hj
          split at hj
          · rw [List.getElem?_drop] at hj
            simpa using hj
          · cases hj)
        rw [hlen] at hr
        simp only [ha, if_true, Sem.run_bind, run_sizeOf hi, Result.andThen_ok, hr, Sem.run_pure, W.den, List.map_take, List.map_drop]
      · cases hp
    · rename_i ha
      have ha' : aggT P t = false := by simpa using ha
      simp only [Option.map_eq_some_iff] at hp
      obtain ⟨y, hy, rfl⟩ := hp
      simp only [ha', Bool.false_eq_true, if_false]
      refine run_load ?_
      rw [hcell]
      simp [hy, W.den]
end

theorem pureMF_run {P : Program} {w : World} {ρ : Env} {s : S} {a : Act} {fn : Fn} {first caps : Array Operand} {dst : Option Tmp} {ty : TypeId} {pos : String} {after : Array Edge} {guard : Option (Nat × Bool)} {es : List E} {v : V}
    (h : pureMF s fn first caps = some (es, v)) (tm : Tm ρ s.t a) : (execOp a.eval ⟨dst, .makeFunc fn first caps, ty, pos, after, guard⟩).run P w = .ok (.value (v.den ρ)) w := by
  unfold pureMF at h
  split at h
  · rename_i hf
    split at h
    · rename_i vs hv
      simp only [Option.map_eq_some_iff] at h
      obtain ⟨u, hu, h⟩ := h
      cases h
      refine exec_value ?_
      have e1 := mapM'_eq hv
      have e2 := mapM'_eq hu
      have key : ∀ (l : List Operand) (vs : List V) (cs : List (BR × Nat)), l.map (ev s) = vs.map some → vs.map capOf = cs.map some → l.map a.eval = cs.map (capV ρ) := by
        intro l
        induction l with
        | nil => intro vs cs h1 h2; cases vs with
          | nil => cases cs with
            | nil => rfl
            | cons _ _ => cases h2
          | cons _ _ => cases h1
        | cons x r ih => intro vs cs h1 h2; cases vs with
          | nil => cases h1
          | cons y q => cases cs with
            | nil => cases h2
            | cons c m =>
              simp only [List.map_cons, List.cons.injEq] at h1 h2 ⊢
              refine ⟨?_, ih q m h1.2 h2.2⟩
              rw [ev_den tm h1.1]
              have := h2.1
              unfold capOf at this
              split at this
              · cases this; rfl
              · cases this
      have e3 := key caps.toList vs u e1 e2
      have hf' : first = #[] := by
        cases first; simp_all
      subst hf'
      simp only [Instr.makeFunc, Sem.run_pure, V.den, W.den, A.den]
      rw [← e3]
      cases caps
      simp
    · cases h
  · cases h
theorem pureIx_run {P : Program} {w : World} {ρ : Env} {s : S} {a : Act} {t : TypeId} {x ix : Operand} {dst : Option Tmp} {ty : TypeId} {pos : String} {after : Array Edge} {guard : Option (Nat × Bool)} {es : List E} {v : V}
    (h : pureIx P s t x ix = some (es, v)) (tm : Tm ρ s.t a) (hn : ∀ e ∈ es, e.prop ρ) : (execOp a.eval ⟨dst, .indexAddr t x ix, ty, pos, after, guard⟩).run P w = .ok (.value (v.den ρ)) w := by
  unfold pureIx at h
  split at h
  · rename_i el k len _ _ e hd hx hi
    split at h
    · rename_i hs
      obtain ⟨inf, hinf⟩ := Option.isSome_iff_exists.1 hs
      cases h
      have h0 := need1_mem hn
      have h1 := h0.1
      rw [cmpE_prop] at h1
      have h2 := h0.2 _ (List.mem_cons_self ..)
      have h3 := h0.2 _ (List.mem_cons_of_mem _ (List.mem_cons_self ..))
      have h3' : ∃ b, (look ρ k).adr = some b := Option.isSome_iff_exists.1 (prop_bool h3)
      obtain ⟨b, hb⟩ := h3'
      refine exec_value ?_
      rw [evA_den tm hx, evA_den tm hi]
      simp only [A.den, SA.den, hb, V.den, W.den, Option.map_some]
      rw [run_indexAt_slice hd hinf (show (0 : Int) ≤ (e.den ρ).int from h1) (show (e.den ρ).int < (((len.den ρ).nat : Nat) : Int) from h2)]
      simp [Addr.add]
    · cases h
  · rename_i el r off len _ _ e hd hx hi
    split at h
    · rename_i i n hn1 hn2
      split at h
      · rename_i hs
        obtain ⟨inf, hinf⟩ := Option.isSome_iff_exists.1 hs.2
        cases h
        obtain rfl := natLit_eq hn1
        obtain rfl := lenN_eq hn2
        refine exec_value ?_
        rw [evA_den tm hx, evA_den tm hi]
        simp only [A.den, SA.den, E.den, Uni.int_i, Uni.nat_n, V.den, W.den]
        rw [run_indexAt_slice hd hinf (by omega) (by omega)]
        simp [addr_add]
      · cases h
    · cases h
  · rename_i n el r off _ e hd hx hi
    split at h
    · rename_i i hn1
      split at h
      · rename_i hs
        obtain ⟨inf, hinf⟩ := Option.isSome_iff_exists.1 hs.2
        cases h
        obtain rfl := natLit_eq hn1
        refine exec_value ?_
        rw [evA_den tm hx, evA_den tm hi]
        simp only [A.den, E.den, Uni.int_i, V.den, W.den]
        rw [run_indexAt_array hd hinf (by omega) (by omega)]
        simp [addr_add]
      · cases h
    · cases h
  · cases h
theorem pureCall_run {P : Program} {w : World} {ρ : Env} {s : S} {a : Act} {c : Call} {dst : Option Tmp} {ty : TypeId} {pos : String} {after : Array Edge} {guard : Option (Nat × Bool)} {es : List E} {v : V}
    (h : pureCall P s c = some (es, v)) (tm : Tm ρ s.t a) : (execOp a.eval ⟨dst, .call c, ty, pos, after, guard⟩).run P w = .ok (.value (v.den ρ)) w := by
  obtain ⟨callee, args, argTypes⟩ := c
  unfold pureCall at h
  split at h
  · rename_i x t h1 h2 h3
    simp only at h1 h2 h3
    subst h1
    obtain rfl : args = #[x] := by cases args; simp_all
    obtain rfl : argTypes = #[t] := by cases argTypes; simp_all
    unfold pureLen at h
    split at h
    · rename_i hd hx
      cases h
      simp only [execOp, resolve, Sem.run_bind, Sem.run_pure, Result.andThen_ok, invoke, builtin, List.map_toArray, List.map_cons, List.map_nil, evA_den tm hx, A.den]
      simp only [Builtin.len_, List.getElem?_toArray, List.getElem?_cons_zero, Sem.run_bind, run_underlying hd, Result.andThen_ok, Sem.run_pure, goInt, V.den, W.den, A.den]
      congr 3
      split <;> simp_all [E.den, F1.app]
    · rename_i hd hx
      cases h
      simp only [execOp, resolve, Sem.run_bind, Sem.run_pure, Result.andThen_ok, invoke, builtin, List.map_toArray, List.map_cons, List.map_nil, evA_den tm hx, A.den]
      simp only [Builtin.len_, List.getElem?_toArray, List.getElem?_cons_zero, Sem.run_bind, run_underlying hd, Result.andThen_ok, Sem.run_pure, goInt, V.den, W.den, A.den, ByteArray.size, List.size_toArray]
      congr 3
      split <;> simp_all [E.den, F1.app]
    · rename_i hd hx
      cases h
      simp only [execOp, resolve, Sem.run_bind, Sem.run_pure, Result.andThen_ok, invoke, builtin, List.map_toArray, List.map_cons, List.map_nil, evA_den tm hx, A.den]
      simp only [Builtin.len_, List.getElem?_toArray, List.getElem?_cons_zero, Sem.run_bind, run_underlying hd, Result.andThen_ok, Sem.run_pure, goInt, V.den, W.den, A.den, E.den, Uni.int_i]
    · cases h
  · rename_i x t h1 h2 h3
    simp only at h1 h2 h3
    subst h1
    obtain rfl : args = #[x] := by cases args; simp_all
    obtain rfl : argTypes = #[t] := by cases argTypes; simp_all
    unfold pureCap at h
    split at h
    · rename_i hd hx
      cases h
      simp only [execOp, resolve, Sem.run_bind, Sem.run_pure, Result.andThen_ok, invoke, builtin, List.map_toArray, List.map_cons, List.map_nil, evA_den tm hx, A.den]
      simp [Builtin.cap_, Sem.run_bind, run_underlying hd, goInt, V.den, W.den, A.den, E.den, F1.app]
    · cases h
  · rename_i x y h1 h2
    simp only at h1 h2
    subst h1
    obtain rfl : args = #[x, y] := by cases args; simp_all
    unfold pureMx at h
    split at h
    · rename_i k a _ k' b hx hy
      split at h
      · rename_i hk
        subst hk
        cases h
        simp only [execOp, resolve, Sem.run_bind, Sem.run_pure, Result.andThen_ok, invoke, builtin, List.map_toArray, List.map_cons, List.map_nil, evA_den tm hx, evA_den tm hy, A.den]
        simp only [Builtin.max_, List.foldlM_cons, List.foldlM_nil, Builtin.max2, Sem.run_bind, Sem.run_pure, Result.andThen_ok, V.den, W.den, A.den, E.den, F2.app, Uni.int_i]
        congr 3
        split <;> omega
      · cases h
    · cases h
  · rename_i x y h1 h2
    simp only at h1 h2
    subst h1
    obtain rfl : args = #[x, y] := by cases args; simp_all
    unfold pureMx at h
    split at h
    · rename_i k a _ k' b hx hy
      split at h
      · rename_i hk
        subst hk
        cases h
        simp only [execOp, resolve, Sem.run_bind, Sem.run_pure, Result.andThen_ok, invoke, builtin, List.map_toArray, List.map_cons, List.map_nil, evA_den tm hx, evA_den tm hy, A.den]
        simp only [Builtin.min_, List.foldlM_cons, List.foldlM_nil, Builtin.min2, Sem.run_bind, Sem.run_pure, Result.andThen_ok, V.den, W.den, A.den, E.den, F2.app, Uni.int_i]
        congr 3
        split <;> omega
      · cases h
    · cases h
  · cases h
theorem pureOp_run {P : Program} {w : World} {ρ : Env} {s : S} {a : Act} {o : Oper} {es : List E} {v : V} (h : pureOp P s o.op = some (es, v)) (tm : Tm ρ s.t a) (kn : ∀ x ∈ s.kn, (x.1.den ρ).bool = x.2)
    (hs : ∃ R h F, Sat w R h F ∧ (hden ρ s.h).p R h) (hn : ∀ e ∈ es, e.prop ρ) : (execOp a.eval o).run P w = .ok (.value (v.den ρ)) w := by
  obtain ⟨R, H, F, sat, hp⟩ := hs
  obtain ⟨dst, op, ty, pos, after, guard⟩ := o
  simp only at h
  unfold pureOp at h
  split at h
  · -- move
    simp only [Option.map_eq_some_iff] at h
    obtain ⟨u, hu, h⟩ := h
    cases h
    simp only [execOp, ev_den tm hu, Sem.run_pure]
  · simp only [Option.map_eq_some_iff] at h
    obtain ⟨u, hu, h⟩ := h
    cases h
    simp only [execOp, ev_den tm hu, Sem.run_pure]
  · -- pick
    split at h
    · rename_i c x y e hc
      have hcd := evA_den tm hc
      split at h
      · rename_i hk
        have := knows_den kn hk
        simp only [Option.map_eq_some_iff] at h
        obtain ⟨u, hu, h⟩ := h
        cases h
        simp only [execOp, hcd, A.den, asBool, Sem.run_bind, Sem.run_pure, Result.andThen_ok, this, if_true, ev_den tm hu]
      · rename_i hk
        have := knows_den kn hk
        simp only [Option.map_eq_some_iff] at h
        obtain ⟨u, hu, h⟩ := h
        cases h
        simp only [execOp, hcd, A.den, asBool, Sem.run_bind, Sem.run_pure, Result.andThen_ok, this, Bool.false_eq_true, if_false, ev_den tm hu]
      · split at h
        · rename_i p q hx hy
          cases h
          simp only [execOp, hcd, A.den, asBool, Sem.run_bind, Sem.run_pure, Result.andThen_ok, evA_den tm hx, evA_den tm hy, V.den, W.den]
          congr 2
          have hpe : ((pickE e p q).den ρ).bool = if (e.den ρ).bool then (p.den ρ).bool else (q.den ρ).bool := by
            unfold pickE
            split <;> simp only [E.den, F2.app, Uni.bool_c, noT_den] <;> cases (e.den ρ).bool <;> simp
          rw [hpe]
          split <;> rfl
        · cases h
    · cases h
  · -- nilCheck
    split at h
    · rename_i hx
      cases h
      simp only [execOp, ev_den tm hx, V.den, W.den, A.den, Sem.run_pure]
    · rename_i hx
      cases h
      simp only [execOp, ev_den tm hx, V.den, W.den, A.den, Sem.run_pure]
    · rename_i hx
      split at h
      · rename_i hk
        cases h
        obtain ⟨b, hb⟩ := isSome_known kn hk
        simp only [execOp, ev_den tm hx, V.den, W.den, A.den, hb, Option.map_some, Sem.run_pure]
      · cases h
    · cases h
  · -- fieldAddr
    split at h
    · rename_i hd
      split at h
      · rename_i fd hf
        split at h
        · cases h
        · rename_i hz
          split at h
          · rename_i hx
            cases h
            refine exec_value ?_
            rw [evA_den tm hx]
            simp only [A.den, run_fieldAt hd hf hz, addr_add, V.den, W.den]
          · rename_i hx
            split at h
            · rename_i hk
              cases h
              obtain ⟨b, hb⟩ := isSome_known kn hk
              refine exec_value ?_
              rw [evA_den tm hx]
              simp only [A.den, hb, Option.map_some, run_fieldAt hd hf hz, V.den, W.den]
              congr 3
              unfold Addr.add
              repeat' split
              all_goals simp_all <;> omega
            · cases h
          · cases h
      · cases h
    · cases h
  · -- field
    split at h
    · rename_i hd
      split at h
      · rename_i fd hf
        split at h
        · rename_i hx
          simp only [Option.map_eq_some_iff] at h
          obtain ⟨u, hu, h⟩ := h
          cases h
          refine exec_value ?_
          rw [evW_den tm hx]
          simp only [Instr.field, Sem.run_bind, run_underlying hd, Result.andThen_ok, hf, W.den, asAgg, Sem.run_pure, run_part hu, V.den]
        · cases h
      · cases h
    · cases h
  · -- extract
    split at h
    · rename_i hx
      simp only [Option.map_eq_some_iff] at h
      obtain ⟨u, hu, h⟩ := h
      cases h
      refine exec_value ?_
      rw [ev_den tm hx]
      simp only [V.den, Instr.extract, List.getElem?_toArray, List.getElem?_map, hu, Option.map_some, Sem.run_pure]
    · rename_i hx
      split at h
      · rename_i hi0
        cases h
        subst hi0
        refine exec_value ?_
        rw [ev_den tm hx]
        simp only [V.den, W.den, A.den, E.den]
        cases (look ρ _).bool <;> simp [Instr.extract]
      · cases h
    · cases h
  · -- load
    split at h
    · rename_i hx
      split at h
      · rename_i hf
        simp only [Option.map_eq_some_iff] at h
        obtain ⟨u, hu, h⟩ := h
        cases h
        refine exec_value ?_
        rw [evA_den tm hx]
        simp only [A.den, V.den]
        exact run_loadAt sat (cden_cells (hden_mem (findC_mem hf) hp)) hu
      · cases h
    · cases h
  · -- binOp
    split at h
    · rename_i hx hy
      simp only [Option.map_eq_some_iff] at h
      obtain ⟨u, hu, h⟩ := h
      cases h
      refine exec_value ?_
      rw [evA_den tm hx, evA_den tm hy]
      exact binA_run hu hn _ _
    · cases h
  · -- not
    split at h
    · rename_i hx
      cases h
      refine exec_value ?_
      rw [evA_den tm hx]
      simp only [A.den, Op.unary, Sem.run_pure, V.den, W.den, noT_den]
    · cases h
  · -- neg
    split at h
    · rename_i hx
      simp only [Option.map_eq_some_iff] at h
      obtain ⟨u, hu, h⟩ := h
      cases h
      refine exec_value ?_
      rw [evA_den tm hx]
      have := binInt_run (P := P) (w := w) (t := 0) hu hn
      simp only [binOp, E.den, Uni.int_i] at this
      simpa only [A.den, Op.unary, V.den, W.den, ne_eq, not_true_eq_false, if_false] using this
    · cases h
  · -- convert
    split at h
    · rename_i hs hd hx
      split at h
      · split at h
        · cases h
          refine exec_value ?_
          rw [evA_den tm hx]
          have := rng_prop (need1_mem hn).1
          simp [convert, Sem.run_bind, run_underlying hs, run_underlying hd, A.den, Conv.intToInt, wrap_in this, V.den, W.den]
        · cases h
          refine exec_value ?_
          rw [evA_den tm hx]
          simp [convert, Sem.run_bind, run_underlying hs, run_underlying hd, A.den, Conv.intToInt, V.den, W.den, E.den, F1.app]
      · cases h
    · rename_i hs hd hx
      cases h
      refine exec_value ?_
      rw [evA_den tm hx]
      simp [convert, Sem.run_bind, run_underlying hs, run_underlying hd, A.den, V.den, W.den]
    · cases h
  · exact pureMF_run h tm
  · exact pureIx_run h tm hn
  · exact pureCall_run h tm
  · cases h
end Go.Proofs.YtcpjdfihpdjkbaaGreatDoor.RX



namespace Go.Proofs.YtcpjdfihpdjkbaaGreatDoor
open Go.Proofs.YtcpjdfihpdjkbaaGreatDoor

theorem PH.own.lt {h : PH} {w : World} (o : h.own w) {k : Nat} {x : Obj} (e : h k = some x) : k < w.heap.size := by
  have := o k x e
  rcases Nat.lt_or_ge k w.heap.size with g | g
  · exact g
  · rw [Array.getElem?_eq_none g] at this; cases this
theorem PH.own.free {h : PH} {w : World} (o : h.own w) : h w.heap.size = Option.none := by
  cases e : h w.heap.size with
  | none => rfl
  | some x => exact absurd (o.lt e) (Nat.lt_irrefl _)
theorem PH.own.alloc {h : PH} {w : World} (o : h.own w) (x : Obj) : h.own (w.alloc x) := fun k y e => by
  have := o.lt e
  show (w.heap.push x)[k]? = some y
  rw [Array.getElem?_push, if_neg (by omega)]
  exact o k y e
theorem Sat.alloc {w : World} {R h F : PH} (s : Sat w R h F) (x : Obj) : Sat (w.alloc x) R ((PH.one w.heap.size x).un h) F ∧ (PH.one w.heap.size x).dj h := by
  have dn : ∀ g : PH, g.own w → (PH.one w.heap.size x).dj g := fun g o k => by
    by_cases e : k = w.heap.size
    · subst e; exact .inr o.free
    · exact .inl (if_neg e)
  refine ⟨⟨(PH.dj_un (dn R s.oR) s.dRh.symm).symm, s.dRF, PH.dj_un (dn F s.oF) s.dhF, s.oR.alloc x, fun k y e => ?_, s.oF.alloc x, s.gl⟩, dn h s.oh⟩
  rcases PH.un_some e with e | e
  · obtain ⟨rfl, rfl⟩ := PH.one_some e
    show (w.heap.push _)[w.heap.size]? = _
    rw [Array.getElem?_push, if_pos rfl]
  · exact s.oh.alloc x k y e
theorem Same.alloc (w : World) (x : Obj) : Same w (w.alloc x) := ⟨rfl, rfl, rfl, by rw [World.size_alloc]; omega⟩
theorem Sat.turn {w w' : World} {R h F : PH} (s : Sat w R h F) {b : Nat} {x y : Obj} (hb : h b = some x) (hw : ∀ k, k ≠ b → w'.heap[k]? = w.heap[k]?) (hy : w'.heap[b]? = some y) : Sat w' R (fun k => if k = b then some y else h k) F := by
  have hR : R b = none := (s.dRh b).resolve_right (by rw [hb]; simp)
  have hF : F b = none := (s.dhF b).resolve_left (by rw [hb]; simp)
  refine ⟨fun k => ?_, s.dRF, fun k => ?_, fun k o e => ?_, fun k o e => ?_, fun k o e => ?_, s.gl⟩
  · by_cases e : k = b
    · subst e; exact .inl hR
    · simp only [e, if_false]; exact s.dRh k
  · by_cases e : k = b
    · subst e; exact .inr hF
    · simp only [e, if_false]; exact s.dhF k
  · rw [hw k (fun e' => by subst e'; rw [hR] at e; cases e)]; exact s.oR k o e
  · by_cases e' : k = b
    · subst e'; simp only [if_true] at e; rw [hy]; exact e
    · simp only [e', if_false] at e; rw [hw k e']; exact s.oh k o e
  · rw [hw k (fun e' => by subst e'; rw [hF] at e; cases e)]; exact s.oF k o e
theorem Sat.drew {w : World} {R h F : PH} (s : Sat w R h F) (n : Nat) : Sat { w with drawn := n } R h F := ⟨s.dRh, s.dRF, s.dhF, s.oR, s.oh, s.oF, s.gl⟩
theorem Same.drew (w : World) (n : Nat) : Same w { w with drawn := n } := ⟨rfl, rfl, rfl, Nat.le_refl _⟩

namespace RX
structure Ctx where
  P : Program
  post : Value → HP
  w0 : World
  F : PH
  ρ : Env
  R : PH
  L : List (Env → Prop)
def Nx (c : Ctx) (K : S → T) (a : Act) (w : World) : Prop :=
  ∃ ρ s R h L, c.ρ <+: ρ ∧ c.R.le R ∧ c.L <:+ L ∧ L.length = s.dp ∧ Ok ρ s a c.w0 w R h c.F ∧ (K s).den c.P c.post L ρ
theorem Nx.mk {P : Program} {post : Value → HP} {w0 w : World} {F R h : PH} {ρ : Env} {L : List (Env → Prop)} {K : S → T} {s : S} {a : Act} (ok : Ok ρ s a w0 w R h F) (hl : L.length = s.dp) (hd : (K s).den P post L ρ) :
    Nx ⟨P, post, w0, F, ρ, R, L⟩ K a w := ⟨ρ, s, R, h, L, List.prefix_refl _, PH.le.refl _, List.suffix_refl _, hl, ok, hd⟩
theorem Nx.mono {c c' : Ctx} {K K' : S → T} {a : Act} {w : World} (n : Nx c' K' a w) (hP : c'.P = c.P) (hp : c'.post = c.post) (hw : c'.w0 = c.w0) (hF : c'.F = c.F) (hρ : c.ρ <+: c'.ρ) (hR : c.R.le c'.R) (hL : c.L <:+ c'.L)
    (hK : ∀ s, K' s = K s) : Nx c K a w := by
  obtain ⟨ρ, s, R, h, L, p1, p2, p3, p4, p5, p6⟩ := n
  rw [hK, hP, hp] at p6
  rw [hw, hF] at p5
  exact ⟨ρ, s, R, h, L, hρ.trans p1, hR.trans p2, hL.trans p3, p4, p5, p6⟩

section
variable {P : Program} {post : Value → HP} {w0 w : World} {F R h : PH} {ρ : Env} {L : List (Env → Prop)} {s : S} {a : Act}

theorem Ok.kn_add (ok : Ok ρ s a w0 w R h F) {e : E} {b : Bool} (hb : (e.den ρ).bool = b) : Ok ρ { s with kn := (e, b) :: s.kn } a w0 w R h F :=
  ⟨ok.dfr, ok.tm, ok.len, fun x hx => by cases hx with
    | head => exact hb
    | tail _ hx => exact ok.kn x hx, ok.hp, ok.sat, ok.same⟩
theorem needs_ok {es : List E} {K : S → T} (ok : Ok ρ s a w0 w R h F) (hd : (needs es K s).den P post L ρ) :
    ∃ kn, Ok ρ { s with kn := kn } a w0 w R h F ∧ (∀ e ∈ es, e.prop ρ) ∧ (K { s with kn := kn }).den P post L ρ := by
  induction es generalizing s with
  | nil => exact ⟨s.kn, ok, (fun e he => by cases he), hd⟩
  | cons e r ih =>
    simp only [needs] at hd
    split at hd
    · rename_i hk
      obtain ⟨kn, h1, h2, h3⟩ := ih ok hd
      exact ⟨kn, h1, fun x hx => by cases hx with
        | head => exact (E.prop_iff ρ e).2 (knows_den ok.kn hk)
        | tail _ hx => exact h2 x hx, h3⟩
    · split at hd
      · obtain ⟨he, hd⟩ := hd
        have hd := hd he
        obtain ⟨kn, h1, h2, h3⟩ := ih (ok.kn_add (prop_bool he)) hd
        exact ⟨kn, h1, fun x hx => by cases hx with
          | head => exact he
          | tail _ hx => exact h2 x hx, h3⟩
      · exact hd.elim
theorem brE_ok {e : E} {kt kf : S → T} (ok : Ok ρ s a w0 w R h F) (hd : (brE s e kt kf).den P post L ρ) :
    ∃ kn, Ok ρ { s with kn := kn } a w0 w R h F ∧ (((e.den ρ).bool = true ∧ (kt { s with kn := kn }).den P post L ρ) ∨ ((e.den ρ).bool = false ∧ (kf { s with kn := kn }).den P post L ρ)) := by
  unfold brE at hd
  split at hd
  · rename_i hk; exact ⟨s.kn, ok, .inl ⟨knows_den ok.kn hk, hd⟩⟩
  · rename_i hk; exact ⟨s.kn, ok, .inr ⟨knows_den ok.kn hk, hd⟩⟩
  · split at hd
    · obtain ⟨h1, h2⟩ := hd
      cases hb : (e.den ρ).bool with
      | true => exact ⟨_, ok.kn_add hb, .inl ⟨rfl, h1 ((E.prop_iff ρ e).2 hb)⟩⟩
      | false => exact ⟨_, ok.kn_add hb, .inr ⟨rfl, h2 (fun hp => by rw [(E.prop_iff ρ e).1 hp] at hb; cases hb)⟩⟩
    · exact hd.elim

theorem exs_elim : ∀ {ss : List So} {ρ : Env} {f : Env → HP} {R h : PH}, (exs ss ρ f).p R h → ∃ xs : Env, xs.length = ss.length ∧ (f (ρ ++ xs)).p R h
  | [], ρ, f, R, h, H => ⟨[], rfl, by rw [List.append_nil]; exact H⟩
  | .n :: r, ρ, f, R, h, ⟨x, H⟩ | .i :: r, ρ, f, R, h, ⟨x, H⟩ | .c :: r, ρ, f, R, h, ⟨x, H⟩ | .s :: r, ρ, f, R, h, ⟨x, H⟩ | .a :: r, ρ, f, R, h, ⟨x, H⟩ | .v :: r, ρ, f, R, h, ⟨x, H⟩ | .p :: r, ρ, f, R, h, ⟨x, H⟩ => by
    obtain ⟨xs, hl, hx⟩ := exs_elim H
    exact ⟨_ :: xs, by simp [hl], by simpa using hx⟩
theorem exP_elim : ∀ {ss : List So} {ρ : Env} {f : Env → Prop}, exP ss ρ f → ∃ xs : Env, xs.length = ss.length ∧ f (ρ ++ xs)
  | [], ρ, f, H => ⟨[], rfl, by rw [List.append_nil]; exact H⟩
  | .n :: r, ρ, f, ⟨x, H⟩ | .i :: r, ρ, f, ⟨x, H⟩ | .c :: r, ρ, f, ⟨x, H⟩ | .s :: r, ρ, f, ⟨x, H⟩ | .a :: r, ρ, f, ⟨x, H⟩ | .v :: r, ρ, f, ⟨x, H⟩ | .p :: r, ρ, f, ⟨x, H⟩ => by
    obtain ⟨xs, hl, hx⟩ := exP_elim H
    exact ⟨_ :: xs, by simp [hl], by simpa using hx⟩

theorem oneC_one (v : Value) : (oneC v).oneCell' = true := by cases v <;> rfl
theorem A.one (ρ : Env) (x : A) : (x.den ρ).oneCell' = true := by
  cases x <;> first | rfl | exact oneC_one _
theorem cells_one {v : Value} (h : v.oneCell' = true) : v.cells = #[v] := by cases v <;> first | rfl | cases h
theorem A.cells (ρ : Env) (x : A) : (x.den ρ).cells = #[x.den ρ] := cells_one (A.one ρ x)
theorem W.cells (ρ : Env) (x : W) : (x.den ρ).cells = (x.list.map (A.den ρ)).toArray := by
  cases x with
  | a x => simp [W.den, W.list, A.cells]
  | agg l => simp [W.den, W.list, Value.cells]

theorem newB_ok {d : Option Tmp} {c : C} {v : BR → A} {K : S → T} (ok : Ok ρ s a w0 w R h F) (hl : L.length = s.dp) (hd : (newB s d c v K).den P post L ρ) (o : Obj)
    (hc : ∀ x : Nat, cden (ρ ++ [.n x]) (.b (.v s.n), c) = HP.one x o) (vv : Nat → Value) (hv : ∀ x : Nat, (v (.v s.n)).den (ρ ++ [.n x]) = vv x) :
    Nx ⟨P, post, w0, F, ρ, R, L⟩ K (a.put d (vv w.heap.size)) (w.alloc o) := by
  unfold newB at hd
  split at hd
  · rename_i hb
    simp only [Bool.and_eq_true] at hb
    have hd := hd w.heap.size
    obtain ⟨s1, d1⟩ := ok.sat.alloc o
    have k1 := ok.app hb.1 [.n w.heap.size] (s.n + 1) rfl
    refine ⟨ρ ++ [.n w.heap.size], _, R, (PH.one w.heap.size o).un h, L, List.prefix_append _ _, PH.le.refl _, List.suffix_refl _, ?_, ?_, hd⟩
    · cases d <;> exact hl
    · have k2 : Ok (ρ ++ [.n w.heap.size]) { s with n := s.n + 1, h := (.b (.v s.n), c) :: s.h } a w0 (w.alloc o) R ((PH.one w.heap.size o).un h) F :=
        ⟨k1.dfr, k1.tm, k1.len, k1.kn, (hden_cons _ _ _ _ _).2 ⟨_, _, d1, PH.un_left _ _, PH.un_right d1, by rw [hc]; exact PH.one_self _ _, k1.hp⟩, s1, ok.same.trans (Same.alloc w o)⟩
      have := k2.put d (.w (.a (v (.v s.n))))
      rw [show (V.w (.a (v (.v s.n)))).den (ρ ++ [.n w.heap.size]) = vv w.heap.size from hv _] at this
      exact this
  · exact hd.elim
end
end RX
end Go.Proofs.YtcpjdfihpdjkbaaGreatDoor



namespace Go.Proofs.YtcpjdfihpdjkbaaGreatDoor.RX
open Go.Proofs.YtcpjdfihpdjkbaaGreatDoor

section
variable {P : Program} {post : Value → HP} {w0 w : World} {F R h : PH} {ρ : Env} {L : List (Env → Prop)} {s : S} {a : Act}

theorem execOp_only (f : Operand → Value) (d : Option Tmp) (op : Op) (ty : TypeId) (p : String) (af : Array Edge) (g : Option (Nat × Bool)) :
    execOp f ⟨d, op, ty, p, af, g⟩ = execOp f ⟨none, op, ty, "", #[], none⟩ := by cases op <;> rfl
theorem arOf_den (tm : Tm ρ s.t a) : ∀ {ts : List Tmp} {ar : List (Nat × V)}, arOf s ts = some ar → ∀ t ∈ ts, arEval ρ ar (.tmp t) = a.eval (.tmp t)
  | [], _, _, t, ht => by cases ht
  | x :: r, ar, e, t, ht => by
    simp only [arOf] at e
    split at e
    · rename_i v hv
      simp only [Option.map_eq_some_iff] at e
      obtain ⟨l, hl, rfl⟩ := e
      have hx := ev_den tm hv
      by_cases hxt : x = t
      · subst hxt
        rw [hx]
        simp [arEval]
      · have ht' : t ∈ r := by
          cases ht with
          | head => exact absurd rfl hxt
          | tail _ h => exact h
        rw [← arOf_den tm hl t ht']
        have : (x == t) = false := by simpa using hxt
        simp [arEval, this]
    · cases e
theorem semOf_eq {o : Oper} {ar : List (Nat × V)} (tm : Tm ρ s.t a) (hs : isSel o.op = false) (e : arOf s (opTmps o.op) = some ar) : execOp a.eval o = semOf ρ o.op o.type ar := by
  obtain ⟨d, op, ty, p, af, g⟩ := o
  unfold semOf
  rw [execOp_only a.eval d op ty p af g]
  refine execOp_congr _ (fun cs b hh => ?_) fun x hx => ?_
  · simp only at hh hs
    subst hh
    cases hs
  · cases x with
    | tmp t =>
      refine (arOf_den tm e t ?_).symm
      unfold opTmps
      exact List.mem_filterMap.2 ⟨.tmp t, by simpa using hx, rfl⟩
    | _ => rfl

theorem Ok.hand (ok : Ok ρ s a w0 w R h F) (q : Key × C → Bool) : ∃ h1 h2, Sat w R h1 (h2.un F) ∧ h2.dj F ∧ (hden ρ (s.h.filter q)).p R h1 ∧ (hden ρ (s.h.filter fun x => !q x)).p R h2 := by
  obtain ⟨h1, h2, d, l1, l2, a1, a2⟩ := hden_filter q ok.hp
  exact ⟨h1, h2, ok.sat.cut d l1 l2, ok.sat.dhF.le l2 (PH.le.refl _), a1, a2⟩
theorem Ok.back (ok : Ok ρ s a w0 w R h F) (hb : s.bel = true) {w' : World} {R' h1 h2 : PH} (sm : Same w w') (s1 : Sat w' R' h1 (h2.un F)) (d : h2.dj F) (lR : R.le R') {xs : Env} {n : Nat} (hn : n = s.n + xs.length) {nb rest : Hp} {lk : List (Nat × Key)}
    (hr : ∀ x ∈ rest, x ∈ s.h) (p2 : (hden ρ rest).p R h2) (p1 : (hden (ρ ++ xs) nb).p R' h1) (dst : Option Tmp) (v : V) :
    Ok (ρ ++ xs) ({ s with n := n, h := nb ++ rest, lk := lk }.put dst v) (a.put dst (v.den (ρ ++ xs))) w0 w' R' (h1.un h2) F := by
  have hb0 := hb
  simp only [S.bel, Bool.and_eq_true] at hb
  have hrest : hbel ρ.length rest = true := List.all_eq_true.2 fun x hx => by
    have := List.all_eq_true.1 hb.1.1.2 x (hr x hx)
    rw [ok.len]; exact this
  obtain ⟨s2, d12⟩ := s1.join d
  have k1 := ok.app hb0 xs n hn
  have k2 : Ok (ρ ++ xs) { s with n := n, h := nb ++ rest, lk := lk } a w0 w' R' (h1.un h2) F :=
    ⟨k1.dfr, k1.tm, k1.len, k1.kn, hden_app2.2 ⟨h1, h2, d12, PH.un_left _ _, PH.un_right d12, p1, by rw [hden_app hrest]; exact (hden ρ rest).mono lR (PH.le.refl _) p2⟩, s2, ok.same.trans sm⟩
  exact k2.put dst v

theorem subH_den {m l : Hp} (c : subH m l = true) {R h : PH} (H : (hden ρ l).p R h) : (hden ρ m).p R h := by
  simp only [subH, Bool.and_eq_true] at c
  exact hden_sub c.1 (fun x hx => by simpa using List.all_eq_true.1 c.2 x hx) H
theorem genOp_ok {cfg : Cfg} {o : Oper} {K : S → T} {Q : Exit → Act → World → Prop} (ok : Ok ρ s a w0 w R h F) (hl : L.length = s.dp) (hd : (genOp P cfg s o K).den P post L ρ) :
    o.wp P a w (Nx ⟨P, post, w0, F, ρ, R, L⟩ K) Q := by
  unfold genOp at hd
  split at hd
  · exact hd.elim
  rename_i hsel
  have hsel' : isSel o.op = false := by simpa using hsel
  split at hd
  · exact hd.elim
  rename_i ar har
  have hsem := semOf_eq ok.tm hsel' har
  unfold Oper.wp
  rw [hsem]
  simp only at hd
  split at hd
  · exact hd.elim
  rename_i hsub
  simp only [Bool.not_eq_true', Bool.not_eq_false] at hsub
  split at hd
  · split at hd
    · rename_i hb
      simp only [Bool.and_eq_true, decide_eq_true_eq, Nat.blt_eq] at hb
      obtain ⟨xs, hxl, hr, hk⟩ := exP_elim hd
      obtain ⟨h1, h2, s1, d1, p1, p2⟩ := ok.hand (fun x => (reach s.h s.lk 60 (ar.flatMap fun x => keysV x.2) []).contains x.1)
      rw [hr w R h1 _ s1 (subH_den hsub p1)]
      have k1 := ok.app hb.1 xs _ (hb.2.trans (by rw [hxl]))
      have k2 : Ok (ρ ++ xs) { s with n := (resRS P cfg s o).n, lk := linksOf o.op s s.n (resRS P cfg s o).v ++ s.lk } a w0 w R h F := ⟨k1.dfr, k1.tm, k1.len, k1.kn, k1.hp, k1.sat, k1.same⟩
      refine ⟨ρ ++ xs, _, R, h, L, List.prefix_append ρ xs, PH.le.refl _, List.suffix_refl _, ?_, k2.put _ _, hk⟩
      cases o.dst <;> exact hl
    · exact hd.elim
  · split at hd
    · rename_i hb
      simp only [Bool.and_eq_true, decide_eq_true_eq, Nat.blt_eq] at hb
      obtain ⟨hb, hn⟩ := hb
      obtain ⟨h1, h2, s1, d1, p1, p2⟩ := ok.hand (fun x => (reach s.h s.lk 60 (ar.flatMap fun x => keysV x.2) []).contains x.1)
      obtain ⟨nx, v, w', hrun, hout, sm, R', h1', lR, s2, hB⟩ := hd w R h1 _ s1 (subH_den hsub p1)
      obtain ⟨xs, hxl, hv, hk, hnb⟩ := exs_elim hB
      rw [hrun]
      have key : Nx ⟨P, post, w0, F, ρ, R, L⟩ K (a.put o.dst v) w' := by
        rw [hv]
        refine ⟨_, _, R', h1'.un h2, L, List.prefix_append ρ xs, lR, List.suffix_refl _, ?_, ok.back hb sm s2 d1 lR ?_ (fun x hx => (List.mem_filter.1 hx).1) p2 hnb _ _, hk⟩
        · cases o.dst <;> exact hl
        · rw [hxl]; exact hn
      cases nx <;> simp only [outOf] at hout <;> first | (cases hout; done) | skip
      · cases hout; exact key
      · cases hout; exact key
    · exact hd.elim
theorem mapW_den (tm : Tm ρ s.t a) : ∀ {l : List Operand} {ws : List W}, mapM' (evW s) l = some ws → l.map a.eval = ws.map (W.den ρ)
  | [], ws, e => by cases e; rfl
  | x :: r, ws, e => by
    simp only [mapM'] at e
    split at e
    · rename_i y hy
      split at e
      · rename_i q hq; cases e; simp [evW_den tm hy, mapW_den tm hq]
      · cases e
    · cases e
theorem callF_ok {cfg : Cfg} {o : Oper} {K : S → T} {Q : Exit → Act → World → Prop} {f : FuncId} {args : List W} (ok : Ok ρ s a w0 w R h F) (hl : L.length = s.dp) (hd : (callF P cfg s o f args K).den P post L ρ)
    (hx : (execOp a.eval o).run P w = (callFunc f (args.map (W.den ρ)).toArray).run P w) : o.wp P a w (Nx ⟨P, post, w0, F, ρ, R, L⟩ K) Q := by
  unfold callF at hd
  split at hd
  · exact hd.elim
  rename_i fn hfn
  split at hd
  · exact hd.elim
  simp only at hd
  split at hd
  · exact hd.elim
  rename_i hsub
  simp only [Bool.not_eq_true', Bool.not_eq_false] at hsub
  split at hd
  · rename_i hb
    simp only [Bool.and_eq_true, decide_eq_true_eq, Nat.blt_eq] at hb
    obtain ⟨⟨⟨⟨hb, hbody⟩, hname⟩, hn1⟩, hn2⟩ := hb
    have hrun : (callFunc f (args.map (W.den ρ)).toArray).run P w = .ok (.enter f (args.map (W.den ρ)).toArray) w := by
      have hnb : fn.body.isNone = false := by cases hq : fn.body <;> simp_all
      have hnn : (fn.name == "runtime.NumGoroutine") = false := by simpa using hname
      simp only [callFunc, program, Sem.run_bind, Sem.run, Result.andThen_ok, hfn, hnn, hnb, Bool.false_eq_true, if_false]
      rfl
    unfold Oper.wp
    rw [hx, hrun, Oper.upon_enter]
    obtain ⟨h1, h2, s1, d1, p1, p2⟩ := ok.hand (fun x => (reach s.h s.lk 60 (args.flatMap fun x => x.list.flatMap keysA) []).contains x.1)
    split at hd
    · refine (hd w R h1 _ s1 (subH_den hsub p1)).mono fun e w' ⟨v, he, sm, R', h1', lR, s2, hB⟩ => ?_
      obtain ⟨xs, hxl, hv, hk, hnb⟩ := exs_elim hB
      subst he
      simp only
      rw [hv]
      refine ⟨_, _, R', h1'.un h2, L, List.prefix_append ρ xs, lR, List.suffix_refl _, ?_, ok.back (lk := callLinks cfg f args (shR P cfg true s.n fn.resultTypes.toList).v ++ s.lk) hb sm s2 d1 lR (hn1.trans (by rw [hxl])) (fun x hx => (List.mem_filter.1 hx).1) p2 hnb o.dst _, hk⟩
      cases o.dst <;> exact hl
    · refine (hd w R h1 _ s1 (subH_den hsub p1)).mono fun e w' ⟨v, he, sm, R', h1', lR, s2, hB⟩ => ?_
      obtain ⟨xs, hxl, hv, hk, hnb⟩ := exs_elim hB
      subst he
      simp only
      rw [hv]
      refine ⟨_, _, R', h1'.un h2, L, List.prefix_append ρ xs, lR, List.suffix_refl _, ?_, ok.back (lk := callLinks cfg f args (shR P cfg true s.n fn.resultTypes.toList).v ++ s.lk) hb sm s2 d1 lR (hn2.trans (by rw [hxl])) (fun x hx => (List.mem_filter.1 hx).1) p2 hnb o.dst _, hk⟩
      cases o.dst <;> exact hl
  · exact hd.elim
end
end Go.Proofs.YtcpjdfihpdjkbaaGreatDoor.RX



namespace Go.Proofs.YtcpjdfihpdjkbaaGreatDoor.RX
open Go.Proofs.YtcpjdfihpdjkbaaGreatDoor

theorem ofVals_list {v : Value} {x : W} (h : ofVal v = some x) (ρ : Env) : v.cells = (x.list.map (A.den ρ)).toArray := by
  rw [← ofVal_den h ρ, W.cells]
theorem run_zero {P : Program} {w : World} {t : TypeId} {l : List A} (h : zeroL P t = some l) (ρ : Env) : ∃ v, (zeroValue t).run P w = .ok v w ∧ v.cells = (l.map (A.den ρ)).toArray := by
  unfold zeroL at h
  split at h
  · rename_i i hi
    split at h
    · rename_i v hv
      simp only [Option.map_eq_some_iff] at h
      obtain ⟨x, hx, rfl⟩ := h
      exact ⟨v, by simp only [zeroValue, Sem.run_bind, run_typeInfo hi, Result.andThen_ok, hv, Sem.run_pure], ofVals_list hx ρ⟩
    · cases h
  · cases h
theorem run_newVar {P : Program} {w : World} (t : TypeId) (v : Value) : (newVar t v).run P w = .ok ⟨w.heap.size, 0, none⟩ (w.alloc (.cells v.cells t)) := by
  simp only [newVar, newRow, newObj, Sem.run_bind, Sem.run, Result.andThen_ok, Sem.run_pure]
  rfl
theorem As.eq_app {ρ : Env} {l : List A} {n : Nat} (hn : ρ.length = n) (h : l.all (A.bel n) = true) (x : Env) : (l.map (A.den (ρ ++ x))).toArray = (l.map (A.den ρ)).toArray := by
  subst hn; rw [As.app h]

theorem fold_set (vs : List Value) : ∀ (k off : Nat) (cs : Array Value), off + k + vs.length ≤ cs.size →
    ((vs.zipIdx k).foldl (fun cs (x : Value × Nat) => cs.setIfInBounds (off + x.2) x.1) cs).toList = cs.toList.take (off + k) ++ vs ++ cs.toList.drop (off + k + vs.length) := by
  induction vs with
  | nil => intro k off cs _; simp
  | cons v r ih =>
    intro k off cs h
    simp only [List.length_cons] at h
    rw [List.zipIdx_cons, List.foldl_cons, ih (k + 1) off _ (by simp; omega)]
    apply List.ext_getElem?
    intro i
    simp only [Array.toList_setIfInBounds, List.getElem?_append, List.length_append, List.length_take, List.length_set, Array.length_toList, List.getElem?_take, List.getElem?_drop, List.length_cons, List.getElem?_set]
    have e1 : min (off + (k + 1)) cs.size = off + k + 1 := by omega
    have e2 : min (off + k) cs.size = off + k := by omega
    rw [e1, e2]
    by_cases c1 : i < off + k
    · simp only [show i < off + k + 1 from by omega, show i < off + k + 1 + r.length from by omega, show i < off + k + (r.length + 1) from by omega, show i < off + (k + 1) from by omega, c1, if_true, show ¬ off + k = i from by omega, if_false]
    · by_cases c2 : i = off + k
      · subst c2
        simp [show off + k < cs.size from by omega]
        omega
      · by_cases c3 : i < off + k + 1 + r.length
        · simp only [show ¬ i < off + k + 1 from by omega, c3, show i < off + k + (r.length + 1) from by omega, c1, if_true, if_false]
          rw [show i - (off + k) = (i - (off + k + 1)) + 1 from by omega, List.getElem?_cons_succ]
        · simp only [c3, show ¬ i < off + k + (r.length + 1) from by omega, if_false]
          rw [if_neg (by omega)]
          congr 1
          omega
theorem fillA_eq {ρ : Env} {place : Nat → Option (Nat × Nat)} : ∀ {ps : List (Nat × W)} {cells l : List A}, fillA place cells ps = some l →
    Instr.fill place (cells.map (A.den ρ)).toArray (ps.map fun x => (x.1, x.2.den ρ)) = some (l.map (A.den ρ)).toArray
  | [], cells, l, h => by cases h; rfl
  | (i, x) :: r, cells, l, h => by
    simp only [fillA] at h
    simp only [List.map_cons, Instr.fill]
    split at h
    · cases h
    · rename_i off size hp
      rw [hp]
      simp only
      split at h
      · cases h
      · rename_i hc
        simp only [ne_eq, Bool.or_eq_true, decide_eq_true_eq, not_or, Decidable.not_not, Nat.not_lt] at hc
        have hs : (x.den ρ).cells.size = size := by rw [W.cells]; simp [hc.1]
        rw [if_neg (by rw [hs]; simp only [ne_eq, not_true_eq_false, decide_false, Bool.false_or, decide_eq_true_eq, List.size_toArray, List.length_map, Nat.not_lt]; rw [hc.1] at hc; exact hc.2)]
        rw [← fillA_eq h]
        congr 1
        rw [W.cells]
        apply Array.toList_inj.1
        have hz : ((x.list.map (A.den ρ)).toArray.zipIdx).toList = (x.list.map (A.den ρ)).zipIdx := by simp
        rw [← Array.foldl_toList, hz]
        rw [fold_set _ 0 off _ (by simp; exact hc.2)]
        simp [List.map_take, List.map_drop]
theorem partsOf_den {ρ : Env} {s : S} {a : Act} (tm : Tm ρ s.t a) : ∀ {l : List (Nat × Operand)} {ps : List (Nat × W)}, partsOf s l = some ps → l.map (fun x => (x.1, a.eval x.2)) = ps.map fun x => (x.1, x.2.den ρ)
  | [], ps, h => by cases h; rfl
  | (i, x) :: r, ps, h => by
    unfold partsOf at h
    simp only [mapM'] at h
    split at h
    · rename_i y hy
      split at h
      · rename_i q hq
        cases h
        simp only [Option.map_eq_some_iff] at hy
        obtain ⟨u, hu, rfl⟩ := hy
        simp only [List.map_cons, evW_den tm hu]
        rw [partsOf_den tm (show partsOf s r = some q from hq)]
      · cases h
    · cases h
end Go.Proofs.YtcpjdfihpdjkbaaGreatDoor.RX



namespace Go.Proofs.YtcpjdfihpdjkbaaGreatDoor.RX
open Go.Proofs.YtcpjdfihpdjkbaaGreatDoor

section
variable {P : Program} {post : Value → HP} {w0 w : World} {F R h : PH} {ρ : Env} {L : List (Env → Prop)} {s : S} {a : Act} {cfg : Cfg} {o : Oper} {K : S → T} {Q : Exit → Act → World → Prop}

theorem wp_value {v : Value} {w' : World} {nx : Act → World → Prop} (hr : (execOp a.eval o).run P w = .ok (.value v) w') (h : nx (a.put o.dst v) w') : o.wp P a w nx Q := by
  unfold Oper.wp; rw [hr]; exact h
theorem wp_skip' {w' : World} {nx : Act → World → Prop} (hr : (execOp a.eval o).run P w = .ok .skip w') (h : nx (a.put o.dst undef) w') : o.wp P a w nx Q := by
  unfold Oper.wp; rw [hr]; exact h
theorem dp_put (s : S) (d : Option Tmp) (v : V) : (s.put d v).dp = s.dp := by cases d <;> rfl

theorem newB_cells {d : Option Tmp} {l : List A} {ty : TypeId} {v : BR → A} (ok : Ok ρ s a w0 w R h F) (hl : L.length = s.dp) (hd : (newB s d (.cells l ty) v K).den P post L ρ)
    (vv : Nat → Value) (hv : ∀ x : Nat, (v (.v s.n)).den (ρ ++ [.n x]) = vv x) :
    Nx ⟨P, post, w0, F, ρ, R, L⟩ K (a.put d (vv w.heap.size)) (w.alloc (.cells (l.map (A.den ρ)).toArray ty)) := by
  have hd0 := hd
  unfold newB at hd0
  split at hd0
  · rename_i hb
    simp only [Bool.and_eq_true] at hb
    refine newB_ok ok hl hd _ (fun x => ?_) vv hv
    simp only [cden, BR.den]
    rw [← ok.len, look_at, As.eq_app ok.len hb.2]
    rfl
  · exact hd0.elim

theorem storeRow {r : BR} {l : List A} {ty : TypeId} {off : Nat} {t : TypeId} {x : W} (ok : Ok ρ s a w0 w R h F) (hw : x.list.length = szT P t) (hi : (P.info? t).isSome = true) (ho : off + x.list.length ≤ l.length)
    (hu : (s.h.filter fun x => decide (x.1 = .b r)) = [(.b r, .cells l ty)]) :
    ∃ w' h', (Instr.storeAt t (.pointer (some ⟨r.den ρ, off, none⟩)) (x.den ρ)).run P w = .ok () w' ∧
      Ok ρ { s with h := (.b r, .cells (l.take off ++ x.list ++ l.drop (off + x.list.length)) ty) :: delC s.h (.b r) } a w0 w' R h' F := by
  obtain ⟨h1, h2, d, l1, l2, a1, a2⟩ := hden_filter (fun x => decide (x.1 = Key.b r)) ok.hp
  rw [hu] at a1
  have e1 : h1 (r.den ρ) = some (.cells (l.map (A.den ρ)).toArray ty (0, 0)) := a1
  have eh := l1 _ _ e1
  have ew := ok.sat.oh _ _ eh
  obtain ⟨inf, hinf⟩ := Option.isSome_iff_exists.1 hi
  have hst := run_storeCells_at (P := P) (r.den ρ) off ty (x.list.map (A.den ρ)) 0 (l.map (A.den ρ)).toArray w ew (by simpa using ho) (fun v hv => by
    obtain ⟨y, _, rfl⟩ := List.mem_map.1 hv; exact A.one ρ y)
  simp only [Nat.add_zero, List.length_map] at hst
  have hrun : (Instr.storeAt t (.pointer (some ⟨r.den ρ, off, none⟩)) (x.den ρ)).run P w = .ok () (w.setRow (r.den ρ) ((l.take off ++ x.list ++ l.drop (off + x.list.length)).map (A.den ρ)).toArray) := by
    simp only [Instr.storeAt, Instr.sureAddr, Sem.run_bind, Sem.run_pure, Result.andThen_ok, storeVar, run_sizeOf hinf, W.cells, List.size_toArray, List.length_map, hw, ne_eq, not_true_eq_false, if_false, hst]
    congr 2
    simp [List.map_take, List.map_drop]
  have s2 := ok.sat.turn (w' := w.setRow (r.den ρ) ((l.take off ++ x.list ++ l.drop (off + x.list.length)).map (A.den ρ)).toArray) (y := .cells ((l.take off ++ x.list ++ l.drop (off + x.list.length)).map (A.den ρ)).toArray ty (0, 0)) eh
    (fun k hk => setRow_other w _ k _ hk) (setRow_heap w _ _ _ ty (0, 0) ew)
  refine ⟨_, _, hrun, ⟨ok.dfr, ok.tm, ok.len, ok.kn, ?_, s2, ok.same.trans ⟨rfl, rfl, rfl, by simp⟩⟩⟩
  refine (hden_cons _ _ _ _ _).2 ⟨PH.one (r.den ρ) (.cells ((l.take off ++ x.list ++ l.drop (off + x.list.length)).map (A.den ρ)).toArray ty (0, 0)), h2, fun k => ?_, fun k o e => ?_, fun k o e => ?_, PH.one_self _ _, a2⟩
  · by_cases e : k = r.den ρ
    · subst e
      exact .inr ((d _).resolve_left (by rw [e1]; simp))
    · exact .inl (if_neg e)
  · obtain ⟨rfl, rfl⟩ := PH.one_some e; exact if_pos rfl
  · have hne : k ≠ r.den ρ := fun e' => by
      subst e'
      rcases d (r.den ρ) with e' | e'
      · rw [e1] at e'; cases e'
      · rw [e] at e'; cases e'
    simp only [hne, if_false]
    exact l2 k o e

theorem effStore_ok {t : TypeId} {ad x : Operand} (ok : Ok ρ s a w0 w R h F) (hl : L.length = s.dp) (ho : o.op = .store t ad x) (hd : (effStore P cfg s o t ad x K).den P post L ρ) :
    o.wp P a w (Nx ⟨P, post, w0, F, ρ, R, L⟩ K) Q := by
  unfold effStore at hd
  split at hd
  · rename_i r off y hx hy
    split at hd
    · rename_i l ty hf
      split at hd
      · rename_i hc
        obtain ⟨w', h', hr, ok'⟩ := storeRow ok hc.1 hc.2.1 hc.2.2.1 hc.2.2.2
        refine wp_skip' (w' := w') ?_ ?_
        · simp only [execOp, ho, evA_den ok.tm hx, A.den, evW_den ok.tm hy, Sem.run_bind, hr, Result.andThen_ok, Sem.run_pure]
        · exact ⟨ρ, _, R, h', L, List.prefix_refl _, PH.le.refl _, List.suffix_refl _, by rw [dp_put]; exact hl, ok'.put o.dst (.tup []), hd⟩
      · exact hd.elim
    · exact genOp_ok ok hl hd
  · exact genOp_ok ok hl hd
theorem effPick_ok {c x y : Operand} (ok : Ok ρ s a w0 w R h F) (hl : L.length = s.dp) (ho : o.op = .pick c x y) (hd : (effPick s o c x y K).den P post L ρ) :
    o.wp P a w (Nx ⟨P, post, w0, F, ρ, R, L⟩ K) Q := by
  unfold effPick at hd
  split at hd
  · rename_i e hc
    have hcd := evA_den ok.tm hc
    obtain ⟨kn, ok', h1⟩ := brE_ok ok hd
    rcases h1 with ⟨he, h1⟩ | ⟨he, h1⟩
    · split at h1
      · rename_i v hv
        refine wp_value (v := v.den ρ) (w' := w) ?_ ?_
        · simp only [execOp, ho, hcd, A.den, asBool, Sem.run_bind, Sem.run_pure, Result.andThen_ok, he, if_true]
          rw [ev_den ok'.tm hv]
        · exact ⟨ρ, _, R, h, L, List.prefix_refl _, PH.le.refl _, List.suffix_refl _, by rw [dp_put]; exact hl, ok'.put o.dst v, h1⟩
      · exact h1.elim
    · split at h1
      · rename_i v hv
        refine wp_value (v := v.den ρ) (w' := w) ?_ ?_
        · simp only [execOp, ho, hcd, A.den, asBool, Sem.run_bind, Sem.run_pure, Result.andThen_ok, he, Bool.false_eq_true, if_false]
          rw [ev_den ok'.tm hv]
        · exact ⟨ρ, _, R, h, L, List.prefix_refl _, PH.le.refl _, List.suffix_refl _, by rw [dp_put]; exact hl, ok'.put o.dst v, h1⟩
      · exact h1.elim
  · exact hd.elim
theorem places_eq {fs : List Field} (hi : ∀ f ∈ fs, (P.info? f.type).isSome = true) : fs.mapM (fun f => (P.info? f.type).map fun i => (f.offset, i.size)) = some (fs.map fun f => (f.offset, szT P f.type)) := by
  induction fs with
  | nil => rfl
  | cons f r ih =>
    obtain ⟨i, hi'⟩ := Option.isSome_iff_exists.1 (hi f (List.mem_cons_self ..))
    simp [List.mapM_cons, hi', ih fun g hg => hi g (List.mem_cons_of_mem _ hg), szT]
theorem zeroL_info {t : TypeId} {l : List A} (h : zeroL P t = some l) (ρ : Env) : ∃ i v, P.info? t = some i ∧ i.zero = some v ∧ v.cells = (l.map (A.den ρ)).toArray := by
  unfold zeroL at h
  split at h
  · rename_i i hi
    split at h
    · rename_i v hv
      simp only [Option.map_eq_some_iff] at h
      obtain ⟨x, hx, rfl⟩ := h
      exact ⟨i, v, hi, hv, ofVals_list hx ρ⟩
    · cases h
  · cases h
theorem effBuild_ok {t : TypeId} {parts : Array (Nat × Operand)} (ok : Ok ρ s a w0 w R h F) (hl : L.length = s.dp) (ho : o.op = .build t parts) (hd : (effBuild P s o t parts K).den P post L ρ) :
    o.wp P a w (Nx ⟨P, post, w0, F, ρ, R, L⟩ K) Q := by
  have fin : ∀ l : List A, P.built t (parts.map fun (i, x) => (i, a.eval x)).toList = some (l.map (A.den ρ)).toArray → (K (s.put o.dst (.w (.agg l)))).den P post L ρ → o.wp P a w (Nx ⟨P, post, w0, F, ρ, R, L⟩ K) Q := fun l hb hk => by
    refine wp_value (v := (V.w (.agg l)).den ρ) (w' := w) ?_ ⟨ρ, _, R, h, L, List.prefix_refl _, PH.le.refl _, List.suffix_refl _, by rw [dp_put]; exact hl, ok.put o.dst _, hk⟩
    simp only [execOp, ho]
    exact exec_value (run_build w t _ _ hb)
  have hparts : ∀ ps, partsOf s parts.toList = some ps → (parts.map fun (i, x) => (i, a.eval x)).toList = ps.map fun x => (x.1, x.2.den ρ) := fun ps hp => by
    rw [← partsOf_den ok.tm hp]; simp
  unfold effBuild at hd
  split at hd
  · rename_i fs hu
    split at hd
    · rename_i z ps hz hp
      split at hd
      · rename_i hi
        split at hd
        · rename_i l hf
          refine fin l ?_ hd
          obtain ⟨it, v, h1, h2, h3⟩ := zeroL_info hz ρ
          unfold Program.built
          rw [h1, hu]
          simp only [h2]
          rw [places_eq (fun f hf => by
            have := Array.all_eq_true_iff_forall_mem.1 hi f (by simpa using hf)
            exact this)]
          simp only [h3, hparts ps hp]
          rw [← fillA_eq hf]
          congr 1
          funext i
          simp
        · exact hd.elim
      · exact hd.elim
    · exact hd.elim
  · rename_i n el hu
    split at hd
    · rename_i z ps hz hp
      split at hd
      · rename_i hi
        split at hd
        · rename_i l hf
          refine fin l ?_ hd
          obtain ⟨it, v, h1, h2, h3⟩ := zeroL_info hz ρ
          obtain ⟨ie, hie⟩ := Option.isSome_iff_exists.1 hi
          unfold Program.built
          rw [h1, hu]
          simp only [h2, hie]
          simp only [h3, hparts ps hp]
          rw [← fillA_eq hf]
          simp only [szT, hie]
        · exact hd.elim
      · exact hd.elim
    · exact hd.elim
  · exact hd.elim
theorem repL_get {α : Type} [Inhabited α] (z : List α) (n : Nat) : ∀ i, i < n * z.length → (repL n z)[i]? = some (z[i % z.length]!) := by
  induction n with
  | zero => intro i hi; simp at hi
  | succ n ih =>
    intro i hi
    simp only [repL]
    by_cases h : i < z.length
    · rw [List.getElem?_append_left h, Nat.mod_eq_of_lt h]
      simp [h]
    · have hz : 0 < z.length := by
        rcases Nat.eq_zero_or_pos z.length with e | e
        · rw [e] at hi; simp at hi
        · exact e
      rw [List.getElem?_append_right (by omega), ih (i - z.length) (by rw [Nat.succ_mul] at hi; omega)]
      rw [show i % z.length = (i - z.length) % z.length by rw [Nat.mod_eq_sub_mod (by omega)]]
theorem repL_length {α : Type} (z : List α) (n : Nat) : (repL n z).length = n * z.length := by
  induction n with
  | zero => simp [repL]
  | succ n ih => simp [repL, ih, Nat.succ_mul]; omega
theorem rep_eq (z : List Value) (n : Nat) : (repL n z).toArray = (Array.range (n * z.length)).map (z.toArray[· % z.toArray.size]!) := by
  apply Array.ext_getElem?
  intro i
  by_cases h : i < n * z.length
  · rw [List.getElem?_toArray, repL_get z n i h]
    simp [h]
  · rw [List.getElem?_toArray, List.getElem?_eq_none (by rw [repL_length]; omega), Array.getElem?_eq_none (by simpa using h)]
theorem repL_map {α β : Type} (f : α → β) (z : List α) (n : Nat) : (repL n z).map f = repL n (z.map f) := by
  induction n with
  | zero => rfl
  | succ n ih => simp [repL, ih]
theorem effSlice_ok {t : TypeId} {len : Nat} {parts : Array (Nat × Operand)} (ok : Ok ρ s a w0 w R h F) (hl : L.length = s.dp) (ho : o.op = .buildSlice t len parts) (hd : (effSlice P s o t len parts K).den P post L ρ) :
    o.wp P a w (Nx ⟨P, post, w0, F, ρ, R, L⟩ K) Q := by
  unfold effSlice at hd
  split at hd
  · rename_i el hu
    split at hd
    · rename_i z ps hz hp
      split at hd
      · rename_i hi
        obtain ⟨hi, hzl⟩ := hi
        obtain ⟨ie, hie⟩ := Option.isSome_iff_exists.1 hi
        split at hd
        · rename_i l hf
          split at hd
          · rename_i hle
            have hn := newB_cells ok hl hd (fun x => .slice (some ⟨x, 0, none⟩) len len) (fun x => by
              simp only [A.den, SA.den, BR.den, E.den, Uni.nat_n]
              rw [← ok.len, look_at]; rfl)
            refine wp_value (v := .slice (some ⟨w.heap.size, 0, none⟩) len len) (w' := w.alloc (.cells (l.map (A.den ρ)).toArray el)) ?_ hn
            simp only [execOp, ho]
            rw [Sem.run_bind]
            have hpd : (parts.map fun (x : Nat × Operand) => (x.1, a.eval x.2)).toList = ps.map fun x => (x.1, x.2.den ρ) := by
              rw [← partsOf_den ok.tm hp]; simp
            have hfe := fillA_eq (ρ := ρ) hf
            have hle' : ¬ len * szT P el > 2 ^ 24 := by simpa using hle
            have hnewrow : ∀ c : Array Value, (newRow el c).run P w = .ok ⟨w.heap.size, 0, none⟩ (w.alloc (.cells c el)) := fun c => by
              simp only [newRow, newObj, Sem.run_bind, Sem.run, Result.andThen_ok, Sem.run_pure]; rfl
            have hrun : (Instr.buildSlice t len (parts.map fun (x : Nat × Operand) => (x.1, a.eval x.2))).run P w = .ok (.slice (some ⟨w.heap.size, 0, none⟩) len len) (w.alloc (.cells (l.map (A.den ρ)).toArray el)) := by
              by_cases h0 : len * szT P el = 0
              · rw [if_pos h0] at hz
                cases hz
                have hrep : (repL len ([] : List A)) = [] := by
                  apply List.eq_nil_of_length_eq_zero; rw [repL_length]; simp
                rw [hrep] at hfe
                simp only [Instr.buildSlice, Sem.run_bind, run_underlying hu, Result.andThen_ok, run_sizeOf hie, h0, gt_iff_lt, Nat.not_lt_zero, if_false, if_true, Sem.run_pure, hpd]
                have e0 : (Array.range 0).map (fun i => (#[] : Array Value)[i % (#[] : Array Value).size]!) = #[] := by simp
                rw [e0]
                simp only [List.map_nil] at hfe
                rw [hfe]
                simp only [Sem.run_bind, hnewrow, Result.andThen_ok, Sem.run_pure]
              · rw [if_neg h0] at hz
                obtain ⟨v, hzr, hzc⟩ := run_zero (P := P) (w := w) hz ρ
                have hzl' : z.length = szT P el := hzl.resolve_left h0
                rw [repL_map, rep_eq, List.length_map, hzl'] at hfe
                simp only [Instr.buildSlice, Sem.run_bind, run_underlying hu, Result.andThen_ok, run_sizeOf hie, h0, hle', if_false, hzr, Sem.run_pure, hpd, hzc]
                rw [hfe]
                simp only [Sem.run_bind, hnewrow, Result.andThen_ok, Sem.run_pure]
            rw [hrun]
            rfl
          · exact hd.elim
        · exact hd.elim
      · exact hd.elim
    · exact hd.elim
  · exact hd.elim
theorem effCall_ok {c : Call} (ok : Ok ρ s a w0 w R h F) (hl : L.length = s.dp) (ho : o.op = .call c) (hd : (effCall P cfg s o c K).den P post L ρ) : o.wp P a w (Nx ⟨P, post, w0, F, ρ, R, L⟩ K) Q := by
  have harg : ∀ ws, mapM' (evW s) c.args.toList = some ws → c.args.map a.eval = (ws.map (W.den ρ)).toArray := fun ws hw => by
    rw [← mapW_den ok.tm hw]; cases c.args; simp
  unfold effCall at hd
  split at hd
  · rename_i f hc
    split at hd
    · rename_i ws hw
      split at hd
      · rename_i fn hfn
        split at hd
        · refine callF_ok ok hl hd ?_
          simp only [execOp, ho, resolve, hc, harg ws hw, Sem.run_bind, Act.eval, Deferred.ofValue, Sem.run_pure, Result.andThen_ok, invoke]
          simp
        · exact genOp_ok ok hl hd
      · exact hd.elim
    · exact hd.elim
  · rename_i x hx hc
    split at hd
    · rename_i f cs ws hf hw
      refine callF_ok ok hl hd ?_
      simp only [execOp, ho, resolve, hc, harg ws hw, Sem.run_bind, evA_den ok.tm hf, A.den, Deferred.ofValue, Sem.run_pure, Result.andThen_ok, invoke]
      congr 2
      simp only [List.map_append, List.map_map]
      apply Array.toList_inj.1
      simp
      intro p r _
      rfl
    · exact hd.elim
  · exact genOp_ok ok hl hd
theorem effOp_ok (ok : Ok ρ s a w0 w R h F) (hl : L.length = s.dp) (hd : (effOp P cfg s o K).den P post L ρ) : o.wp P a w (Nx ⟨P, post, w0, F, ρ, R, L⟩ K) Q := by
  unfold effOp at hd
  split at hd
  · rename_i e ho
    split at hd
    · rename_i l hz
      have hn := newB_cells ok hl hd (fun x => .pointer (some ⟨x, 0, none⟩)) (fun x => by
        simp only [A.den, BR.den]
        rw [← ok.len, look_at]; rfl)
      refine wp_value (v := .pointer (some ⟨w.heap.size, 0, none⟩)) ?_ hn
      obtain ⟨v, hzr, hzc⟩ := run_zero (P := P) (w := w) hz ρ
      simp only [execOp, ho, Instr.alloc, Sem.run_bind, hzr, Result.andThen_ok, run_newVar, hzc, Sem.run_pure]
    · exact hd.elim
  · rename_i e x ho
    split at hd
    · rename_i y hy
      have hn := newB_cells ok hl hd (fun x => .pointer (some ⟨x, 0, none⟩)) (fun x => by
        simp only [A.den, BR.den]
        rw [← ok.len, look_at]; rfl)
      refine wp_value (v := .pointer (some ⟨w.heap.size, 0, none⟩)) ?_ hn
      simp only [execOp, ho, Instr.box, Sem.run_bind, evW_den ok.tm hy, run_newVar, W.cells, Result.andThen_ok, Sem.run_pure]
    · exact hd.elim
  · rename_i t ho
    have hn := newB_ok ok hl hd (.map #[] 0) (fun x => by
      simp only [cden, BR.den]
      rw [← ok.len, look_at]; rfl) (fun x => .map (some x)) (fun x => by
        simp only [A.den, BR.den]
        rw [← ok.len, look_at]; rfl)
    refine wp_value (v := .map (some w.heap.size)) ?_ hn
    simp only [execOp, ho, Option.map_none, Instr.makeMap, newObj, Sem.run_bind, Sem.run, Result.andThen_ok, Sem.run_pure]
    rfl
  · rename_i t parts ho; exact effBuild_ok ok hl ho hd
  · rename_i t len parts ho; exact effSlice_ok ok hl ho hd
  · rename_i t ad x ho; exact effStore_ok ok hl ho hd
  · rename_i c x y ho; exact effPick_ok ok hl ho hd
  · rename_i c ho; exact effCall_ok ok hl ho hd
  · exact genOp_ok ok hl hd
theorem stepO_ok (ok : Ok ρ s a w0 w R h F) (hl : L.length = s.dp) (hd : (stepO P cfg s o K).den P post L ρ) : o.wp P a w (Nx ⟨P, post, w0, F, ρ, R, L⟩ K) Q := by
  unfold stepO at hd
  split at hd
  · rename_i es v hp
    obtain ⟨kn, ok', hes, hk⟩ := needs_ok ok hd
    exact wp_value (pureOp_run hp ok.tm ok.kn ⟨R, h, F, ok.sat, ok.hp⟩ hes) ⟨ρ, _, R, h, L, List.prefix_refl _, PH.le.refl _, List.suffix_refl _, by rw [dp_put]; exact hl, ok'.put o.dst v, hk⟩
  · exact effOp_ok ok hl hd
end
end Go.Proofs.YtcpjdfihpdjkbaaGreatDoor.RX

