/- Texts of this claim, joined. No condition. -/
import Derived.Test.YtbmajijnjkicmaaGreatDoorAOJ4
import Derived.Test.YtbmajijnjkicmaaGreatDoorAOJ6
import Derived.OpenShut
import Derived.ProofKit
import Derived.ShutString
import Derived.ChangeOld
import Derived.Below
import Derived.SizedLaws
import Derived.Lay
import Derived.LaidMore
import Derived.Test.YtbmajijnjkicmaaGreatDoorTie
import Derived.Test.YtbmajijnjkicmaaGreatDoorCards
import Derived.SevenTiedAt
set_option linter.unusedSimpArgs false
set_option linter.unusedVariables false

namespace Go.Proofs.YtbmajijnjkicmaaGreatDoor
set_option linter.unusedSimpArgs false
set_option linter.unusedVariables false
open Go.Proofs.YtbmajijnjkicmaaGreatDoor RX
set_option maxRecDepth 100000


def p11 : PlP := ⟨0, [[0]]⟩
def q11 : PlP := ⟨1, [[0]]⟩
def spW : List UInt8 := plS q11
theorem first11 : firstS 1 1 = (p11, 0) := by decide
theorem right11 : rightB p11 = true ∧ rightB q11 = true := by decide
def Sp : Nat → AdvS → Prop
  | 0, g => g = ⟨p11, 1, 3, 1, fun _ => false, fun _ => false, [], none, ⟨0, []⟩, 0⟩
  | 1, g => g.st = 2 ∧ g.old = p11 ∧ g.prop = some (startB 1 1 3 spW) ∧ g.tail = 0
  | 2, g => g.st = 2 ∧ g.old = p11 ∧ g.prop = some ⟨1, 1, 3, spW, 2, [], 0⟩ ∧ g.tail = 0
  | 3, g => g.st = 3 ∧ g.old = p11 ∧ g.plan = q11 ∧ g.rep = (fun _ => false) ∧ g.tail = 0
  | 4, g => g.st = 4 ∧ g.old = p11 ∧ g.plan = q11 ∧ g.tail = 4
  | _, g => g.st = 5 ∧ g.plan = q11 ∧ g.tail = 4
def spM (g : AdvS) : Nat → MS
  | 0 => askA g 0 | 1 => askA g 0 | 2 => askA g 0 | 3 => askA g 0 | _ => startA g
def spK : Nat → Int
  | 0 => 4 | 1 => 6 | 2 => 7 | 3 => 4 | _ => 9
theorem filt0 {p : Nat → Bool} (h0 : p 0 = true) (h : ∀ u, 0 < u → u < 7 → p u = false) : (List.range 7).filter p = [0] := by
  have e : List.range 7 = [0, 1, 2, 3, 4, 5, 6] := by decide
  rw [e]
  simp [List.filter, h0, h 1, h 2, h 3, h 4, h 5, h 6]
theorem planned11 (u : Nat) : plannedA q11 u = decide (u = 0) := by
  unfold plannedA q11
  simp only [List.any_cons, List.any_nil, Bool.or_false, List.mem_singleton]
  by_cases h : u = 0
  · subst h; rfl
  · rw [decide_eq_false h, decide_eq_false (by omega)]
theorem Sp.asks {k : Nat} {g : AdvS} (h : Sp k g) : (k < 5 → asksL g = [spM g k] ∧ (spM g k).kind = spK k) ∧ (5 ≤ k → asksL g = []) := by
  have one : g.st ≠ 4 → askedA g 0 = true → (∀ u, 0 < u → u < 7 → askedA g u = false) → asksL g = [askA g 0] := fun h4 h0 h1 => by
    unfold asksL; rw [if_neg h4, filt0 h0 h1]; rfl
  match k, h with
  | 0, h =>
    subst h
    refine ⟨fun _ => ⟨one (by decide) ?_ fun u h0 h7 => ?_, ?_⟩, by omega⟩
    · rw [asked1 rfl]; rfl
    · rw [asked1 rfl, decide_eq_false (show ¬ ((u : Int) < 1) by omega)]; rfl
    · show (askA _ 0).kind = 4; unfold askA; rw [if_neg (by decide)]
  | 1, ⟨e1, e2, e3, _⟩ =>
    refine ⟨fun _ => ⟨one (by omega) ?_ fun u h0 h7 => ?_, ?_⟩, by omega⟩
    · rw [asked2 e1 e3]; rfl
    · rw [asked2 e1 e3]; unfold askedB
      rw [decide_eq_false (show ¬ (((startB 1 1 3 spW).phase = 1 ∨ (startB 1 1 3 spW).phase = 2) ∧ 0 ≤ (u : Int) ∧ (u : Int) < (startB 1 1 3 spW).acc) from fun h => by
        have : (startB 1 1 3 spW).acc = 1 := rfl
        omega)]; rfl
    · show (askA g 0).kind = 6
      unfold askA; rw [if_pos e1, e3]; rfl
  | 2, ⟨e1, e2, e3, _⟩ =>
    refine ⟨fun _ => ⟨one (by omega) ?_ fun u h0 h7 => ?_, ?_⟩, by omega⟩
    · rw [asked2 e1 e3]; rfl
    · rw [asked2 e1 e3]; unfold askedB
      rw [decide_eq_false (fun h => by have := h.2.2; dsimp only at this; omega)]; rfl
    · show (askA g 0).kind = 7
      unfold askA; rw [if_pos e1, e3]; rfl
  | 3, ⟨e1, e2, e3, e4, _⟩ =>
    refine ⟨fun _ => ⟨one (by omega) ?_ fun u h0 h7 => ?_, ?_⟩, by omega⟩
    · rw [asked3 e1, e3, e4, planned11]; rfl
    · rw [asked3 e1, e3, e4, planned11, decide_eq_false (by omega)]; rfl
    · show (askA g 0).kind = 4
      unfold askA; rw [if_neg (by omega)]
  | 4, ⟨e1, e2, e3, _⟩ => exact ⟨fun _ => ⟨by unfold asksL; rw [if_pos e1]; rfl, rfl⟩, by omega⟩
  | k + 5, ⟨e1, _⟩ => exact ⟨by omega, fun _ => (asksL_nil (by omega)).2 fun u _ => asked0 (by omega) (by omega) (by omega) u⟩
def spR (x : MS) : MS := ⟨x.to, 0, 0, true, x.kind, x.ep, x.at', zC, 0, 0, [], 0, 4, 0, 0⟩
theorem tol_now {g : AdvS} {x : MS} (h : asksL g = [x]) : nowB g (spR x) = true := by
  unfold nowB; rw [h]
  simp [nowP, spR]
theorem Sp.step {k : Nat} {g g' : AdvS} (h : Sp k g) (hk : k < 5) (ht : tolR g (spR (spM g k)) g') : Sp (k + 1) g' := by
  have hn := tol_now (h.asks.1 hk).1
  unfold tolR at ht
  rw [if_pos ⟨rfl, hn⟩] at ht
  obtain ⟨t1, t2, t3, t4, _⟩ := ht
  match k, h, hk with
  | 0, h, _ =>
    subst h
    obtain rfl := t1 rfl
    have hto : (spR (spM ⟨p11, 1, 3, 1, fun _ => false, fun _ => false, [], none, ⟨0, []⟩, 0⟩ 0)).fr.toNat = 0 := rfl
    have her : (spR (spM ⟨p11, 1, 3, 1, fun _ => false, fun _ => false, [], none, ⟨0, []⟩, 0⟩ 0)).err = 0 := rfl
    rw [hto, her]
    unfold sealA
    rw [if_pos ((asksL_nil (by decide)).2 fun u hu => ?_)]
    · refine ⟨rfl, rfl, ?_, rfl⟩
      have hth : thereL ({ (⟨p11, 1, 3, 1, fun _ => false, fun _ => false, [], none, ⟨0, []⟩, 0⟩ : AdvS) with rep := put7 (fun _ => false) 0 true, there := put7 (fun _ => false) 0 (decide ((0 : Int) = 0)) }) = [0] := by
        unfold thereL
        rw [filt0 (by rfl) (fun u h0 _ => by show put7 (fun _ => false) 0 _ u = false; unfold put7; rw [if_neg (by omega)])]
        rfl
      have hnx : nextP p11 [0] = (q11, 0) := by decide
      have how : ownA ({ (⟨p11, 1, 3, 1, fun _ => false, fun _ => false, [], none, ⟨0, []⟩, 0⟩ : AdvS) with rep := put7 (fun _ => false) 0 true, there := put7 (fun _ => false) 0 (decide ((0 : Int) = 0)) }) = spW := by
        unfold ownA
        rw [hth, show nextP _ [0] = (q11, 0) from hnx, if_pos rfl]; rfl
      show some (startB 1 1 3 (ownA _)) = _
      rw [how]
    · rw [asked1 rfl]
      show (decide ((u : Int) < 1) && !put7 (fun _ => false) 0 true u) = false
      unfold put7
      by_cases h0 : u = 0
      · subst h0; rfl
      · rw [decide_eq_false (by omega)]; rfl
  | 1, ⟨e1, e2, e3, e4⟩, _ =>
    obtain ⟨s, s', hp, hst, rfl⟩ := t2 e1
    rw [e3] at hp; cases hp
    have hfr : (spR (spM g 1)).fr = 0 := by show (askA g 0).to = 0; rw [askA_to]; rfl
    have hkd : (spR (spM g 1)).kind = 6 := by show (askA g 0).kind = 6; unfold askA; rw [if_pos e1, e3]; rfl
    unfold stepB at hst
    rw [if_pos hkd, hfr] at hst
    unfold PromB at hst
    rw [if_pos ⟨rfl, by rfl⟩, if_pos (by rfl)] at hst
    obtain ⟨val, hch, rfl⟩ := hst
    have hv : val = spW := by
      rcases hch with ⟨_, rfl⟩ | ⟨k, x, hx, hc, _⟩
      · rfl
      · exfalso
        simp only [takeB, promA, spR, startB] at hx
        simp [ansF] at hx
        obtain ⟨_, rfl⟩ := hx
        exact hc.2 ⟨rfl, rfl⟩
    subst hv
    exact ⟨e1, e2, rfl, e4⟩
  | 2, ⟨e1, e2, e3, e4⟩, _ =>
    obtain ⟨s, s', hp, hst, rfl⟩ := t2 e1
    rw [e3] at hp; cases hp
    have hfr : (spR (spM g 2)).fr = 0 := by show (askA g 0).to = 0; rw [askA_to]; rfl
    have hkd : (spR (spM g 2)).kind = 7 := by show (askA g 0).kind = 7; unfold askA; rw [if_pos e1, e3]; rfl
    unfold stepB at hst
    rw [if_neg (by rw [hkd]; decide), hfr] at hst
    have hs3 : s' = ⟨1, 1, 3, spW, 3, [(0, ⟨true, 0, 0, []⟩)], 1⟩ := by rw [hst]; rfl
    have hdec : decP spW = (q11, 0) := decP_plS right11.2
    subst hs3
    unfold outA
    rw [if_neg (by decide), if_pos rfl]
    rw [show (⟨1, 1, 3, spW, 3, [(0, ⟨true, 0, 0, []⟩)], 1⟩ : BSt).val = spW from rfl, hdec, if_neg (by rw [e2]; decide)]
    exact ⟨rfl, e2, rfl, rfl, e4⟩
  | 3, ⟨e1, e2, e3, e4, e5⟩, _ =>
    obtain rfl := t3 e1
    have hto : (spR (spM g 3)).fr.toNat = 0 := by show (askA g 0).to.toNat = 0; rw [askA_to]; rfl
    have herr : (spR (spM g 3)).err = 0 := rfl
    rw [hto]
    unfold tellA
    rw [if_pos herr]
    rw [if_pos ((asksL_nil (by show g.st ≠ 4; omega)).2 fun u hu => ?_)]
    · exact ⟨rfl, e2, e3, by show max (max g.tail 4) 0 = 4; rw [e5]; rfl⟩
    · rw [asked3 (by exact e1)]
      show (!put7 g.rep 0 true u && plannedA g.plan u) = false
      rw [e3, planned11]
      unfold put7
      by_cases h0 : u = 0
      · subst h0; rfl
      · rw [decide_eq_false h0, Bool.and_false]
  | 4, ⟨e1, e2, e3, e4⟩, _ =>
    obtain rfl := t4 e1
    exact ⟨rfl, e3, e4⟩
def spL (k : Nat) : List Int := (List.range k).map spK
set_option maxHeartbeats 2000000 in
theorem speaks18_ok : Tri Tryz.prog 6 #[] HP.tt (fun v => HP.and (v = .bool true) HP.tt) := by
  refine tri_of_tree (ρ := []) mixed Tryz.func6 tree_speaks18 ?_
  unfold t_speaks18
  simp only [T.den, E.prop, E.den, RX.look, F1.app, F2.app, Uni.int_i, Uni.nat_n, Uni.bool_c, Uni.str_s, Uni.adr_a, Uni.val_v, Uni.hp_p, hden, cden, V.den, W.den, A.den, BR.den, SA.den, FV.den, capV, exs, exP, allP, Cur.app, List.map_cons, List.map_nil, List.cons_append, List.nil_append, List.drop_succ_cons, List.drop_zero, List.length_cons, List.length_nil, Nat.zero_add, Nat.reduceAdd, Int.neg_neg, Bool.not_not, List.append_nil, Nat.add_zero, List.getElem?_cons_zero, List.getElem?_cons_succ, Decidable.not_not, semW_eq, semW_load, semW_append, ne_eq, Nat.reduceEqDiff, not_false_eq_true]
  refine (first_ok 1 1).weak (fun _ _ h => h) ?_
  rw [first11]
  rintro v R h ⟨a, c, es, ⟨rfl, he, hb⟩, H⟩
  have hel : es.length = 1 := by
    have := congrArg List.length he
    rw [List.length_map] at this; exact this
  refine ⟨p11.ep, a, es.length, c, Ls kCh a es.length es, 0, rfl, fun x => ?_, H⟩
  clear H
  refine (aBegin_ok (Ls kCh a es.length es) p11.ep a es.length c es 1 3 (fun _ _ h => h) (fun x hx => by have := hb x hx; omega) (by omega)).weak (fun _ _ h => h) ?_
  rw [show (⟨p11.ep, es.map (·.l)⟩ : PlP) = p11 by rw [he]]
  rintro v R h ⟨b, rfl, H⟩
  have hg0 : Sp 0 (beginA p11 1 3) := by
    show _ = _
    unfold beginA
    rw [if_pos ⟨right11.1, by decide, by decide, by decide, by decide, by decide⟩]
  have hA0 := AI.begin p11 1 3
  generalize beginA p11 1 3 = g0 at *
  refine ⟨b, ARep b g0, rfl, fun y => ?_, H⟩
  clear H
  refine ⟨fun a n c P Q => ∃ g, Sp 5 g ∧ P = ARep b g ∧ n = 5 ∧ Q = OwI a 5 c (spL 5), ?_, ?_⟩
  · refine ⟨fun a n c Q P => ∃ (k : Nat) (g : AdvS), k ≤ 5 ∧ Sp k g ∧ AI k g ∧ P = ARep b g ∧ n = k ∧ HP.ent Q (OwI a k c (spL k)) ∧ (0 < k → Q = OwI a k c (spL k)), fun _ n _ _ _ => 9 - n,
      ⟨0, g0, by omega, hg0, hA0, rfl, rfl, .of fun R h H => ⟨rfl, .inr ⟨y, #[], rfl, H, Nat.le_refl _, by unfold maxLen; omega, rfl, rfl⟩⟩, fun h => absurd h (by decide)⟩, ?_⟩
    rintro a k c Q _ ⟨_, g, hk, hS, hA, rfl, rfl, hQ, hQ2⟩
    refine ⟨fun _ => ?_, fun hge => by omega⟩
    refine (eAsks_ok b g hA.safe.s).weak (fun _ _ h => h) ?_
    rintro v R h ⟨a1, c1, es1, ⟨rfl, he1⟩, H⟩
    have hsm : es1.length ≠ 0 → a1.isSome = true := fun hn => RoC.some (HP.sep_left H).2.1 (by omega)
    have hl1 : es1.length = (asksL g).length := by rw [← he1, List.length_map]
    refine ⟨a1, es1.length, c1, Ls kMs a1 es1.length es1, rfl, ⟨fun q => q = !decide ((es1.length : Int) = 1), ⟨fun h => absurd rfl h, fun _ => rfl⟩, ?_⟩, H⟩
    clear H
    rintro _ rfl
    refine ⟨fun hq => ?_, fun hq => ?_⟩
    · have hk5 : k = 5 := Classical.byContradiction fun hn => by
        have := (hS.asks.1 (by omega)).1
        rw [this] at hl1
        rw [hl1] at hq
        simp at hq
      subst hk5
      exact ⟨g, hS, rfl, rfl, hQ2 (by decide)⟩
    · have hk5 : k < 5 := Classical.byContradiction fun hn => by
        have := hS.asks.2 (by omega)
        rw [this] at hl1
        rw [hl1] at hq
        simp at hq
      obtain ⟨ha, hkind⟩ := hS.asks.1 hk5
      rw [ha] at he1
      obtain ⟨e, rfl⟩ : ∃ e, es1 = [e] := List.length_eq_one_iff.1 (by rw [hl1, ha]; rfl)
      have hem : e.m = spM g k := by simpa using he1
      have hsl : spL (k + 1) = spL k ++ [e.m.kind] := by
        unfold spL
        rw [List.range_succ, List.map_append, hem, hkind]; rfl
      have hS1 : ∀ R h, (Ls kMs a1 [e].length [e]).p R h → (Ls kMs a1 1 [e]).p R h := fun _ _ h => h
      refine ⟨by simp, fun _ => ⟨hsm (by simp), fun _ => ⟨e.m.kind, ldMs1 hS1 (k := 0) rfl rfl rfl, fun z => ?_⟩⟩⟩
      refine (appendI a k c (spL k) (HP.one z (.cells #[.int .i64 e.m.kind] 3 (0, 0))) ⟨z, 0, none⟩ 1 1 [e.m.kind] (one_rd z #[.int .i64 e.m.kind] 3) rfl (by omega)).conseq (K := HP.tt) ((hQ.sep _).trans (.of fun R h H => HP.sep_tt H)) fun v => .of fun R h H => ?_
      obtain ⟨a', c', rfl, H'⟩ := HP.sep_left H
      refine ⟨a', k + 1, c', _, rfl, ⟨e.m.to, ldMs1 hS1 (k := 0) rfl rfl rfl, e.m.kind, ldMs1 hS1 (k := 0) rfl rfl rfl, e.m.ep, ldMs1 hS1 (k := 0) rfl rfl rfl, e.m.at', ldMs1 hS1 (k := 0) rfl rfl rfl, ?_⟩, H'⟩
      refine (eTold_ok b g (spR e.m) none 0 none 0 hA.safe (by simp [spR]) HP.tt).weak (fun R h H => HP.sep_mono (HP.sep_tt H) (fun _ h => h) fun y _ => HP.tt_sep (RoB0 none)) ?_
      rintro v R h ⟨g', ⟨rfl, ht⟩, H⟩
      have hA' := (hA.told (by omega) (by simp [spR]) ht).1
      rw [hem] at ht
      refine ⟨ARep b g', rfl, ⟨⟨k + 1, g', by omega, hS.step hk5 ht, hA', rfl, rfl, ?_, fun _ => ?_⟩, by dsimp only; omega⟩, H⟩
      · rw [hsl]; exact .refl _
      · rw [hsl]
  · rintro a _ c _ _ ⟨g, ⟨e1, e2, e3⟩, rfl, rfl, rfl⟩
    refine ⟨fun q => q = true, fun z => ?_, fun q hq => ?_⟩
    · refine (sameI_ok a 5 c (spL 5) (some ⟨z, 0, none⟩) 5 5 [4, 6, 7, 4, 9] (OwI a 5 c (spL 5)) (HP.one z (.cells #[.int .i64 4, .int .i64 6, .int .i64 7, .int .i64 4, .int .i64 9] 3 (0, 0))) (RdL.ow _ _ _ _ _ _) ⟨one_rd z #[.int .i64 4, .int .i64 6, .int .i64 7, .int .i64 4, .int .i64 9] 3, fun _ _ _ e => by cases e⟩ rfl rfl (by omega)).weak (fun _ _ h => h) ?_
      rintro v R h ⟨rfl, H⟩
      refine ⟨true, rfl, ?_, H⟩
      clear H
      refine ⟨fun _ => ?_, fun h => absurd rfl h⟩
      refine (eState_ok b g).weak (fun _ _ h => h) ?_
      rintro v R h ⟨rfl, H⟩
      refine ⟨g.st, rfl, ⟨fun _ => ?_, fun h => absurd e1 h⟩, H⟩
      clear H
      refine (eTail_ok b g).weak (fun _ _ h => h) ?_
      rintro v R h ⟨rfl, H⟩
      refine ⟨g.tail, rfl, ⟨fun _ => ?_, fun h => absurd e3 h⟩, H⟩
      clear H
      refine (ePlan_ok b g).weak (fun _ _ h => h) ?_
      rintro v R h ⟨a', c', es', ⟨rfl, _⟩, H⟩
      refine ⟨g.plan.ep, a', es'.length, c', _, rfl, ?_, H⟩
      show _ = true
      rw [e2]; rfl
    · subst hq
      exact .of fun R h H => ⟨rfl, trivial⟩
end Go.Proofs.YtbmajijnjkicmaaGreatDoor



namespace Go.Proofs.YtbmajijnjkicmaaGreatDoor
open Go.RowKit Go.ChangeShapes Go.WideShapes Go.Deep RX
set_option maxRecDepth 100000

structure ChI where
  l : List Int
  a : Option Addr
  c : Nat
instance : Inhabited ChI := ⟨⟨[], none, 0⟩⟩
end Go.Proofs.YtbmajijnjkicmaaGreatDoor



namespace Go.Proofs.YtbmajijnjkicmaaGreatDoor
open Go.RowKit Go.ChangeShapes Go.WideShapes Go.Deep RX
set_option maxRecDepth 100000
set_option linter.unusedVariables false
set_option linter.unusedSimpArgs false

structure PlanI where
  ep : Int
  ch : List ChI
  cha : Option Addr
  chc : Nat
instance : Inhabited PlanI := ⟨⟨0, [], none, 0⟩⟩
structure Step18 where
  push : Bool
  some_ : Bool
  at_ : Int
  r_fr : Int
  r_to : Int
  r_num : Int
  r_rep : Bool
  r_kind : Int
  r_ep : Int
  r_at_ : Int
  r_cell_what : Int
  r_cell_data : List UInt8
  r_cell_dataa : Option Addr
  r_cell_datac : Nat
  r_br_r : Int
  r_br_w : Int
  r_val : List UInt8
  r_vala : Option Addr
  r_valc : Nat
  r_err : Int
  r_tail : Int
  r_low : Int
  r_back : Int
instance : Inhabited Step18 := ⟨⟨false, false, 0, 0, 0, 0, false, 0, 0, 0, 0, [], none, 0, 0, 0, [], none, 0, 0, 0, 0, 0⟩⟩
structure Turn18 where
  who : Int
  at_ : Int
  comes : Bool
  push : Bool
abbrev Turn18.vals (x : Turn18) : List Value := [.int .i64 x.who, .int .i64 x.at_, .bool x.comes, .bool x.push]
def Turn18.hp (x : Turn18) : HP := HP.both (HP.pure (okI x.who)) (HP.pure (okI x.at_))
theorem Turn18.pers (x : Turn18) (R h h' : PH) (H : (x.hp).p R h) : (x.hp).p R h' := ⟨H.1, H.2⟩
instance : Inhabited Turn18 := ⟨⟨0, 0, false, false⟩⟩
def kTurn18 : Kind Turn18 := ⟨4, by decide, Turn18.vals, fun _ => rfl, Turn18.hp, Turn18.pers⟩
theorem Turn18.of_trod {H : Type} {enc : TypeId × Value → H} {w : World} {cs : List Value} {n : Nat} {x : DataW H × List MemPlace} (h : DataW.trod enc Tryz.prog w 0 (fun _ => true) true n 58 cs = some x) (hs : Small Tryz.prog 58 x.1) : ∃ m : Turn18, cs = kTurn18.vals m ∧ ∀ h, (kTurn18.hp m).p (allOf w) h := by
  obtain ⟨xs0, n0, _, hx0, hl0, hxl0, hf0⟩ := DataW.trod_struct Tryz.underlying58 h
  replace hxl0 : xs0.length = 4 := hxl0
  have hs0 : Small Tryz.prog 58 (.agg (xs0.map (·.1))) := by
    have e := hx0
    first | (subst e; exact hs) | (rw [e] at hs; exact hs) | (have e2 := congrArg Prod.fst e; rw [← e2]; exact hs) | (rw [← e]; exact hs)
  obtain ⟨c0, e0, w0⟩ := field_int Tryz.underlying3 (show 0 < xs0.length by omega) (by kernel_rfl) (hf0 0 _ rfl)
  obtain ⟨c1, e1, w1⟩ := field_int Tryz.underlying3 (show 1 < xs0.length by omega) (by kernel_rfl) (hf0 1 _ rfl)
  obtain ⟨c2, e2⟩ := field_bool Tryz.underlying4 (show 2 < xs0.length by omega) (by kernel_rfl) (hf0 2 _ rfl)
  obtain ⟨c3, e3⟩ := field_bool Tryz.underlying4 (show 3 < xs0.length by omega) (by kernel_rfl) (hf0 3 _ rfl)
  have hlen : cs.length = 4 := hl0.trans (by kernel_rfl)
  refine ⟨⟨c0, c1, c2, c3⟩, ?_, fun hh => ⟨int_wf w0, int_wf w1⟩⟩
  clear h hl0 hf0 
  revert e0 e1 e2 e3
  match cs, hlen with
  | [u0, u1, u2, u3], _ =>
    intro e0
    obtain rfl : u0 = .int _ c0 := Option.some.inj e0
    intro e1
    obtain rfl : u1 = .int _ c1 := Option.some.inj e1
    intro e2
    obtain rfl : u2 = .bool c2 := Option.some.inj e2
    intro e3
    obtain rfl : u3 = .bool c3 := Option.some.inj e3
    rfl
theorem Turn18.load {a : Option Addr} {n : Nat} {l : List Turn18} {k : Nat} {x : Turn18} (hk : l[k]? = some x) : ORead Tryz.prog (loadS 58 (.pointer (a.map fun y => (y.add ((k : Int).toNat * 4)).add 0))) (Ls kTurn18 a n l) (.agg x.vals.toArray) := by
  obtain ⟨d, hd⟩ : ∃ d, Tryz.prog.underlying 58 = some d := Option.isSome_iff_exists.1 (by kernel_rfl)
  exact Ls.load (K := kTurn18) hd (by kernel_rfl) (by kernel_rfl) hk

end Go.Proofs.YtbmajijnjkicmaaGreatDoor



namespace Go.Proofs.YtbmajijnjkicmaaGreatDoor
set_option linter.unusedSimpArgs false
set_option linter.unusedVariables false
open Go.Proofs.YtbmajijnjkicmaaGreatDoor RX
set_option maxRecDepth 100000

theorem modN18 (a : Int) (n : Nat) (hn : 0 < n) : ∃ E : Nat, (bits .and .i64 a 65535).tmod (n : Int) = (E : Int) ∧ E < n := by
  rw [andffff]
  have h1 := Int.emod_nonneg a (show (65536 : Int) ≠ 0 by decide)
  obtain ⟨q, hq⟩ := Int.eq_ofNat_of_zero_le h1
  rw [hq]
  refine ⟨q % n, ?_, Nat.mod_lt _ hn⟩
  rw [Int.tmod_eq_emod_of_nonneg (by omega)]; rfl
theorem and1 (x : Int) : bits .and .i64 x 1 = x % 2 := bits_mask_i64 x 1 (by decide)

structure AvE where
  b : Nat
  g : AdvS
def kAv : PK AvE := ⟨31, 1, by decide, fun x => [.pointer (some ⟨x.b, 0, none⟩)], fun _ => rfl, fun x u hu => by obtain rfl := List.mem_singleton.1 hu; rfl, fun x => ARep x.b x.g⟩
theorem infoAv : (Tryz.prog.info? 31).map (fun i => (i.zero, i.size, i.bytes)) = some (some (.pointer none), 1, 8) := by kernel_rfl
theorem undAvs : Tryz.prog.underlying 55 = some (.slice 31) := by kernel_rfl
theorem undAv : Tryz.prog.underlying 31 = some (.pointer 76) := by kernel_rfl
theorem appAv (a : Option Addr) (n c : Nat) (l : List AvE) (b : Nat) (x : AvE) (Q : HP) (hb : n ≤ 1000000000) :
    OTri Tryz.prog (appS 55 55 (.slice a n c) (.slice (some ⟨b, 0, none⟩) 1 1)) (HP.sep (PL kAv a n c l) (HP.sep (HP.one b (.cells #[.pointer (some ⟨x.b, 0, none⟩)] 31 (0, 0))) (HP.sep (ARep x.b x.g) Q)))
      (fun v => HP.ex fun a' => HP.ex fun c' => HP.and (v = .slice a' (n + 1) c') (HP.sep (PL kAv a' (n + 1) c' (l ++ [x])) Q)) := by
  obtain ⟨i, hi, h1, h2, h3⟩ := info_parts infoAv
  exact PL.app (K := kAv) 55 55 undAvs hi h1 (by rw [h2]; rfl) h2 (by omega) a n c l b x Q hb
theorem ldAv {a : Option Addr} {n c : Nat} {l : List AvE} {i : Int} {k : Nat} (hi : i = k) {x : AvE} (hk : l[k]? = some x) :
    OTri Tryz.prog (loadS 31 (.pointer (a.map fun y => (y.add (i.toNat * 1)).add 0))) (PL kAv a n c l) (fun v => HP.and (v = .pointer (some ⟨x.b, 0, none⟩)) (HP.sep (ARep x.b x.g) (PRest kAv a n c l k))) := by
  subst hi
  exact PL.load1 (K := kAv) undAv (by kernel_rfl) (by kernel_rfl) rfl rfl hk

theorem neqNilPl {i : Nat} {ty u : TypeId} {p : Option Addr} {A : HP} : ORead Tryz.prog (semW (.binOp .neq 56 (.tmp i) (.const (.pointer none)) u) ty [(i, .pointer p)]) A (.bool p.isSome) := fun w R hh F s _ => by
  have hg : Tryz.prog.eqGuardType Tryz.prog.depth 56 = false := by kernel_rfl
  have hu : Tryz.prog.underlying 56 = some (.pointer 25) := by kernel_rfl
  have he : (Op.equal 56 (.pointer p) (.pointer none)).run Tryz.prog w = .ok (!p.isSome) w := RX.run_equal fun n => by cases p <;> simp [Op.equalIn, RX.run_underlying hu]
  simp only [semW, execOp, arW, List.find?_cons, beq_self_eq_true]
  simp [eqGuard, binOp, hg, program, Sem.run_bind, Result.andThen, he]
theorem nilChkPl {p : Addr} {A : HP} : ORead Tryz.prog (nilS (.pointer (some p))) A (.pointer (some p)) := fun w R hh F s _ => by
  simp [nilS, semW, execOp, arW]
def ChPl (v : Value) (P : HP) : Option PlP → Prop
  | none => v = .pointer none
  | some q => ∃ y ca cc, ∃ es : List ChE, v = .pointer (some ⟨y, 0, none⟩) ∧ es.map (·.l) = q.ch ∧ P = HP.sep (HP.one y (.cells #[.int .i64 q.ep, .slice ca es.length cc] 25 (0, 0))) (Ls kCh ca es.length es)
theorem ChPl.one {v : Value} {P : HP} {ch : Option PlP} (h : ChPl v P ch) : ChPl (oneC v) P ch := by
  cases ch with
  | none => obtain rfl : v = .pointer none := h; rfl
  | some q => obtain ⟨y, ca, cc, es, rfl, h⟩ := h; exact ⟨y, ca, cc, es, rfl, h⟩
theorem ldPlan {y : Nat} {ep : Int} {v : Value} {Q : HP} : ORead Tryz.prog (loadS 25 (.pointer (some ⟨y, 0, none⟩))) (HP.sep (HP.one y (.cells #[.int .i64 ep, v] 25 (0, 0))) Q) (.agg #[.int .i64 ep, v]) := by
  obtain ⟨d, hd⟩ : ∃ d, Tryz.prog.underlying 25 = some d := Option.isSome_iff_exists.1 (by kernel_rfl)
  exact ldBN hd (by kernel_rfl) (vs := [.int .i64 ep, v]) (by kernel_rfl) (by simp) (fun j w hj => by rw [Nat.zero_add]; exact hj)
theorem eTold2 (b : Nat) (g : AdvS) (m : MS) (ca : Option Addr) (cc : Nat) (va : Option Addr) (vc : Nat) (hs : TSafe g) (hmv : m.val.length ≤ 100000000) (D : HP) :
    Tri Tryz.prog 13 #[.pointer (some ⟨b, 0, none⟩), .agg (m.raw ca cc va vc).vals] (HP.sep (ARep b g) (HP.sep D (m.Vro va))) (fun v => HP.ex fun g' => HP.and (v = .tuple #[] ∧ tolR g m g') (HP.sep (ARep b g') (HP.sep D (m.Vro va)))) :=
  (eTold_ok b g m ca cc va vc hs hmv HP.tt).conseq (K := HP.sep D (m.Vro va)) (.of fun R h H => by
    have hV : ∀ h', (m.Vro va).p R h' := fun _ => (HP.sep_right (HP.sep_right H) : (m.Vro va).p R h)
    exact HP.sep_mono H (fun y hy => HP.sep_mono (HP.sep_tt hy) (fun _ h => h) fun z _ => HP.tt_sep (hV z)) fun _ h => h) fun v => .of fun R h ⟨h1, h2, d, l1, l2, ⟨g', e, H1⟩, H2⟩ => ⟨g', e, h1, h2, d, l1, l2, H1, H2⟩
theorem ePush_ok (b : Nat) (g : AdvS) (hr : g.st = 1 → rightB g.old = true) (hu : g.units ≤ 10000) : Tri Tryz.prog 18 #[.pointer (some ⟨b, 0, none⟩)] (ARep b g) (fun v => HP.and (v = .tuple #[]) (ARep b (pushA g))) :=
  Tri.ex fun _ => aPush_ok hr hu

theorem first_right {n c : Nat} (hn : 1 ≤ n ∧ n ≤ 4) (hc : 1 ≤ c ∧ c ≤ 2) (hcn : c ≤ n) : rightB ⟨0, firstC n c⟩ = true := by
  have h1 : n = 1 ∨ n = 2 ∨ n = 3 ∨ n = 4 := by omega
  have h2 : c = 1 ∨ c = 2 := by omega
  rcases h1 with rfl | rfl | rfl | rfl <;> rcases h2 with rfl | rfl <;> first | omega | decide
theorem first_mod {n c i : Nat} {d : List Int} (hc : 1 ≤ c) (hd : (firstC n c)[i]? = some d) {u : Int} (hu : u ∈ d) : u.tmod (c : Int) = i := by
  unfold firstC at hd
  rw [List.getElem?_map] at hd
  obtain ⟨j, hj, rfl⟩ := Option.map_eq_some_iff.1 hd
  obtain ⟨hj1, hj2⟩ := List.getElem?_eq_some_iff.1 hj
  rw [List.getElem_range] at hj2
  subst hj2
  obtain ⟨q, hq, rfl⟩ := List.mem_map.1 hu
  have := of_decide_eq_true (List.mem_filter.1 hq).2
  rw [Int.tmod_eq_emod_of_nonneg (by omega), ← this]; rfl
theorem OneI.mono {n : Nat} {p : PlP} {k j : Nat} {w : NS} {gs : List AdvS} {ch : Option PlP} (h : OneI n p k w gs ch) (hj : k ≤ j) : OneI n p j w gs ch := by
  obtain ⟨bs, V, px, pv, ha, hc⟩ := h
  exact ⟨bs, V, px, pv, fun i g hg => (ha i g hg).more (fun _ h => h) hj, hc⟩
set_option maxHeartbeats 1500000 in
theorem advOne_ok (size chains : Int) (ta : Option Addr) (turns : List Turn18) (tc : Nat) :
    Tri Tryz.prog 4 #[.int .i64 size, .int .i64 chains, .slice ta turns.length tc] (Ls kTurn18 ta turns.length turns) (fun v => HP.pure (v = .bool true)) := by
  refine Tri.fact (φ := turns.length ≠ 0 → ta.isSome = true) (fun R h H hn => RoC.some H.2.1 (by omega)) fun hts => ?_
  refine tri_of_tree (ρ := [.i size, .i chains, .a ta, .n turns.length, .n tc, .p (Ls kTurn18 ta turns.length turns)]) mixed Tryz.func4 tree_advOne ?_
  unfold t_advOne
  simp only [T.den, E.prop, E.den, RX.look, F1.app, F2.app, Uni.int_i, Uni.nat_n, Uni.bool_c, Uni.str_s, Uni.adr_a, Uni.val_v, Uni.hp_p, hden, cden, V.den, W.den, A.den, BR.den, SA.den, FV.den, capV, exs, exP, allP, Cur.app, List.map_cons, List.map_nil, List.cons_append, List.nil_append, List.drop_succ_cons, List.drop_zero, List.length_cons, List.length_nil, Nat.zero_add, Nat.reduceAdd, Int.neg_neg, Bool.not_not, List.append_nil, Nat.add_zero, List.getElem?_cons_zero, List.getElem?_cons_succ, Decidable.not_not, semW_eq, semW_load, semW_append, semW_nil, ne_eq, Nat.reduceEqDiff, not_false_eq_true, and3, and1]
  obtain ⟨nn, hnn⟩ : ∃ nn : Nat, size % 4 + 1 = nn := ⟨(size % 4 + 1).toNat, by omega⟩
  obtain ⟨cc, hcc⟩ : ∃ cc : Nat, chains % 2 + 1 = cc := ⟨(chains % 2 + 1).toNat, by omega⟩
  rw [hnn, hcc]
  have hn : 1 ≤ nn ∧ nn ≤ 4 := by omega
  have hc : 1 ≤ cc ∧ cc ≤ 2 := by omega
  refine speaks18_ok.weak (fun _ _ _ => trivial) ?_
  rintro v R h ⟨rfl, _⟩
  refine ⟨true, rfl, ⟨fun h => absurd rfl h, fun _ => ⟨fun _ => .of fun R h H => trivial, fun hlen => ?_⟩⟩, trivial⟩
  refine ⟨inI64 _ (by omega) (by omega), fun _ => ⟨inI64 _ (by omega) (by omega), fun _ => ?_⟩⟩
  refine (first_ok nn cc).weak (fun _ _ _ => trivial) ?_
  rintro v R h ⟨a, c, es, ⟨rfl, he, hb⟩, H⟩
  refine ⟨(firstS nn cc).1.ep, a, es.length, c, Ls kCh a es.length es, (firstS nn cc).2, rfl, fun _ => ?_, H⟩
  clear H
  refine (laid18_ok nn (by omega)).weak (fun _ _ _ => trivial) ?_
  rintro v R h ⟨wb, w0, ⟨rfl, hwl, _, _, hw0⟩, H⟩
  refine ⟨wb, NodRep wb w0, rfl, ⟨fun q => q = !decide ((firstS nn cc).2 = 0), ⟨fun h => ?_, fun h => ?_⟩, ?_⟩, H⟩
  · show true = _
    rw [decide_eq_false (by exact h)]; rfl
  · show false = _
    rw [decide_eq_true (by exact h)]; rfl
  clear H
  rintro _ rfl
  by_cases hcn : cc ≤ nn
  rotate_left
  · have hf : firstS nn cc = (⟨0, []⟩, 1) := if_neg (by omega)
    rw [hf]
    refine ⟨fun _ => ⟨fun q => q = true, ⟨fun _ => ?_, fun h => absurd (show (1 : Int) = 0 from h) (by decide)⟩, fun q hq => .of fun R h H => ?_⟩, fun h => absurd rfl h⟩
    · exact decide_eq_true (show (nn : Int) < cc by omega)
    · subst hq; rfl
  have hf : firstS nn cc = (⟨0, firstC nn cc⟩, 0) := by
    unfold firstS
    rw [if_pos (by omega), Int.toNat_natCast, Int.toNat_natCast]
  rw [hf] at he ⊢
  refine ⟨fun h => absurd h (by simp), fun _ y => ?_⟩
  generalize hp : (⟨0, firstC nn cc⟩ : PlP) = p at *
  have hpr : rightB p = true := by rw [← hp]; exact first_right hn hc hcn
  have hp0 : p.ep = 0 := by rw [← hp]
  have hpe : (⟨p.ep, es.map (·.l)⟩ : PlP) = p := by rw [he]
  have hel : es.length = cc := by
    have := congrArg List.length he
    rw [List.length_map, ← hp] at this
    rw [this]; exact firstC_len nn cc
  have hone := OneI.new (p := p) hwl (fun u hu => (hw0 u hu).1) hpr hp0 ⟨hn.1, by omega⟩
  refine ⟨fun a' n' c' i P => ∃ (k : Nat) (L : List AvE), i = k ∧ k ≤ 3 ∧ n' = k ∧ HP.ent P (PL kAv a' k c' L) ∧ (k ≠ 0 → a'.isSome = true) ∧ L.map AvE.g = (List.range k).map fun (i : Nat) => beginA p nn ((i : Int) + 1), fun _ _ _ i _ => 3 - i.toNat,
    ⟨0, [], rfl, by omega, rfl, .of fun R h H => PL.zero y H, fun h => absurd rfl h, rfl⟩, ?_⟩
  rintro a' k c' _ P ⟨_, L, rfl, hk, rfl, hP, hP3, hL⟩
  refine ⟨fun hlt => ⟨inI64 _ (by omega) (by omega), fun _ => ?_⟩, fun hge => ?_⟩
  · refine (aBegin_ok (Ls kCh a es.length es) p.ep a es.length c es nn ((k : Int) + 1) (fun _ _ h => h) (fun x hx => by have := hb x hx; omega) (by omega)).weak (fun _ _ h => h) ?_
    rw [hpe]
    rintro v R h ⟨gb, rfl, H⟩
    refine ⟨gb, ARep gb (beginA p nn ((k : Int) + 1)), rfl, fun z => ?_, H⟩
    clear H
    refine (appAv a' k c' L z ⟨gb, beginA p nn ((k : Int) + 1)⟩ HP.tt (by omega)).conseq (K := HP.tt) ((hP.sep _).trans (.of fun R h H => HP.sep_tt (HP.sep_mono H (fun _ h => h) fun y hy => HP.sep_mono hy (fun _ h => h) fun z hz => HP.sep_tt hz))) fun v => .of fun R h H => ?_
    obtain ⟨a2, c2, rfl, H2⟩ := HP.sep_left H
    refine ⟨a2, k + 1, c2, PL kAv a2 (k + 1) c2 (L ++ [⟨gb, beginA p nn ((k : Int) + 1)⟩]), rfl, ⟨⟨k + 1, _, by omega, by omega, rfl, .refl _, fun _ => PL.isAt (HP.sep_left H2) (by omega), ?_⟩, by dsimp only; omega⟩, HP.sep_left H2⟩
    rw [List.map_append, hL, List.range_succ, List.map_append]; rfl
  obtain rfl : k = 3 := by omega
  have has := hP3 (by decide)
  rw [← hL] at hone
  have hL3 : L.length = 3 := by
    have := congrArg List.length hL
    simpa using this
  refine ⟨fun _ v Q i A W => ∃ (k : Nat) (w : NS) (L : List AvE) (ch : Option PlP), i = k ∧ k ≤ turns.length ∧ HP.ent A (PL kAv a' 3 c' L) ∧ W = NodRep wb w ∧ OneI nn p k w (L.map AvE.g) ch ∧ L.length = 3 ∧ ChPl v Q ch, fun _ _ _ i _ _ => turns.length - i.toNat,
    ⟨0, w0, L, none, rfl, Nat.zero_le _, hP, rfl, hone, hL3, rfl⟩, ?_⟩
  clear hone hL hL3 hP hP3 hw0 hwl
  rintro flag v Q _ PA _ ⟨k, w, L, ch, rfl, hk, hPA, rfl, hone, hL3, hch⟩
  refine ⟨fun hlt => ?_, fun _ => .of fun R h H => trivial⟩
  have hkl : k < turns.length := by omega
  have hg : turns[k]? = some turns[k] := List.getElem?_eq_getElem hkl
  generalize turns[k] = t at hg
  refine ⟨fun _ v' A W Q' => ∃ (w' : NS) (L' : List AvE) (ch' : Option PlP), HP.ent A (PL kAv a' 3 c' L') ∧ W = NodRep wb w' ∧ OneI nn p (k + 1) w' (L'.map AvE.g) ch' ∧ L'.length = 3 ∧ ChPl v' Q' ch', ?_, ?_⟩
  rotate_left
  · rintro _ v' A' _ Q' ⟨w', L', ch', hA', rfl, h1, h2, h3⟩
    exact ⟨inI64 _ (by omega) (by omega), fun _ => ⟨⟨k + 1, w', L', ch', by omega, by omega, hA', rfl, h1, h2, h3.one⟩, by dsimp only; omega⟩⟩
  refine ⟨by omega, fun _ => ⟨hts (by omega), fun _ => ⟨t.who, t.at_, t.comes, t.push, Turn18.load hg, fun _ => ?_⟩⟩⟩
  obtain ⟨E, hE, hEl⟩ := modN18 t.who 3 (by decide)
  rw [show ((3 : Int)) = ((3 : Nat) : Int) from rfl, hE]
  have hxe : L[E]? = some (L[E]'(by omega)) := List.getElem?_eq_getElem (by omega)
  generalize L[E]'(by omega) = x at hxe
  have hgE : (L.map AvE.g)[E]? = some x.g := by rw [List.getElem?_map, hxe]; rfl
  have hA := hone.ai hgE
  refine ⟨by omega, fun _ => ⟨by omega, fun _ => ⟨has, fun _ => ?_⟩⟩⟩
  refine (ldAv (a := a') (n := 3) (c := c') rfl hxe).conseq (K := HP.tt) (hPA.trans (.of fun R h H => HP.sep_tt H)) fun v => .of fun R h H => ?_
  obtain ⟨rfl, H'⟩ := HP.sep_left H
  refine ⟨x.b, ARep x.b x.g, PRest kAv a' 3 c' L E, rfl, ?_, H'⟩
  clear H H'
  refine ⟨fun A W => ∃ (g' : AdvS) (w' : NS), A = ARep x.b g' ∧ W = NodRep wb w' ∧ OneI nn p (k + 1) w' ((L.map AvE.g).set E g') ch, ⟨fun _ => ?_, fun _ => ?_⟩, ?_⟩
  · refine (ePush_ok x.b x.g (fun h1 => (hA.r (by omega)).1) (by have := hA.u0; omega)).weak (fun _ _ h => h) ?_
    rintro v R h ⟨rfl, H⟩
    exact ⟨ARep x.b (pushA x.g), rfl, ⟨pushA x.g, w, rfl, rfl, hone.push ⟨hn.1, by omega⟩ (by omega) hgE (by omega)⟩, H⟩
  · refine (eAsks_ok x.b x.g hA.safe.s).weak (fun _ _ h => h) ?_
    rintro v R h ⟨a1, c1, es1, ⟨rfl, he1⟩, H⟩
    have hsm : es1.length ≠ 0 → a1.isSome = true := fun hn => RoC.some (HP.sep_left H).2.1 (by omega)
    refine ⟨a1, es1.length, c1, Ls kMs a1 es1.length es1, rfl, ?_, H⟩
    clear H
    refine ⟨fun A W => ∃ (g' : AdvS) (w' : NS), A = ARep x.b g' ∧ W = NodRep wb w' ∧ OneI nn p (k + 1) w' ((L.map AvE.g).set E g') ch, ⟨fun hpos => ?_, fun hz => ⟨x.g, w, rfl, rfl, by rw [set_back hgE]; exact hone.mono (Nat.le_succ k)⟩⟩, fun A W ⟨g', w', e1, e2, h⟩ => ⟨g', w', e1, e2, h⟩⟩
    obtain ⟨F, hF, hFl⟩ := modN18 t.at_ es1.length (by omega)
    rw [hF]
    have hje : es1[F]? = some (es1[F]'hFl) := List.getElem?_eq_getElem hFl
    generalize es1[F]'hFl = e at hje
    have hemem := List.mem_of_getElem? hje
    have hmem : e.m ∈ asksL x.g := by rw [← he1]; exact List.mem_map.2 ⟨e, hemem, rfl⟩
    obtain ⟨hst1, hst2, hst3⟩ := hone.ask ⟨hn.1, by omega⟩ (by omega) hp0 hgE (by omega) hmem
    obtain ⟨f1, f2, f3, f4, f5, _⟩ := asksL_get (g := x.g) (i := F) (m := e.m) (by rw [← he1, List.getElem?_map, hje]; rfl)
    refine ⟨by omega, fun _ => ⟨by omega, fun _ => ⟨by omega, fun _ => ⟨hsm (by omega), fun _ => ?_⟩⟩⟩⟩
    refine ⟨e.m.fr, e.m.to, e.m.num, e.m.rep, e.m.kind, e.m.ep, e.m.at', e.m.cell.what, e.ca, e.m.cell.data.length, e.cc, e.m.br, e.m.bw, e.va, e.m.val.length, e.vc, e.m.err, e.m.tail, e.m.low, e.m.back, ldMsI (fun _ _ h => h) rfl hje, fun _ => ?_⟩
    have hwl := hone.len
    refine (ask18_ok wb w e.m e.ca e.cc e.va e.vc (fun h7 => ⟨f5.2 h7, f2⟩) (by omega)).conseq (K := Ls kMs a1 es1.length es1) (.of fun R h H => ?_) fun v => .of fun R h ⟨h1, h2, d, l1, l2, ⟨rca, rcc, rva, rvc, e0, H1⟩, H2⟩ => ?_
    · have hx : (HP.both (e.m.Dro e.ca) (e.m.Vro e.va)).p R _ := (HP.sep_right H).2.2 e hemem
      have hD : ∀ h', (e.m.Dro e.ca).p R h' := fun _ => hx.1
      have hV : ∀ h', (e.m.Vro e.va).p R h' := fun _ => hx.2
      exact HP.sep_mono H (fun y hy => HP.sep_mono (HP.sep_tt hy) (fun _ h => h) fun z _ => HP.sep_mono (HP.sep_tt (hD z)) (fun _ h => h) fun q _ => hV q) fun _ h => h
    generalize hAeq : askN w e.m = A at *
    have H3 := HP.pick [_, _, _, _, _, _] [3, 4, 0, 5] (by decide) rfl (HP.sep_assoc (⟨h1, h2, d, l1, l2, H1, H2⟩ : (HP.sep (HP.sep (NodRep wb A.2.2) (HP.sep (e.m.Dro e.ca) (HP.sep (e.m.Vro e.va) (HP.sep (A.2.1.Dro rca) (A.2.1.Vro rva))))) (Ls kMs a1 es1.length es1)).p R h) |> fun H => HP.sep_mono H (fun _ h => h) fun y hy => HP.sep_assoc hy |> fun H => HP.sep_mono H (fun _ h => h) fun y hy => HP.sep_assoc hy |> fun H => HP.sep_mono H (fun _ h => h) fun y hy => HP.sep_assoc hy)
    refine ⟨A.2.1.fr, A.2.1.to, A.2.1.num, A.2.1.rep, A.2.1.kind, A.2.1.ep, A.2.1.at', A.2.1.cell.what, rca, A.2.1.cell.data.length, rcc, A.2.1.Dro rca, A.2.1.br, A.2.1.bw, rva, A.2.1.val.length, rvc, A.2.1.Vro rva, A.2.1.err, A.2.1.tail, A.2.1.low, A.2.1.back, A.1, NodRep wb A.2.2, e0, fun _ => ?_, H3⟩
    clear H1 H2 H3 e0 d l1 l2
    refine ⟨fun q => q = (A.1 && t.comes), ⟨fun h => ?_, fun h => ?_⟩, ?_⟩
    · show t.comes = _
      rw [show A.1 = true from h]; rfl
    · show false = _
      rw [show A.1 = false by simpa using h]; rfl
    rintro _ rfl
    refine ⟨fun B => ∃ g', B = ARep x.b g' ∧ OneI nn p (k + 1) A.2.2 ((L.map AvE.g).set E g') ch, ⟨fun hq => ?_, fun _ => ⟨x.g, rfl, by rw [set_back hgE]; exact hst1⟩⟩, ?_⟩
    · have hA1 : A.1 = true := (Bool.and_eq_true_iff.1 hq).1
      refine (eTold2 x.b x.g A.2.1 rca rcc rva rvc hA.safe (by omega) (A.2.1.Dro rca)).weak (fun _ _ h => h) ?_
      rintro v R h ⟨g', ⟨rfl, ht⟩, H⟩
      exact ⟨ARep x.b g', rfl, ⟨g', rfl, hst3 hA1 g' ht⟩, H⟩
    · rintro _ ⟨g', rfl, h1⟩
      exact ⟨g', A.2.2, rfl, rfl, h1⟩
  rintro _ _ ⟨g', w', rfl, rfl, hone'⟩
  clear hone hA hgE
  have hEL : E < L.length := (List.getElem?_eq_some_iff.1 hxe).1
  have hmap : (L.set E ⟨x.b, g'⟩).map AvE.g = (L.map AvE.g).set E g' := by rw [List.map_set]
  have hgE' : ((L.map AvE.g).set E g')[E]? = some g' := by rw [List.getElem?_set_self (by rw [List.length_map]; exact hEL)]
  have hPA' : HP.ent (HP.sep (PRest kAv a' 3 c' L E) (ARep x.b g')) (PL kAv a' 3 c' (L.set E ⟨x.b, g'⟩)) := .of fun R h H => PL.join (K := kAv) (y := ⟨x.b, g'⟩) hxe rfl H
  refine ⟨fun q => q = decide (g'.st < 3 ∨ g'.st = 6), ?_, ?_⟩
  · refine (eState_ok x.b g').weak (fun _ _ h => h) ?_
    rintro v R h ⟨rfl, H⟩
    refine ⟨g'.st, rfl, ⟨fun h3 => (decide_eq_true (.inl h3)).symm, fun h3 => ?_⟩, H⟩
    clear H
    refine (eState_ok x.b g').weak (fun _ _ h => h) ?_
    rintro v R h ⟨rfl, H⟩
    refine ⟨g'.st, rfl, ?_, H⟩
    show decide (g'.st = 6) = _
    by_cases h6 : g'.st = 6
    · rw [decide_eq_true h6, decide_eq_true (.inr h6)]
    · rw [decide_eq_false h6, decide_eq_false (fun h => h.elim h3 h6)]
  rintro _ rfl
  refine ⟨fun _ => ⟨w', L.set E ⟨x.b, g'⟩, ch, hPA', rfl, by rw [hmap]; exact hone', by simp [hL3], hch.one⟩, fun hq => ?_⟩
  have hq : ¬ (g'.st < 3 ∨ g'.st = 6) := fun h => hq (decide_eq_true h)
  obtain ⟨hsame, hgood, hone2⟩ := hone'.chosen hgE' (by omega) (by omega)
  have hgr := rightP hgood.1
  refine (ePlan_ok x.b g').weak (fun _ _ h => h) ?_
  rintro v2 R h ⟨a3, c3, es3, ⟨rfl, he3⟩, H⟩
  refine ⟨g'.plan.ep, a3, es3.length, c3, Ls kCh a3 es3.length es3, rfl, fun y => ?_, H⟩
  have hsm3 : es3.length ≠ 0 → a3.isSome = true := fun hn => RoC.some (HP.sep_left H).2.1 (by omega)
  have hsm3' : ∀ z ∈ es3, z.l.length ≠ 0 → z.a.isSome = true := fun z hz hn => RoC.some ((HP.sep_left H).2.2 z hz) (by omega)
  clear H
  have hpl3 : (⟨g'.plan.ep, es3.map (·.l)⟩ : PlP) = g'.plan := by rw [he3]
  have hl3 : es3.length = g'.plan.ch.length := by rw [← he3, List.length_map]
  have hb3 : ∀ z ∈ es3, z.l.length ≤ 7 := fun z hz => (hgr.chain (by rw [← he3]; exact List.mem_map.2 ⟨z, hz, rfl⟩)).2.2
  have h73 := hgr.len7
  have hpch : p.ch.length = cc := by rw [← hp]; exact firstC_len nn cc
  refine ⟨fun q => q = false, ?_, ?_⟩
  · -- it is as the document wants it
    have right : Tri Tryz.prog 19 #[.agg #[.int .i64 g'.plan.ep, .slice a3 es3.length c3]] (Ls kCh a3 es3.length es3) (fun v => HP.and (v = .bool true) (Ls kCh a3 es3.length es3)) := by
      have := right_ok (Ls kCh a3 es3.length es3) g'.plan.ep a3 es3.length c3 es3 (fun _ _ h => h) (fun z hz => by have := hb3 z hz; omega)
      rw [hpl3, hgood.1] at this; exact this
    have hep1 : g'.plan.ep = 1 := by rw [hgood.2.1, hp0]; rfl
    have hlast : (!decide ((es3.length : Int) = es.length)) = false := by
      rw [decide_eq_true (by rw [hl3, hgood.2.2.1, hpch, hel])]; rfl
    cases ch with
    | none =>
      obtain rfl : v = .pointer none := hch
      refine ⟨_, neqNilPl, fun h => (by cases h), fun _ => ?_⟩
      refine right.weak (fun _ _ h => h) ?_
      rintro v R h ⟨rfl, H⟩
      exact ⟨true, rfl, ⟨fun h => absurd rfl h, fun _ => ⟨fun h => absurd hep1 h, fun _ => hlast⟩⟩, H⟩
    | some q =>
      obtain ⟨y', ca, cc', es', rfl, heq', rfl⟩ := hch
      refine ⟨_, neqNilPl, fun _ => ⟨y', nilChkPl, q.ep, ca, es'.length, cc', ldPlan, ?_⟩, fun h => absurd rfl h⟩
      refine (samePl_ok g'.plan.ep q.ep a3 c3 es3 ca cc' es' (Ls kCh a3 es3.length es3) _ (fun _ _ h => h) (fun R h H => HP.sep_right H) (by omega) (fun z hz => by have := hb3 z hz; omega)).weak (fun _ _ h => h) ?_
      rw [hpl3, show (⟨q.ep, es'.map (·.l)⟩ : PlP) = q by rw [heq'], decide_eq_true (hsame q rfl)]
      rintro v R h ⟨rfl, H⟩
      refine ⟨true, rfl, ⟨fun h => absurd rfl h, fun _ => ?_⟩, H⟩
      clear H
      refine right.weak (fun _ _ h => h) ?_
      rintro v R h ⟨rfl, H⟩
      exact ⟨true, rfl, ⟨fun h => absurd rfl h, fun _ => ⟨fun h => absurd hep1 h, fun _ => hlast⟩⟩, H⟩
  rintro _ rfl
  refine ⟨fun h => absurd h (by decide), fun _ => ?_⟩
  refine ⟨fun _ i => ∃ j : Nat, i = j ∧ j ≤ es3.length, fun _ i => es3.length - i.toNat, ⟨0, rfl, Nat.zero_le _⟩, ?_⟩
  rintro _ _ ⟨j, rfl, hj⟩
  refine ⟨fun hjl => ⟨by omega, fun _ => ⟨hsm3 (by omega), fun _ => ?_⟩⟩, fun _ => ⟨w', L.set E ⟨x.b, g'⟩, some g'.plan, hPA', rfl, by rw [hmap]; exact hone2, by simp [hL3], y, a3, c3, es3, rfl, he3, rfl⟩⟩
  have hzj : es3[j]? = some (es3[j]'(by omega)) := List.getElem?_eq_getElem (by omega)
  generalize es3[j]'(by omega) = z at hzj
  have hzm := List.mem_of_getElem? hzj
  refine ⟨z.a, z.l.length, z.c, ldC (fun _ _ h => h) hzj, ?_⟩
  refine ⟨fun _ i => ∃ q : Nat, i = q ∧ q ≤ z.l.length, fun _ i => z.l.length - i.toNat, ⟨0, rfl, Nat.zero_le _⟩, ?_⟩
  rintro _ _ ⟨q, rfl, hq2⟩
  refine ⟨fun hql => ⟨by omega, fun _ => ⟨hsm3' z hzm (by omega), fun _ => ?_⟩⟩, fun _ => ⟨inI64 _ (by omega) (by omega), fun _ => ⟨⟨j + 1, by omega, by omega⟩, by dsimp only; omega⟩⟩⟩
  have hu : z.l[q]? = some (z.l[q]'(by omega)) := List.getElem?_eq_getElem (by omega)
  generalize z.l[q]'(by omega) = u at hu
  have hrd : RdL (Ls kCh a3 es3.length es3) z.a z.l.length (z.l.map i64v) := .of fun R h H => H.2.2 z hzm
  refine ⟨u, ldI hrd.rd hu, by omega, fun _ => ⟨fun hne => ?_, fun _ => ⟨inI64 _ (by omega) (by have := hb3 z hzm; omega), fun _ => ⟨⟨q + 1, by omega, by omega⟩, by dsimp only; omega⟩⟩⟩⟩
  obtain ⟨d, hd, hsub⟩ := hgood.2.2.2 j z.l (by rw [← he3, List.getElem?_map, hzj]; rfl)
  rw [← hp] at hd
  have := first_mod hc.1 hd (hsub u (List.mem_of_getElem? hu))
  rw [hel] at hne
  exact absurd this hne
end Go.Proofs.YtbmajijnjkicmaaGreatDoor



namespace Go.Proofs.YtbmajijnjkicmaaGreatDoor
open Go.Proofs.YtbmajijnjkicmaaGreatDoor RX
open Go.ChangeShapes Go.WideShapes Go.ChangeAt Go.RowKit
set_option maxRecDepth 100000

theorem fours_name : Tryz.prog.globalNamed "tideline/check.fours" = some 0 := by kernel_rfl
theorem fours_type : (Tryz.prog.globals[(0 : Nat)]?).map (·.type) = some 201 := by kernel_rfl
theorem cells32 : Tryz.prog.cellsOf 188 = 1 := by kernel_rfl
theorem gr_of {w : World} {r : List (String × DataW Unit)} {ps : List MemPlace} (h : DataW.LaidVars Tryz.prog w (("tideline/check.fours", Rows.laid_tideline_check_fours) :: r) ps) : GR (allOf w) := by
  obtain ⟨g, t, cs, fuel, p, q, hg, ht, hv, htr, _, _⟩ := h
  rw [fours_name] at hg
  cases hg
  rw [fours_type] at ht
  cases ht
  unfold World.var? at hv
  rw [fours_name] at hv
  simp only [Option.bind_some] at hv
  obtain ⟨ty, fr, hh⟩ : ∃ ty fr, w.heap[(0 : Nat)]? = some (.cells cs ty fr) := by
    split at hv
    · rename_i c ty fr e; cases hv; exact ⟨ty, fr, e⟩
    · cases hv
  refine ⟨cs, ty, fr, hh, fun i v hi => ?_⟩
  obtain ⟨xs, m, _, hx, hl, hn, hel⟩ := DataW.trod_array undF htr
  have hi16 : i < 16 := (List.getElem?_eq_some_iff.1 hi).1
  have hd : xs.map (·.1) = fours.map fun n : Nat => DataW.lit (.int .u32 ((n : Nat) : Int)) := by
    have := congrArg Prod.fst hx
    unfold Rows.laid_tideline_check_fours at this
    injection this with this
    exact this.symm
  have h1 := hel i hi16
  rw [cells32, Nat.mul_one] at h1
  have h3 : (xs.map (·.1))[i]? = some (DataW.lit (.int .u32 (v : Int))) := by rw [hd, List.getElem?_map, hi]; rfl
  rw [List.getElem?_map] at h3
  obtain ⟨y, hy, hy2⟩ := Option.map_eq_some_iff.1 h3
  rw [hy] at h1
  obtain ⟨z, hz, hz2, _⟩ := DataW.trod_int und32 h1
  rw [hz2] at hy2
  have e : z = (v : Int) := by
    injection hy2 with e
    injection e
  subst e
  have h5 : (List.take 1 (cs.toList.drop i))[0]? = some (Value.int .u32 (v : Int)) := by rw [hz]; rfl
  rw [List.getElem?_take, if_pos (by decide), List.getElem?_drop, Nat.add_zero] at h5
  simpa using h5
end Go.Proofs.YtbmajijnjkicmaaGreatDoor



namespace Go.Proofs.YtbmajijnjkicmaaGreatDoor
open Go.RowKit Go.ChangeShapes Go.WideShapes Go.Deep RX

set_option maxRecDepth 100000 in
theorem advanceOne_walk {H : Type} (enc : TypeId × Value → H) (base : Nat) (v0 v1 v2 : Value) (w : World)
    (k0 : Value.okWide Tryz.prog w .any base 3 v0) (h0 : ∃ d p, DataW.Trod enc Tryz.prog w 0 (fun _ => true) true 3 v0 d p ∧ Small Tryz.prog 3 d)
    (k1 : Value.okWide Tryz.prog w .any base 3 v1) (h1 : ∃ d p, DataW.Trod enc Tryz.prog w 0 (fun _ => true) true 3 v1 d p ∧ Small Tryz.prog 3 d)
    (k2 : Value.okWide Tryz.prog w .any base 54 v2) (h2 : ∃ d p, DataW.Trod enc Tryz.prog w 0 (fun _ => true) true 54 v2 d p ∧ Small Tryz.prog 54 d) (hG : GR (allOf w)) :
    Calls Tryz.prog 4 #[v0, v1, v2] w fun e w' => e = .returned (.bool true) ∧ Below w.heap.size w w' := by
  obtain ⟨n0, rfl, r0⟩ := int_openR k0 h0
  obtain ⟨n1, rfl, r1⟩ := int_openR k1 h1
  obtain ⟨a2, l2, c2, rfl, b2, z2⟩ := slice_open kTurn18 Tryz.underlying54 (by kernel_rfl) (of_decide_eq_true (by kernel_rfl)) Turn18.of_trod k2 h2
  exact Tri.run (advOne_ok n0 n1 a2 l2 c2) (z2 _) hG
end Go.Proofs.YtbmajijnjkicmaaGreatDoor



namespace Go.Proofs.YtbmajijnjkicmaaGreatDoor.advanceOne
open Go.ChangeShapes Go.WideShapes Go.ChangeAt Go.RowKit
set_option linter.unusedVariables false

theorem own : ownKnob Tryz.prog.godebug = none := by kernel_rfl
theorem laidOut : laidOutB Tryz.prog = true := by kernel_rfl

def laidL : List (String × DataW Unit) := [("tideline/check.fours", Rows.laid_tideline_check_fours)]
set_option maxRecDepth 100000 in
theorem plainL (w : World) : laidMetH Tryz.prog laidL w = laidMet Tryz.prog laidL w := MakeChecks.laidMetH_plain _ _ _ (by kernel_rfl)
set_option maxRecDepth 100000 in
theorem door_met (os : Os) (args : Array Value) : laidMetH Tryz.prog laidL ((World.laidAll Tryz.prog os laidL).forCall (fun _ _ => 0) ⟨#[], args, []⟩).memory := by
  rw [plainL]
  exact laidMet_laidAll _ (by kernel_rfl) (by kernel_rfl)
end Go.Proofs.YtbmajijnjkicmaaGreatDoor.advanceOne




namespace Go.Proofs.YtbmajijnjkicmaaGreatDoor.advanceOne
open Go.ChangeShapes Go.WideShapes Go.ChangeAt Go.RowKit
set_option linter.unusedVariables false

set_option maxRecDepth 100000 in
theorem lifted (os : Os) (started : os.Started) (H : Type) (enc : TypeId × Value → H) :
    ReturnsInHanded {} Tryz.checked os 4 .any (fun w args => (Rows.advanceOneSpec.pre enc Tryz.prog Tryz.f4 [] false w args ∧ laidMetH Tryz.prog laidL w) ∧ sizedMet enc Tryz.prog Tryz.f4 (OpenSpec.ofChange Rows.advanceOneSpec) false w args) (Rows.advanceOneSpec.post enc Tryz.prog Tryz.f4 false true false false) := by
  refine returnsInHanded_of_change_and (C := Tryz.checked) (X := fun w _ => laidMetH Tryz.prog laidL w) (fun _ _ _ hh h => h.of_heap hh) own started (by kernel_rfl) Tryz.func4
    (ChangeSpec.witness_shaped (enc := enc) (C := Tryz.checked) (os := os) (X := fun w _ => laidMetH Tryz.prog laidL w) false (World.laidAll Tryz.prog os laidL) #[.int .i64 0, .int .i64 0, .slice none 0 0] 8 (World.laidAll_os _ _ _) (World.shaped_of_ZipB (by kernel_rfl) (by kernel_rfl)) (by kernel_rfl) (by kernel_rfl) (by kernel_rfl) (door_met os _)) ?_
  intro W base args ds gs before hval0 hW hcnd hsz0 hX _
  have hG : GR (allOf W) := by rw [plainL] at hX; obtain ⟨_, hv, _⟩ := hX; exact gr_of hv
  have hval : ∀ (j : Nat) t v, Tryz.f4.params[j]? = some t → args[j]? = some v → Value.okWide Tryz.prog W .any base t v := hval0
  have hW' := hW
  obtain ⟨p, q, hA0, hV, rfl, hfz, hnd⟩ := hW
  have hA : DataW.TrodAll enc Tryz.prog W 0 (fun _ => true) true Tryz.f4.params.toList args.toList ds p := hA0
  have hsz : (DataW.weightsEach Tryz.prog (Tryz.f4.params.toList ++ Rows.advanceOneSpec.plain.varTypes Tryz.prog) (ds ++ gs)).all (· ≤ reachBytes) = true := hsz0
  clear hsz0
  rw [Tryz.params4] at hA hval hsz
  obtain ⟨v0, vs0, d0, ds0, p0, q0, hargs, rfl, rfl, h0, r0⟩ := trodAll_cons hA
  obtain ⟨v1, vs1, d1, ds1, p1, q1, rfl, rfl, rfl, h1, r1⟩ := trodAll_cons r0
  obtain ⟨v2, vs2, d2, ds2, p2, q2, rfl, rfl, rfl, h2, r2⟩ := trodAll_cons r1
  obtain ⟨rfl, rfl, rfl⟩ := trodAll_nil r2
  obtain rfl : args = #[v0, v1, v2] := by cases args; simp_all
  obtain ⟨rfl, rfl⟩ := trodVars_none hV
  have lt0 : ∀ x ∈ p0, x.block < W.heap.size := by obtain ⟨m, hm⟩ := h0; exact DataW.trod_lt m _ _ _ hm
  have lt1 : ∀ x ∈ p1, x.block < W.heap.size := by obtain ⟨m, hm⟩ := h1; exact DataW.trod_lt m _ _ _ hm
  have lt2 : ∀ x ∈ p2, x.block < W.heap.size := by obtain ⟨m, hm⟩ := h2; exact DataW.trod_lt m _ _ _ hm
  refine (advanceOne_walk enc base v0 v1 v2 W (hval 0 3 v0 rfl rfl) ⟨_, _, h0, Small.arg hsz (j := 0) rfl rfl⟩ (hval 1 3 v1 rfl rfl) ⟨_, _, h1, Small.arg hsz (j := 1) rfl rfl⟩ (hval 2 54 v2 rfl rfl) ⟨_, _, h2, Small.arg hsz (j := 2) rfl rfl⟩ hG).mono fun e W' ⟨he, bel⟩ => ?_
  subst he
  exact ⟨_, rfl, _, _, _, [], _, [], hW', trodAll_mk1 (shut_bool Tryz.underlying4 _), (trodAll_cons_mk (Below.trod laidOut (by kernel_rfl) (of_decide_eq_true (by kernel_rfl)) h0 bel lt0) (trodAll_cons_mk (Below.trod laidOut (by kernel_rfl) (of_decide_eq_true (by kernel_rfl)) h1 bel lt1) (trodAll_cons_mk (Below.trod laidOut (by kernel_rfl) (of_decide_eq_true (by kernel_rfl)) h2 bel lt2) trodAll_mk0))), rfl, bel.frame _, fun h => by cases h⟩

end Go.Proofs.YtbmajijnjkicmaaGreatDoor.advanceOne




namespace Go.Proofs.YtbmajijnjkicmaaGreatDoor.advanceOne
open Go.ChangeShapes Go.WideShapes Go.ChangeAt Go.RowKit
set_option linter.unusedVariables false

theorem and2 {a b : Bool} (h1 : a = true) (h2 : b = true) : (a && b) = true := by rw [h1, h2]; rfl
theorem c0 : (fun (P : Program) (f : FuncId) (fn : Func) (s : ChangeSpec) (c : OpenClaim) => (c.wf (OpenSpec.ofChange s) : Bool)) Tryz.pinned.checked.prog 4 Tryz.f4 Rows.advanceOneSpec Rows.advanceOneRow = true := by kernel_rfl
theorem c1 : (fun (P : Program) (f : FuncId) (fn : Func) (s : ChangeSpec) (c : OpenClaim) => (laidOutB P : Bool)) Tryz.pinned.checked.prog 4 Tryz.f4 Rows.advanceOneSpec Rows.advanceOneRow = true := by kernel_rfl
theorem c2 : (fun (P : Program) (f : FuncId) (fn : Func) (s : ChangeSpec) (c : OpenClaim) => (mapsRowed P : Bool)) Tryz.pinned.checked.prog 4 Tryz.f4 Rows.advanceOneSpec Rows.advanceOneRow = true := by kernel_rfl
theorem c3 : (fun (P : Program) (f : FuncId) (fn : Func) (s : ChangeSpec) (c : OpenClaim) => (fn.params.all (P.readableRec ·) : Bool)) Tryz.pinned.checked.prog 4 Tryz.f4 Rows.advanceOneSpec Rows.advanceOneRow = true := by kernel_rfl
theorem c4 : (fun (P : Program) (f : FuncId) (fn : Func) (s : ChangeSpec) (c : OpenClaim) => (namedTie P c.named s.vars : Bool)) Tryz.pinned.checked.prog 4 Tryz.f4 Rows.advanceOneSpec Rows.advanceOneRow = true := by kernel_rfl
theorem c5 : (fun (P : Program) (f : FuncId) (fn : Func) (s : ChangeSpec) (c : OpenClaim) => ((c.stops == []) : Bool)) Tryz.pinned.checked.prog 4 Tryz.f4 Rows.advanceOneSpec Rows.advanceOneRow = true := by kernel_rfl
theorem c6 : (fun (P : Program) (f : FuncId) (fn : Func) (s : ChangeSpec) (c : OpenClaim) => ((P.stops == []) : Bool)) Tryz.pinned.checked.prog 4 Tryz.f4 Rows.advanceOneSpec Rows.advanceOneRow = true := by kernel_rfl
theorem c7 : (fun (P : Program) (f : FuncId) (fn : Func) (s : ChangeSpec) (c : OpenClaim) => ((c.knobs == []) : Bool)) Tryz.pinned.checked.prog 4 Tryz.f4 Rows.advanceOneSpec Rows.advanceOneRow = true := by kernel_rfl
theorem c8 : (fun (P : Program) (f : FuncId) (fn : Func) (s : ChangeSpec) (c : OpenClaim) => ((P.stopKnobs == []) : Bool)) Tryz.pinned.checked.prog 4 Tryz.f4 Rows.advanceOneSpec Rows.advanceOneRow = true := by kernel_rfl
theorem c9 : (fun (P : Program) (f : FuncId) (fn : Func) (s : ChangeSpec) (c : OpenClaim) => ((c.inPlace == P.inPlace f) : Bool)) Tryz.pinned.checked.prog 4 Tryz.f4 Rows.advanceOneSpec Rows.advanceOneRow = true := by kernel_rfl
theorem c10 : (fun (P : Program) (f : FuncId) (fn : Func) (s : ChangeSpec) (c : OpenClaim) => ((c.unfollowed == P.unfollowed f) : Bool)) Tryz.pinned.checked.prog 4 Tryz.f4 Rows.advanceOneSpec Rows.advanceOneRow = true := by kernel_rfl
theorem c11 : (fun (P : Program) (f : FuncId) (fn : Func) (s : ChangeSpec) (c : OpenClaim) => ((c.recurses == P.recurses f) : Bool)) Tryz.pinned.checked.prog 4 Tryz.f4 Rows.advanceOneSpec Rows.advanceOneRow = true := by kernel_rfl
theorem c12 : (fun (P : Program) (f : FuncId) (fn : Func) (s : ChangeSpec) (c : OpenClaim) => ((c.named == P.varsNamed f) : Bool)) Tryz.pinned.checked.prog 4 Tryz.f4 Rows.advanceOneSpec Rows.advanceOneRow = true := by kernel_rfl
theorem c13 : (fun (P : Program) (f : FuncId) (fn : Func) (s : ChangeSpec) (c : OpenClaim) => ((c.maps == (fn.params.toList ++ s.plain.varTypes P).any (P.mapsRec ·)) : Bool)) Tryz.pinned.checked.prog 4 Tryz.f4 Rows.advanceOneSpec Rows.advanceOneRow = true := by kernel_rfl
theorem c14 : (fun (P : Program) (f : FuncId) (fn : Func) (s : ChangeSpec) (c : OpenClaim) => ((c.ifaces == (fn.params.toList ++ s.plain.varTypes P).any (P.ifacesRec ·)) : Bool)) Tryz.pinned.checked.prog 4 Tryz.f4 Rows.advanceOneSpec Rows.advanceOneRow = true := by kernel_rfl
theorem c15 : (fun (P : Program) (f : FuncId) (fn : Func) (s : ChangeSpec) (c : OpenClaim) => ((c.mapsOut == P.mapsAmong fn.resultTypes.toList) : Bool)) Tryz.pinned.checked.prog 4 Tryz.f4 Rows.advanceOneSpec Rows.advanceOneRow = true := by kernel_rfl
theorem c16 : (fun (P : Program) (f : FuncId) (fn : Func) (s : ChangeSpec) (c : OpenClaim) => ((c.loops == (fn.params.toList ++ s.plain.varTypes P).any (P.loopsFrom ·)) : Bool)) Tryz.pinned.checked.prog 4 Tryz.f4 Rows.advanceOneSpec Rows.advanceOneRow = true := by kernel_rfl
theorem c17 : (fun (P : Program) (f : FuncId) (fn : Func) (s : ChangeSpec) (c : OpenClaim) => ((c.wideKeys == (fn.params.toList ++ s.plain.varTypes P ++ fn.resultTypes.toList).any (P.wideKeysFrom ·)) : Bool)) Tryz.pinned.checked.prog 4 Tryz.f4 Rows.advanceOneSpec Rows.advanceOneRow = true := by kernel_rfl
theorem c18 : (fun (P : Program) (f : FuncId) (fn : Func) (s : ChangeSpec) (c : OpenClaim) => (s.vars.all (P.varReadable ·) : Bool)) Tryz.pinned.checked.prog 4 Tryz.f4 Rows.advanceOneSpec Rows.advanceOneRow = true := by kernel_rfl
theorem c19 : (fun (P : Program) (f : FuncId) (fn : Func) (s : ChangeSpec) (c : OpenClaim) => (fn.resultTypes.all (fun t => P.readableRec t && decide (t < P.types.size)) : Bool)) Tryz.pinned.checked.prog 4 Tryz.f4 Rows.advanceOneSpec Rows.advanceOneRow = true := by kernel_rfl
theorem c20 : (fun (P : Program) (f : FuncId) (fn : Func) (s : ChangeSpec) (c : OpenClaim) => ((c.ifacesOut == fn.resultTypes.toList.any (P.ifacesRec ·)) : Bool)) Tryz.pinned.checked.prog 4 Tryz.f4 Rows.advanceOneSpec Rows.advanceOneRow = true := by kernel_rfl
theorem c21 : (fun (P : Program) (f : FuncId) (fn : Func) (s : ChangeSpec) (c : OpenClaim) => ((c.loopsOut == fn.resultTypes.toList.any (P.loopsFrom ·)) : Bool)) Tryz.pinned.checked.prog 4 Tryz.f4 Rows.advanceOneSpec Rows.advanceOneRow = true := by kernel_rfl
theorem c22 : (fun (P : Program) (f : FuncId) (fn : Func) (s : ChangeSpec) (c : OpenClaim) => ((c.plainKeys == P.plainKeys) : Bool)) Tryz.pinned.checked.prog 4 Tryz.f4 Rows.advanceOneSpec Rows.advanceOneRow = true := by kernel_rfl
theorem c23 : (fun (P : Program) (f : FuncId) (fn : Func) (s : ChangeSpec) (c : OpenClaim) => (c.shortTexts.isNone : Bool)) Tryz.pinned.checked.prog 4 Tryz.f4 Rows.advanceOneSpec Rows.advanceOneRow = true := by kernel_rfl
theorem c24 : (fun (P : Program) (f : FuncId) (fn : Func) (s : ChangeSpec) (c : OpenClaim) => (P.stopsHeard : Bool)) Tryz.pinned.checked.prog 4 Tryz.f4 Rows.advanceOneSpec Rows.advanceOneRow = true := by kernel_rfl
theorem c25 : (fun (P : Program) (f : FuncId) (fn : Func) (s : ChangeSpec) (c : OpenClaim) => (P.mayEnter : Bool)) Tryz.pinned.checked.prog 4 Tryz.f4 Rows.advanceOneSpec Rows.advanceOneRow = true := by kernel_rfl
theorem c26 : (fun (P : Program) (f : FuncId) (fn : Func) (s : ChangeSpec) (c : OpenClaim) => ((c.lifted == P.liftsFinal) : Bool)) Tryz.pinned.checked.prog 4 Tryz.f4 Rows.advanceOneSpec Rows.advanceOneRow = true := by kernel_rfl
theorem c27 : (fun (P : Program) (f : FuncId) (fn : Func) (s : ChangeSpec) (c : OpenClaim) => ((P.make == some c.make) : Bool)) Tryz.pinned.checked.prog 4 Tryz.f4 Rows.advanceOneSpec Rows.advanceOneRow = true := by kernel_rfl
theorem c28 : (fun (P : Program) (f : FuncId) (fn : Func) (s : ChangeSpec) (c : OpenClaim) => ((c.kinds == (if c.domain.isEmpty then [] else fn.params.toList.map fun t => match P.underlying t with | some (.int k) => some k | _ => none)) : Bool)) Tryz.pinned.checked.prog 4 Tryz.f4 Rows.advanceOneSpec Rows.advanceOneRow = true := by kernel_rfl
theorem c29 : (fun (P : Program) (f : FuncId) (fn : Func) (s : ChangeSpec) (c : OpenClaim) => ((c.pinned == c.pinnedBy) : Bool)) Tryz.pinned.checked.prog 4 Tryz.f4 Rows.advanceOneSpec Rows.advanceOneRow = true := by kernel_rfl
theorem c30 : (fun (P : Program) (f : FuncId) (fn : Func) (s : ChangeSpec) (c : OpenClaim) => ((c.veiled == (fn.params.toList ++ s.plain.varTypes P ++ fn.resultTypes.toList).any (P.veiledRec ·)) : Bool)) Tryz.pinned.checked.prog 4 Tryz.f4 Rows.advanceOneSpec Rows.advanceOneRow = true := by kernel_rfl
theorem c31 : (fun (P : Program) (f : FuncId) (fn : Func) (s : ChangeSpec) (c : OpenClaim) => (c.veiledFits P fn.params.toList (fn.params.toList ++ s.plain.varTypes P ++ fn.resultTypes.toList) : Bool)) Tryz.pinned.checked.prog 4 Tryz.f4 Rows.advanceOneSpec Rows.advanceOneRow = true := by kernel_rfl
theorem inst : Tryz.f4.isInstance Tryz.pinned.checked.prog Rows.advanceOneRow.origin Rows.advanceOneRow.targs := (of_decide_eq_true (by kernel_rfl))
theorem wrap : Tryz.f4.isWrapper Tryz.pinned.checked.prog Rows.advanceOneRow.wrapper Rows.advanceOneRow.mainSum := by unfold Func.isWrapper; first | (rw [if_pos (by decide +kernel)]; kernel_rfl) | (rw [if_neg (by decide +kernel)]; exact ⟨rfl, rfl⟩)
theorem nmd : Tryz.pinned.checked.prog.funcNamed Rows.advanceOneRow.func = some 4 := by kernel_rfl
end Go.Proofs.YtbmajijnjkicmaaGreatDoor.advanceOne




namespace Go.Proofs.YtbmajijnjkicmaaGreatDoor.advanceOne
open Go.ChangeShapes Go.WideShapes Go.ChangeAt Go.RowKit
set_option linter.unusedVariables false

set_option maxRecDepth 100000 in
theorem closed : joinedFacts Tryz.pinned.checked.prog 4 Tryz.f4 Rows.advanceOneSpec Rows.advanceOneRow = true := (and2 (and2 (and2 (and2 (and2 (and2 (and2 (and2 (and2 (and2 (and2 (and2 (and2 (and2 (and2 (and2 (and2 (and2 (and2 (and2 (and2 (and2 (and2 (and2 (and2 (and2 (and2 (and2 (and2 (and2 (and2 c0 c1) c2) c3) c4) c5) c6) c7) c8) c9) c10) c11) c12) c13) c14) c15) c16) c17) c18) c19) c20) c21) c22) c23) c24) c25) c26) c27) c28) c29) c30) c31)
theorem over : Rows.advanceOneRow.holds Tryz.pinned (OpenSpec.ofChange Rows.advanceOneSpec) :=
  OpenClaim.holds_of_wide 4 Tryz.f4 rfl rfl rfl rfl rfl rfl rfl ⟨rfl, rfl, rfl, rfl, rfl⟩ rfl rfl rfl rfl rfl nmd Tryz.func4 closed inst wrap (fun os started H enc _ => lifted os started H enc)
end Go.Proofs.YtbmajijnjkicmaaGreatDoor.advanceOne


