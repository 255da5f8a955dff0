/- Texts of this claim, joined: ChainB, ChainC, ChainD, ChainE, TrLaw17, ChainF, Sized, In, Ins, Ptrs, TrRef09, RefA, RefB, RefC. No condition. -/
import Derived.Test.YtmibmjehjagmbaaBoAJ1
import Derived.Test.YtmibmjehjagmbaaBoAJ3
import Derived.Test.YtmibmjehjagmbaaBoAJ4
import Derived.KernelRfl
import Derived.SizedLaws
import Derived.ProofKit
import Derived.OpenShut
import Derived.Deep.Slices
import Derived.Lib.SmallJoins
import Derived.Below
set_option linter.unusedSimpArgs false
set_option linter.unusedVariables false
/- Contracts of a chain's Op. No condition. -/
namespace Go.Proofs.Ytmibmjehjagmbaa
set_option linter.unusedSimpArgs false
set_option linter.unusedVariables false
open Go.Proofs.Ytmibmjehjagmbaa RX

/-- An Op. -/
structure OpS where
  at' : Int
  state : Int
  low : Int
  us : List Int
  step : Int
  place : Int
  cell : CellS
abbrev OpS.vals (o : OpS) (ua : Option Addr) (uc : Nat) (da : Option Addr) (dc : Nat) : Array Value := #[.int .i64 o.at', .int .i64 o.state, .int .i64 o.low, .slice ua o.us.length uc, .int .i64 o.step, .int .i64 o.place, .int .i64 o.cell.what, .slice da o.cell.data.length dc]
abbrev OCells (b : Nat) (o : OpS) (ua : Option Addr) (uc : Nat) (da : Option Addr) (dc : Nat) : HP := HP.one b (.cells (o.vals ua uc da dc) 156)
abbrev OU (o : OpS) (ua : Option Addr) : HP := RoI ua o.us.length o.us
abbrev OD (o : OpS) (da : Option Addr) : HP := RoB da o.cell.data.length o.cell.data
def OpS.small (o : OpS) : Prop := o.us.length ≤ 1000000000 ∧ o.cell.data.length ≤ 140737488355328
def ORep (b : Nat) (o : OpS) : HP := HP.ex fun ua => HP.ex fun uc => HP.ex fun da => HP.ex fun dc => HP.and o.small (HP.sep (OCells b o ua uc da dc) (HP.sep (OU o ua) (OD o da)))
theorem ORep.tri {f : FuncId} {args : Array Value} {b : Nat} {o : OpS} {B : Value → HP} (t : ∀ ua uc da dc, o.small → Tri Try.prog f args (HP.sep (OCells b o ua uc da dc) (HP.sep (OU o ua) (OD o da))) B) : Tri Try.prog f args (ORep b o) B :=
  Tri.ex fun ua => Tri.ex fun uc => Tri.ex fun da => Tri.ex fun dc => Tri.pure fun h => t ua uc da dc h
theorem ORep.tri2 {f : FuncId} {args : Array Value} {b : Nat} {o : OpS} {K : HP} {B : Value → HP} (t : ∀ ua uc da dc, o.small → Tri Try.prog f args (HP.sep (OCells b o ua uc da dc) (HP.sep (OU o ua) (HP.sep (OD o da) K))) B) : Tri Try.prog f args (HP.sep (ORep b o) K) B := by
  refine (Tri.ex fun ua => Tri.ex fun uc => Tri.ex fun da => Tri.ex fun dc => Tri.pure (φ := o.small) fun h => t ua uc da dc h).weak ?_ (fun _ _ _ h => h)
  rintro R h ⟨h1, h2, d, l1, l2, ⟨ua, uc, da, dc, e, H⟩, HK⟩
  refine ⟨ua, uc, da, dc, e, ?_⟩
  have := HP.sep_assoc ⟨h1, h2, d, l1, l2, H, HK⟩
  exact HP.sep_mono this (fun _ h => h) fun y hy => HP.sep_assoc hy
theorem twin_ok (S : HP) (w : Int) (a : Option Addr) (n c : Nat) (l : List UInt8) (hr : RdL S a n (l.map u8v)) (hl : l.length = n) (hb : n ≤ 140737488355328) :
    Tri Try.prog 91 #[.agg #[.int .i64 w, .slice a n c]] S (fun v => HP.ex fun a' => HP.ex fun c' => HP.and (v = .agg #[.int .i64 w, .slice a' n c']) (HP.sep (RoB a' n l) S)) := by
  refine tri_of_tree (ρ := [.i w, .a a, .n n, .n c, .p S]) mixed Try.func91 tree_twin ?_
  unfold t_twin
  simp only [T.den, E.prop, E.den, RX.look, F1.app, F2.app, Uni.int_i, Uni.nat_n, Uni.bool_c, Uni.str_s, Uni.adr_a, Uni.val_v, Uni.hp_p, hden, cden, V.den, W.den, A.den, BR.den, SA.den, FV.den, capV, exs, exP, allP, Cur.app, List.map_cons, List.map_nil, List.cons_append, List.nil_append, List.drop_succ_cons, List.drop_zero, List.length_cons, List.length_nil, Nat.zero_add, Nat.reduceAdd, Int.neg_neg, Bool.not_not, List.append_nil, Nat.add_zero, List.getElem?_cons_zero, List.getElem?_cons_succ, Decidable.not_not]
  intro x y
  refine (bclone_ok S a n c l hr hl hb).weak (fun _ _ h => h) ?_
  rintro v R h ⟨a', c', rfl, H⟩
  exact ⟨a', n, c', RoB a' n l, rfl, .of fun R h H => ⟨a', c', rfl, HP.sep_comm H⟩, H⟩
theorem same17_ok (w1 : Int) (a : Option Addr) (n c : Nat) (la : List UInt8) (w2 : Int) (b : Option Addr) (m d : Nat) (lb : List UInt8) (Sa Sb : HP) (hA : RdL Sa a n (la.map u8v)) (hB : RdL Sb b m (lb.map u8v)) (hla : la.length = n) (hlb : lb.length = m) :
    Tri Try.prog 128 #[.agg #[.int .i64 w1, .slice a n c], .agg #[.int .i64 w2, .slice b m d]] (HP.sep Sa Sb) (fun v => HP.and (v = .bool (decide (w1 = w2 ∧ la = lb))) (HP.sep Sa Sb)) := by
  refine tri_of_tree (ρ := [.i w1, .a a, .n n, .n c, .p Sa, .i w2, .a b, .n m, .n d, .p Sb]) mixed Try.func128 tree_same17 ?_
  unfold t_same17
  simp only [T.den, E.prop, E.den, RX.look, F1.app, F2.app, Uni.int_i, Uni.nat_n, Uni.bool_c, Uni.str_s, Uni.adr_a, Uni.val_v, Uni.hp_p, hden, cden, V.den, W.den, A.den, BR.den, SA.den, FV.den, capV, exs, exP, allP, Cur.app, List.map_cons, List.map_nil, List.cons_append, List.nil_append, List.drop_succ_cons, List.drop_zero, List.length_cons, List.length_nil, Nat.zero_add, Nat.reduceAdd, Int.neg_neg, Bool.not_not, List.append_nil, Nat.add_zero, List.getElem?_cons_zero, List.getElem?_cons_succ, Decidable.not_not]
  refine fun x y => ⟨fun h => ?_, fun h => .of fun R h' H => ⟨by simp [h], H⟩⟩
  refine (bequal_ok a n c la b m d lb Sa Sb hA hB hla hlb).weak (fun _ _ h => h) ?_
  rintro v R h' ⟨rfl, H⟩
  exact ⟨_, rfl, .of fun R h' H => ⟨by simp [h], H⟩, H⟩
section
variable (b : Nat) (o : OpS)
abbrev OpS.rho (ua : Option Addr) (uc : Nat) (da : Option Addr) (dc : Nat) : Env := [.n b, .i o.at', .i o.state, .i o.low, .a ua, .n o.us.length, .n uc, .p (OU o ua), .i o.step, .i o.place, .i o.cell.what, .a da, .n o.cell.data.length, .n dc, .p (OD o da)]
theorem cState_ok : Tri Try.prog 52 #[.pointer (some ⟨b, 0, none⟩)] (ORep b o) (fun v => HP.and (v = .int .i64 o.state) (ORep b o)) := by
  refine ORep.tri fun ua uc da dc hs => ?_
  refine tri_of_tree (ρ := OpS.rho b o ua uc da dc) mixed Try.func52 tree_cState ?_
  unfold t_cState OpS.rho
  simp only [T.den, E.prop, E.den, RX.look, F1.app, F2.app, Uni.int_i, Uni.nat_n, Uni.bool_c, Uni.str_s, Uni.adr_a, Uni.val_v, Uni.hp_p, hden, cden, V.den, W.den, A.den, BR.den, SA.den, FV.den, capV, exs, exP, allP, Cur.app, List.map_cons, List.map_nil, List.cons_append, List.nil_append, List.drop_succ_cons, List.drop_zero, List.length_cons, List.length_nil, Nat.zero_add, Nat.reduceAdd, Int.neg_neg, Bool.not_not, List.append_nil, Nat.add_zero, List.getElem?_cons_zero, List.getElem?_cons_succ, Decidable.not_not]
  exact .of fun R h H => ⟨trivial, ua, uc, da, dc, hs, H⟩
theorem cAt_ok : Tri Try.prog 54 #[.pointer (some ⟨b, 0, none⟩)] (ORep b o) (fun v => HP.and (v = .int .i64 o.at') (ORep b o)) := by
  refine ORep.tri fun ua uc da dc hs => ?_
  refine tri_of_tree (ρ := OpS.rho b o ua uc da dc) mixed Try.func54 tree_cAt ?_
  unfold t_cAt OpS.rho
  simp only [T.den, E.prop, E.den, RX.look, F1.app, F2.app, Uni.int_i, Uni.nat_n, Uni.bool_c, Uni.str_s, Uni.adr_a, Uni.val_v, Uni.hp_p, hden, cden, V.den, W.den, A.den, BR.den, SA.den, FV.den, capV, exs, exP, allP, Cur.app, List.map_cons, List.map_nil, List.cons_append, List.nil_append, List.drop_succ_cons, List.drop_zero, List.length_cons, List.length_nil, Nat.zero_add, Nat.reduceAdd, Int.neg_neg, Bool.not_not, List.append_nil, Nat.add_zero, List.getElem?_cons_zero, List.getElem?_cons_succ, Decidable.not_not]
  exact .of fun R h H => ⟨trivial, ua, uc, da, dc, hs, H⟩
theorem cLow_ok : Tri Try.prog 56 #[.pointer (some ⟨b, 0, none⟩)] (ORep b o) (fun v => HP.and (v = .int .i64 o.low) (ORep b o)) := by
  refine ORep.tri fun ua uc da dc hs => ?_
  refine tri_of_tree (ρ := OpS.rho b o ua uc da dc) mixed Try.func56 tree_cLow ?_
  unfold t_cLow OpS.rho
  simp only [T.den, E.prop, E.den, RX.look, F1.app, F2.app, Uni.int_i, Uni.nat_n, Uni.bool_c, Uni.str_s, Uni.adr_a, Uni.val_v, Uni.hp_p, hden, cden, V.den, W.den, A.den, BR.den, SA.den, FV.den, capV, exs, exP, allP, Cur.app, List.map_cons, List.map_nil, List.cons_append, List.nil_append, List.drop_succ_cons, List.drop_zero, List.length_cons, List.length_nil, Nat.zero_add, Nat.reduceAdd, Int.neg_neg, Bool.not_not, List.append_nil, Nat.add_zero, List.getElem?_cons_zero, List.getElem?_cons_succ, Decidable.not_not]
  exact .of fun R h H => ⟨trivial, ua, uc, da, dc, hs, H⟩
/-- What an Op asks for. -/
def kindC (o : OpS) : Int := if o.step = 1 ∨ o.step = 2 then 2 else 1
theorem cKindRaw_ok (ua : Option Addr) (uc : Nat) (da : Option Addr) (dc : Nat) (Uc Dc : HP) : Tri Try.prog 93 #[.pointer (some ⟨b, 0, none⟩)] (HP.sep (OCells b o ua uc da dc) (HP.sep Uc Dc)) (fun v => HP.and (v = .int .i64 (kindC o)) (HP.sep (OCells b o ua uc da dc) (HP.sep Uc Dc))) := by
  refine tri_of_tree (ρ := [.n b, .i o.at', .i o.state, .i o.low, .a ua, .n o.us.length, .n uc, .p Uc, .i o.step, .i o.place, .i o.cell.what, .a da, .n o.cell.data.length, .n dc, .p Dc]) mixed Try.func93 tree_cKind ?_
  unfold t_cKind
  simp only [T.den, E.prop, E.den, RX.look, F1.app, F2.app, Uni.int_i, Uni.nat_n, Uni.bool_c, Uni.str_s, Uni.adr_a, Uni.val_v, Uni.hp_p, hden, cden, V.den, W.den, A.den, BR.den, SA.den, FV.den, capV, exs, exP, allP, Cur.app, List.map_cons, List.map_nil, List.cons_append, List.nil_append, List.drop_succ_cons, List.drop_zero, List.length_cons, List.length_nil, Nat.zero_add, Nat.reduceAdd, Int.neg_neg, Bool.not_not, List.append_nil, Nat.add_zero, List.getElem?_cons_zero, List.getElem?_cons_succ, Decidable.not_not]
  refine ⟨fun h => .of fun R y H => ⟨by simp [kindC, h], H⟩, fun h => ⟨fun h2 => .of fun R y H => ⟨by simp [kindC, h2], H⟩, fun h2 => .of fun R y H => ⟨by simp [kindC, h, h2], H⟩⟩⟩
/-- What stands there, when it is done. -/
def doneC (o : OpS) : CellS := if o.state = 2 then o.cell else ⟨0, []⟩
theorem cCell_ok : Tri Try.prog 53 #[.pointer (some ⟨b, 0, none⟩)] (ORep b o) (fun v => HP.ex fun a' => HP.ex fun c' => HP.and (v = .agg #[.int .i64 (doneC o).what, .slice a' (doneC o).data.length c']) (HP.sep (RoB a' (doneC o).data.length (doneC o).data) (ORep b o))) := by
  refine ORep.tri fun ua uc da dc hs => ?_
  refine tri_of_tree (ρ := OpS.rho b o ua uc da dc) mixed Try.func53 tree_cCell ?_
  unfold t_cCell OpS.rho
  simp only [T.den, E.prop, E.den, RX.look, F1.app, F2.app, Uni.int_i, Uni.nat_n, Uni.bool_c, Uni.str_s, Uni.adr_a, Uni.val_v, Uni.hp_p, hden, cden, V.den, W.den, A.den, BR.den, SA.den, FV.den, capV, exs, exP, allP, Cur.app, List.map_cons, List.map_nil, List.cons_append, List.nil_append, List.drop_succ_cons, List.drop_zero, List.length_cons, List.length_nil, Nat.zero_add, Nat.reduceAdd, Int.neg_neg, Bool.not_not, List.append_nil, Nat.add_zero, List.getElem?_cons_zero, List.getElem?_cons_succ, Decidable.not_not]
  refine fun x => ⟨fun h => .of fun R y H => ⟨none, 0, by simp [doneC, h], ?_⟩, fun h => ?_⟩
  · have e : doneC o = ⟨0, []⟩ := by simp [doneC, h]
    rw [e]
    exact RoC.join (RoB0 none : (RoB none 0 []).p R y) ⟨ua, uc, da, dc, hs, H⟩
  · have e : doneC o = o.cell := by simp [doneC, h]
    rw [e]
    refine (twin_ok (OD o da) o.cell.what da _ dc o.cell.data (RdL.ro _ _ _ _) rfl hs.2).weak (fun _ _ h => h) ?_
    rintro v R h ⟨a', c', rfl, H⟩
    refine ⟨_, a', _, c', RoB a' o.cell.data.length o.cell.data, rfl, .of fun R h H => ⟨a', c', rfl, ?_⟩, H⟩
    have H1 := HP.pick [_, _, _, _] [3, 0, 1, 2] (by decide) rfl H
    exact HP.sep_mono H1 (fun _ h => h) fun y hy => ⟨ua, uc, da, dc, hs, hy⟩
end
end Go.Proofs.Ytmibmjehjagmbaa

/- Contracts of a chain's Op: what it asks, what it is told, how it begins. No condition. -/
namespace Go.Proofs.Ytmibmjehjagmbaa
set_option linter.unusedSimpArgs false
set_option linter.unusedVariables false
open Go.Proofs.Ytmibmjehjagmbaa RX

section
variable (b : Nat) (o : OpS)
/-- The cell that an Op asks with. -/
def askX (o : OpS) : CellS := if o.state = 1 then (if o.step = 0 then o.cell else if o.step = 3 then ⟨2, []⟩ else ⟨0, []⟩) else ⟨0, []⟩
theorem cAsk_ok (hp : o.state = 1 → 0 ≤ o.place ∧ o.place < o.us.length) : Tri Try.prog 92 #[.pointer (some ⟨b, 0, none⟩)] (ORep b o)
    (fun v => HP.ex fun a' => HP.ex fun c' => HP.and (v = .tuple #[.int .i64 (if o.state = 1 then (o.us[o.place.toNat]?).getD 0 else 0), .int .i64 (if o.state = 1 then kindC o else 0), .agg #[.int .i64 (askX o).what, .slice a' (askX o).data.length c'], .bool (decide (o.state = 1))])
      (HP.sep (RoB a' (askX o).data.length (askX o).data) (ORep b o))) := by
  refine ORep.tri fun ua uc da dc hs => ?_
  refine Tri.fact (φ := o.us.length ≠ 0 → ua.isSome = true) (fun R h H hn => RoC.some (HP.sep_left (HP.sep_right H)) (by omega)) fun hua => ?_
  refine tri_of_tree (ρ := OpS.rho b o ua uc da dc) mixed Try.func92 tree_cAsk ?_
  unfold t_cAsk OpS.rho
  simp only [T.den, E.prop, E.den, RX.look, F1.app, F2.app, Uni.int_i, Uni.nat_n, Uni.bool_c, Uni.str_s, Uni.adr_a, Uni.val_v, Uni.hp_p, hden, cden, V.den, W.den, A.den, BR.den, SA.den, FV.den, capV, exs, exP, allP, Cur.app, List.map_cons, List.map_nil, List.cons_append, List.nil_append, List.drop_succ_cons, List.drop_zero, List.length_cons, List.length_nil, Nat.zero_add, Nat.reduceAdd, Int.neg_neg, Bool.not_not, List.append_nil, Nat.add_zero, List.getElem?_cons_zero, List.getElem?_cons_succ, Decidable.not_not]
  intro x
  refine ⟨fun h => .of fun R y H => ⟨none, 0, by simp [askX, h], ?_⟩, fun h1 => ?_⟩
  · have e : askX o = ⟨0, []⟩ := by simp [askX, h]
    rw [e]
    exact RoC.join (RoB0 none : (RoB none 0 []).p R y) ⟨ua, uc, da, dc, hs, H⟩
  obtain ⟨p1, p2⟩ := hp h1
  have hlt : o.place.toNat < o.us.length := by omega
  have hg : (o.us.map i64v)[o.place.toNat * 1 + 0]? = some (i64v o.us[o.place.toNat]) := by simp [hlt]
  have rd := load1_ok undIb aggI szI (RoC.rd 1 ua o.us.length (o.us.map i64v)) hg
  have kd := fun Dc => cKindRaw_ok b o ua uc da dc (OU o ua) Dc
  have hget : (o.us[o.place.toNat]?).getD 0 = o.us[o.place.toNat] := by simp [hlt]
  refine ⟨fun h0 => ?_, fun h0 => ⟨fun h3 => ?_, fun h3 => ?_⟩⟩
  · have e : askX o = o.cell := by simp [askX, h1, h0]
    rw [e, if_pos h1, if_pos h1, hget, decide_eq_true h1]
    refine (twin_ok (OD o da) o.cell.what da _ dc o.cell.data (RdL.ro _ _ _ _) rfl hs.2).weak (fun _ _ h => h) ?_
    rintro v R h ⟨a', c', rfl, H⟩
    refine ⟨_, a', _, c', RoB a' o.cell.data.length o.cell.data, rfl, ?_, H⟩
    clear H
    repeat' (first
      | refine ⟨p1, fun _ => ?_⟩
      | refine ⟨p2, fun _ => ?_⟩
      | refine ⟨hua (by omega), fun _ => ?_⟩
      | refine ⟨_, rd, ?_⟩
      | (refine (kd _).weak (fun _ _ h => h) ?_; rintro v R h ⟨rfl, H⟩; refine ⟨_, rfl, ?_, H⟩; clear H)
      | exact .of fun R y H => ⟨a', c', rfl, HP.sep_mono (HP.pick [_, _, _, _] [3, 0, 1, 2] (by decide) rfl H) (fun _ h => h) fun y hy => ⟨ua, uc, da, dc, hs, hy⟩⟩
      | refine ⟨?_, ?_⟩)
  · have e : askX o = ⟨2, []⟩ := by simp [askX, h1, h0, h3]
    rw [e, if_pos h1, if_pos h1, hget, decide_eq_true h1]
    repeat' (first
      | refine ⟨p1, fun _ => ?_⟩
      | refine ⟨p2, fun _ => ?_⟩
      | refine ⟨hua (by omega), fun _ => ?_⟩
      | refine ⟨_, rd, ?_⟩
      | (refine (kd _).weak (fun _ _ h => h) ?_; rintro v R h ⟨rfl, H⟩; refine ⟨_, rfl, ?_, H⟩; clear H)
      | exact .of fun R y H => ⟨none, 0, rfl, RoC.join (RoB0 none : (RoB none 0 []).p R y) ⟨ua, uc, da, dc, hs, H⟩⟩
      | refine ⟨?_, ?_⟩)
  · have e : askX o = ⟨0, []⟩ := by simp [askX, h1, h0, h3]
    rw [e, if_pos h1, if_pos h1, hget, decide_eq_true h1]
    repeat' (first
      | refine ⟨p1, fun _ => ?_⟩
      | refine ⟨p2, fun _ => ?_⟩
      | refine ⟨hua (by omega), fun _ => ?_⟩
      | refine ⟨_, rd, ?_⟩
      | (refine (kd _).weak (fun _ _ h => h) ?_; rintro v R h ⟨rfl, H⟩; refine ⟨_, rfl, ?_, H⟩; clear H)
      | exact .of fun R y H => ⟨none, 0, rfl, RoC.join (RoB0 none : (RoB none 0 []).p R y) ⟨ua, uc, da, dc, hs, H⟩⟩
      | refine ⟨?_, ?_⟩)
end
end Go.Proofs.Ytmibmjehjagmbaa

/- Contracts of a chain's Op: what it is told. No condition. -/
namespace Go.Proofs.Ytmibmjehjagmbaa
set_option linter.unusedSimpArgs false
set_option linter.unusedVariables false
open Go.Proofs.Ytmibmjehjagmbaa RX

/-- A cell is to be written from a place on. -/
def writeC (o : OpS) (pl : Int) (x : CellS) : OpS := { o with step := 0, place := pl, cell := x, state := if (o.us.length : Int) ≤ pl then 2 else o.state }
theorem cWrite_ok (b : Nat) (o : OpS) (ua : Option Addr) (uc : Nat) (da : Option Addr) (dc : Nat) (Dc : HP) (pl w : Int) (a : Option Addr) (n c : Nat) (l : List UInt8) (S : HP) (hu : o.us.length ≤ 1000000000) (hr : RdL S a n (l.map u8v)) (hl : l.length = n) (hb : n ≤ 140737488355328) :
    Tri Try.prog 129 #[.pointer (some ⟨b, 0, none⟩), .int .i64 pl, .agg #[.int .i64 w, .slice a n c]] (HP.sep (OCells b o ua uc da dc) (HP.sep (OU o ua) (HP.sep Dc S)))
    (fun v => HP.and (v = .tuple #[]) (HP.ex fun da' => HP.ex fun dc' => HP.sep (OCells b (writeC o pl ⟨w, l⟩) ua uc da' dc') (HP.sep (OU o ua) (HP.sep (RoB da' n l) (HP.sep (OU o ua) (HP.sep Dc S)))))) := by
  refine tri_of_tree (ρ := [.n b, .i o.at', .i o.state, .i o.low, .a ua, .n o.us.length, .n uc, .p (OU o ua), .i o.step, .i o.place, .i o.cell.what, .a da, .n o.cell.data.length, .n dc, .p Dc, .i pl, .i w, .a a, .n n, .n c, .p S]) mixed Try.func129 tree_cWrite ?_
  unfold t_cWrite
  simp only [T.den, E.prop, E.den, RX.look, F1.app, F2.app, Uni.int_i, Uni.nat_n, Uni.bool_c, Uni.str_s, Uni.adr_a, Uni.val_v, Uni.hp_p, hden, cden, V.den, W.den, A.den, BR.den, SA.den, FV.den, capV, exs, exP, allP, Cur.app, List.map_cons, List.map_nil, List.cons_append, List.nil_append, List.drop_succ_cons, List.drop_zero, List.length_cons, List.length_nil, Nat.zero_add, Nat.reduceAdd, Int.neg_neg, Bool.not_not, List.append_nil, Nat.add_zero, List.getElem?_cons_zero, List.getElem?_cons_succ, Decidable.not_not]
  intro x
  refine (twin_ok S w a n c l hr hl hb).weak (fun _ _ h => h) ?_
  rintro v R h ⟨a', c', rfl, H⟩
  subst hl
  refine ⟨_, a', _, c', RoB a' l.length l, rfl, ⟨fun hge => .of fun R y H => ⟨trivial, a', c', ?_⟩, fun hlt => .of fun R y H => ⟨trivial, a', c', ?_⟩⟩, H⟩
  · have e : writeC o pl ⟨w, l⟩ = ⟨o.at', 2, o.low, o.us, 0, pl, ⟨w, l⟩⟩ := by simp [writeC, hge]
    rw [e]
    exact HP.pick [_, _, _, _, _, _] [1, 2, 3, 0, 4, 5] (by decide) rfl (RoC.join (HP.sep_left (HP.sep_right H)) H)
  · have e : writeC o pl ⟨w, l⟩ = ⟨o.at', o.state, o.low, o.us, 0, pl, ⟨w, l⟩⟩ := by simp [writeC, hlt]
    rw [e]
    exact HP.pick [_, _, _, _, _, _] [1, 2, 3, 0, 4, 5] (by decide) rfl (RoC.join (HP.sep_left (HP.sep_right H)) H)
/-- .. its own cell, or one without bytes. -/
theorem cWriteS_ok (b : Nat) (o : OpS) (ua : Option Addr) (uc : Nat) (da : Option Addr) (dc : Nat) (pl : Int) (hs : o.small) :
    Tri Try.prog 129 #[.pointer (some ⟨b, 0, none⟩), .int .i64 pl, .agg #[.int .i64 o.cell.what, .slice da o.cell.data.length dc]] (HP.sep (OCells b o ua uc da dc) (HP.sep (OU o ua) (OD o da)))
    (fun v => HP.and (v = .tuple #[]) (HP.ex fun da' => HP.ex fun dc' => HP.sep (OCells b (writeC o pl o.cell) ua uc da' dc') (HP.sep (OU o ua) (HP.sep (OD o da') (HP.sep (OU o ua) (OD o da)))))) := by
  refine (cWrite_ok b o ua uc da dc HP.tt pl o.cell.what da _ dc o.cell.data (OD o da) hs.1 (RdL.ro _ _ _ _) rfl hs.2).weak (fun R h H => ?_) fun v R h ⟨e, da', dc', H⟩ => ⟨e, da', dc', ?_⟩
  · exact HP.sep_mono H (fun _ h => h) fun y hy => HP.sep_mono hy (fun _ h => h) fun z hz => HP.tt_sep hz
  · exact HP.pick [_, _, _, _, _, _] [0, 1, 2, 3, 5] (by decide) rfl H
theorem cWriteJ_ok (b : Nat) (o : OpS) (ua : Option Addr) (uc : Nat) (da : Option Addr) (dc : Nat) (pl w : Int) (hs : o.small) :
    Tri Try.prog 129 #[.pointer (some ⟨b, 0, none⟩), .int .i64 pl, .agg #[.int .i64 w, .slice none 0 0]] (HP.sep (OCells b o ua uc da dc) (HP.sep (OU o ua) (OD o da)))
    (fun v => HP.and (v = .tuple #[]) (HP.ex fun da' => HP.ex fun dc' => HP.sep (OCells b (writeC o pl ⟨w, []⟩) ua uc da' dc') (HP.sep (OU o ua) (HP.sep (RoB da' 0 []) (HP.sep (OU o ua) (OD o da)))))) := by
  refine (cWrite_ok b o ua uc da dc (OD o da) pl w none 0 0 [] (RoB none 0 []) hs.1 (RdL.ro _ _ _ _) rfl (by omega)).weak (fun R h H => ?_) fun v R h ⟨e, da', dc', H⟩ => ⟨e, da', dc', ?_⟩
  · exact HP.sep_mono H (fun _ h => h) fun y hy => HP.sep_mono hy (fun _ h => h) fun z hz => RoC.joinR (RoB0 none : (RoB none 0 []).p R z) hz
  · exact HP.pick [_, _, _, _, _, _] [0, 1, 2, 3, 4] (by decide) rfl H
/-- What a unit's answer makes of an Op. -/
def goOnC (o : OpS) (err : Int) (x : CellS) : OpS :=
  if o.step = 0 ∧ (err = 0 ∨ (err = 10 ∧ x.what = o.cell.what ∧ x.data = o.cell.data)) then writeC o (o.place + 1) o.cell
  else if o.step = 1 ∧ err = 0 then { o with cell := x, state := 2 }
  else if o.step = 1 ∧ err = 9 then { o with step := if o.us.length = 1 then 3 else 2, place := 0 }
  else if o.step = 2 ∧ err = 0 then writeC o 1 x
  else if o.step = 2 ∧ err = 9 then { o with step := 3 }
  else if o.step = 3 ∧ err = 0 then writeC o 1 ⟨2, []⟩
  else if o.step = 3 ∧ err = 10 then writeC o 1 x
  else { o with state := 3 }
/-- .. a reply. -/
def toldC (o : OpS) (m : MS) : OpS :=
  if o.state ≠ 1 then o else if m.kind ≠ kindC o then o
  else if m.err = 0 ∨ m.err = 10 ∨ m.err = 9 then goOnC o m.err m.cell
  else if m.err = 11 then { o with state := 4, low := m.low }
  else if m.err = 8 then { o with state := 5 }
  else if m.err = 4 then { o with state := 6 }
  else { o with state := 3 }
def mRho (m : MS) (ca : Option Addr) (cc : Nat) (va : Option Addr) (vc : Nat) : Env := [.i m.fr, .i m.to, .i m.num, .c m.rep, .i m.kind, .i m.ep, .i m.at', .i m.cell.what, .a ca, .n m.cell.data.length, .n cc, .p (m.Dro ca), .i m.br, .i m.bw, .a va, .n m.val.length, .n vc, .p (m.Vro va), .i m.err, .i m.tail, .i m.low, .i m.back]
set_option maxHeartbeats 1000000 in
theorem cGoOn_ok (b : Nat) (o : OpS) (ua : Option Addr) (uc : Nat) (da : Option Addr) (dc : Nat) (m : MS) (ca : Option Addr) (cc : Nat) (va : Option Addr) (vc : Nat) (hs : o.small) (hp : 0 ≤ o.place ∧ o.place ≤ 1000000000) (hm : m.cell.data.length ≤ 140737488355328) :
    Tri Try.prog 94 #[.pointer (some ⟨b, 0, none⟩), .agg (m.raw ca cc va vc).vals] (HP.sep (OCells b o ua uc da dc) (HP.sep (OU o ua) (HP.sep (OD o da) (HP.sep (m.Dro ca) (m.Vro va)))))
    (fun v => HP.and (v = .tuple #[]) (HP.ex fun da' => HP.ex fun dc' => HP.sep (OCells b (goOnC o m.err m.cell) ua uc da' dc') (HP.sep (OU o ua) (HP.sep (OD (goOnC o m.err m.cell) da') (HP.sep (OU o ua) (HP.sep (OD o da) (HP.sep (m.Dro ca) (m.Vro va)))))))) := by
  refine tri_of_tree (ρ := OpS.rho b o ua uc da dc ++ mRho m ca cc va vc) mixed Try.func94 tree_cGoOn ?_
  unfold t_cGoOn OpS.rho mRho
  simp only [T.den, E.prop, E.den, RX.look, F1.app, F2.app, Uni.int_i, Uni.nat_n, Uni.bool_c, Uni.str_s, Uni.adr_a, Uni.val_v, Uni.hp_p, hden, cden, V.den, W.den, A.den, BR.den, SA.den, FV.den, capV, exs, exP, allP, Cur.app, List.map_cons, List.map_nil, List.cons_append, List.nil_append, List.drop_succ_cons, List.drop_zero, List.length_cons, List.length_nil, Nat.zero_add, Nat.reduceAdd, Int.neg_neg, Bool.not_not, List.append_nil, Nat.add_zero, List.getElem?_cons_zero, List.getElem?_cons_succ, Decidable.not_not]
  intro x
  obtain ⟨hp1, hp2⟩ := hp
  have hs1 := hs.1
  repeat' (first
    | (exfalso; omega)
    | refine ⟨fun _ => ?_, fun _ => ?_⟩
    | refine ⟨inI64 _ (by omega) (by omega), fun _ => ?_⟩
    | (refine (same17_ok m.cell.what ca _ cc m.cell.data o.cell.what da _ dc o.cell.data (m.Dro ca) (OD o da) (RdL.ro _ _ _ _) (RdL.ro _ _ _ _) rfl rfl).weak (fun _ _ h => h) ?_
       rintro v R h ⟨rfl, H⟩
       refine ⟨_, rfl, ?_, H⟩
       clear H
       simp only [decide_eq_true_eq])
    | fail)
  all_goals first
    | (have e : goOnC o m.err m.cell = { o with state := 3 } := by simp [goOnC, *]
       exact .of fun R y H => ⟨trivial, da, dc, by rw [e]; exact HP.pick [_, _, _, _, _, _, _] [2, 3, 4, 1, 0, 5, 6] (by decide) rfl (RoC.join (HP.sep_left (HP.sep_right (HP.sep_right H))) (RoC.join (HP.sep_left (HP.sep_right H)) H))⟩)
    | (have e : goOnC o m.err m.cell = { o with step := 3, place := 0 } := by simp [goOnC, *] <;> omega
       exact .of fun R y H => ⟨trivial, da, dc, by rw [e]; exact HP.pick [_, _, _, _, _, _, _] [2, 3, 4, 1, 0, 5, 6] (by decide) rfl (RoC.join (HP.sep_left (HP.sep_right (HP.sep_right H))) (RoC.join (HP.sep_left (HP.sep_right H)) H))⟩)
    | (have e : goOnC o m.err m.cell = { o with step := 2, place := 0 } := by simp [goOnC, *] <;> omega
       exact .of fun R y H => ⟨trivial, da, dc, by rw [e]; exact HP.pick [_, _, _, _, _, _, _] [2, 3, 4, 1, 0, 5, 6] (by decide) rfl (RoC.join (HP.sep_left (HP.sep_right (HP.sep_right H))) (RoC.join (HP.sep_left (HP.sep_right H)) H))⟩)
    | (have e : goOnC o m.err m.cell = { o with step := 3 } := by simp [goOnC, *]
       exact .of fun R y H => ⟨trivial, da, dc, by rw [e]; exact HP.pick [_, _, _, _, _, _, _] [2, 3, 4, 1, 0, 5, 6] (by decide) rfl (RoC.join (HP.sep_left (HP.sep_right (HP.sep_right H))) (RoC.join (HP.sep_left (HP.sep_right H)) H))⟩)
    | (have e : goOnC o m.err m.cell = writeC o (o.place + 1) o.cell := by simp [goOnC, *]
       rw [e]
       refine (cWriteS_ok b o ua uc da dc (o.place + 1) hs).weak (fun _ _ h => h) ?_
       rintro v R h ⟨rfl, da', dc', H⟩
       exact ⟨_, _, _, ua, _, uc, OU o ua, _, _, _, da', _, dc', OD o da', rfl, .of fun R y H => ⟨trivial, da', dc', H⟩, H⟩)
    | (have e : goOnC o m.err m.cell = writeC o 1 ⟨2, []⟩ := by simp [goOnC, *]
       rw [e]
       refine (cWriteJ_ok b o ua uc da dc 1 2 hs).weak (fun _ _ h => h) ?_
       rintro v R h ⟨rfl, da', dc', H⟩
       exact ⟨_, _, _, ua, _, uc, OU o ua, _, _, _, da', _, dc', RoB da' 0 [], rfl, .of fun R y H => ⟨trivial, da', dc', H⟩, H⟩)
    | (have e : goOnC o m.err m.cell = writeC o 1 m.cell := by simp [goOnC, *]
       rw [e]
       refine (cWrite_ok b o ua uc da dc (OD o da) 1 m.cell.what ca _ cc m.cell.data (m.Dro ca) hs.1 (RdL.ro _ _ _ _) rfl hm).weak (fun _ _ h => h) ?_
       rintro v R h ⟨rfl, da', dc', H⟩
       exact ⟨_, _, _, ua, _, uc, OU o ua, _, _, _, da', _, dc', RoB da' _ m.cell.data, rfl, .of fun R y H => ⟨trivial, da', dc', H⟩, H⟩)
    | (have e : goOnC o m.err m.cell = { o with cell := m.cell, state := 2 } := by simp [goOnC, *]
       rw [e]
       refine (twin_ok (m.Dro ca) m.cell.what ca _ cc m.cell.data (RdL.ro _ _ _ _) rfl hm).weak (fun _ _ h => h) ?_
       rintro v R h ⟨a', c', rfl, H⟩
       refine ⟨_, a', _, c', RoB a' m.cell.data.length m.cell.data, rfl, .of fun R y H => ⟨trivial, a', c', ?_⟩, H⟩
       exact HP.pick [_, _, _, _, _, _, _] [1, 2, 3, 0, 4, 5, 6] (by decide) rfl (RoC.join (HP.sep_left (HP.sep_right H)) H))
set_option maxHeartbeats 1000000 in
theorem cTold_ok (b : Nat) (o : OpS) (m : MS) (ca : Option Addr) (cc : Nat) (va : Option Addr) (vc : Nat) (hp : 0 ≤ o.place ∧ o.place ≤ 1000000000) (hm : m.cell.data.length ≤ 140737488355328) :
    Tri Try.prog 55 #[.pointer (some ⟨b, 0, none⟩), .agg (m.raw ca cc va vc).vals] (HP.sep (ORep b o) (HP.sep (m.Dro ca) (m.Vro va)))
    (fun v => HP.and (v = .tuple #[]) (HP.sep (ORep b (toldC o m)) (HP.sep (m.Dro ca) (m.Vro va)))) := by
  refine ORep.tri2 fun ua uc da dc hs => ?_
  refine tri_of_tree (ρ := OpS.rho b o ua uc da dc ++ mRho m ca cc va vc) mixed Try.func55 tree_cTold ?_
  unfold t_cTold OpS.rho mRho
  simp only [T.den, E.prop, E.den, RX.look, F1.app, F2.app, Uni.int_i, Uni.nat_n, Uni.bool_c, Uni.str_s, Uni.adr_a, Uni.val_v, Uni.hp_p, hden, cden, V.den, W.den, A.den, BR.den, SA.den, FV.den, capV, exs, exP, allP, Cur.app, List.map_cons, List.map_nil, List.cons_append, List.nil_append, List.drop_succ_cons, List.drop_zero, List.length_cons, List.length_nil, Nat.zero_add, Nat.reduceAdd, Int.neg_neg, Bool.not_not, List.append_nil, Nat.add_zero, List.getElem?_cons_zero, List.getElem?_cons_succ, Decidable.not_not]
  intro x
  have done : ∀ (o' : OpS) (da' : Option Addr) (dc' : Nat) (R h : PH), o'.small → o'.us = o.us → (HP.sep (HP.one b (.cells (o'.vals ua uc da' dc') 156)) (HP.sep (OU o ua) (HP.sep (OD o' da') (HP.sep (m.Dro ca) (m.Vro va))))).p R h → (HP.sep (ORep b o') (HP.sep (m.Dro ca) (m.Vro va))).p R h := fun o' da' dc' R h hs' hu H => by
    have H1 : (HP.sep (HP.sep (HP.one b (.cells (o'.vals ua uc da' dc') 156)) (HP.sep (OU o ua) (OD o' da'))) (HP.sep (m.Dro ca) (m.Vro va))).p R h := HP.sep_assoc' (HP.sep_mono H (fun _ h => h) fun y hy => HP.sep_assoc' hy)
    refine HP.sep_mono H1 (fun y hy => ⟨ua, uc, da', dc', hs', ?_⟩) fun _ h => h
    rw [show OU o' ua = OU o ua by unfold OU; rw [hu]]
    exact hy
  have smallG : (goOnC o m.err m.cell).small ∧ (goOnC o m.err m.cell).us = o.us := by
    unfold goOnC writeC OpS.small
    repeat' split
    all_goals exact ⟨⟨hs.1, by first | exact hs.2 | exact hm | simp⟩, rfl⟩
  have lone : ∀ (o' : OpS) (R h : PH), toldC o m = o' → o'.small → o'.us = o.us → o'.cell = o.cell → (HP.sep (HP.one b (.cells (o'.vals ua uc da dc) 156)) (HP.sep (OU o ua) (HP.sep (OD o da) (HP.sep (m.Dro ca) (m.Vro va))))).p R h → (HP.and True (HP.sep (ORep b (toldC o m)) (HP.sep (m.Dro ca) (m.Vro va)))).p R h := fun o' R h e hs' hu hc H => by
    refine ⟨trivial, ?_⟩
    rw [e]
    exact done o' da dc R h hs' hu (by unfold OD at H ⊢; rw [hc]; exact H)
  refine ⟨fun h1 => .of fun R y H => lone o R y (by simp [toldC, h1]) hs rfl rfl H, fun h1 => ?_⟩
  refine (cKindRaw_ok b o ua uc da dc (OU o ua) (OD o da)).weak (fun _ _ h => h) ?_
  rintro v R h ⟨rfl, H⟩
  refine ⟨_, rfl, ?_, H⟩
  clear H
  refine ⟨fun hk => .of fun R y H => lone o R y (by simp [toldC, h1, hk]) hs rfl rfl H, fun hk => ?_⟩
  have goes : (m.err = 0 ∨ m.err = 10 ∨ m.err = 9) → ∀ (B : Value → HP),
      (∀ (da' : Option Addr) (dc' : Nat) R h, (HP.sep (OCells b (goOnC o m.err m.cell) ua uc da' dc') (HP.sep (OU o ua) (HP.sep (OD (goOnC o m.err m.cell) da') (HP.sep (OU o ua) (HP.sep (OD o da) (HP.sep (m.Dro ca) (m.Vro va))))))).p R h → (B (.tuple #[])).p R h) →
      Tri Try.prog 94 #[.pointer (some ⟨b, 0, none⟩), .agg (m.raw ca cc va vc).vals] (HP.sep (OCells b o ua uc da dc) (HP.sep (OU o ua) (HP.sep (OD o da) (HP.sep (m.Dro ca) (m.Vro va))))) B := fun _ B hB =>
    (cGoOn_ok b o ua uc da dc m ca cc va vc hs hp hm).weak (fun _ _ h => h) fun v R h ⟨e, da', dc', H⟩ => by subst e; exact hB da' dc' R h H
  have fin : (m.err = 0 ∨ m.err = 10 ∨ m.err = 9) → ∀ (da' : Option Addr) (dc' : Nat) (R y : PH), (HP.sep (HP.one b (.cells ((goOnC o m.err m.cell).vals ua uc da' dc') 156)) (HP.sep (OU o ua) (HP.sep (OD (goOnC o m.err m.cell) da') (HP.sep (OU o ua) (HP.sep (OD o da) (HP.sep (m.Dro ca) (m.Vro va))))))).p R y → (HP.and True (HP.sep (ORep b (toldC o m)) (HP.sep (m.Dro ca) (m.Vro va)))).p R y := fun he da' dc' R y H => by
    refine ⟨trivial, ?_⟩
    have e : toldC o m = goOnC o m.err m.cell := by simp only [toldC]; rw [if_neg (by simpa using h1), if_neg (by simpa using hk), if_pos he]
    rw [e]
    exact done _ da' dc' R y smallG.1 smallG.2 (HP.pick [_, _, _, _, _, _, _] [0, 1, 2, 5, 6] (by decide) rfl H)
  have hus := smallG.2
  refine ⟨fun h0 => ?_, fun h0 => ⟨fun h10 => ?_, fun h10 => ⟨fun h9 => ?_, fun h9 => ⟨fun h11 => ?_, fun h11 => ⟨fun h8 => ?_, fun h8 => ⟨fun h4 => ?_, fun h4 => ?_⟩⟩⟩⟩⟩⟩
  · refine goes (.inl h0) _ fun da' dc' R h H => ⟨_, _, _, ua, _, uc, OU o ua, _, _, _, da', _, dc', OD _ da', rfl, .of fun R y H => fin (.inl h0) da' dc' R y H, H⟩
  · refine goes (.inr (.inl h10)) _ fun da' dc' R h H => ⟨_, _, _, ua, _, uc, OU o ua, _, _, _, da', _, dc', OD _ da', rfl, .of fun R y H => fin (.inr (.inl h10)) da' dc' R y H, H⟩
  · refine goes (.inr (.inr h9)) _ fun da' dc' R h H => ⟨_, _, _, ua, _, uc, OU o ua, _, _, _, da', _, dc', OD _ da', rfl, .of fun R y H => fin (.inr (.inr h9)) da' dc' R y H, H⟩
  · exact .of fun R y H => lone { o with state := 4, low := m.low } R y (by simp [toldC, h1, hk, h11]) hs rfl rfl H
  · exact .of fun R y H => lone { o with state := 5 } R y (by simp [toldC, h1, hk, h8]) hs rfl rfl H
  · exact .of fun R y H => lone { o with state := 6 } R y (by simp [toldC, h1, hk, h4]) hs rfl rfl H
  · exact .of fun R y H => lone { o with state := 3 } R y (by simp [toldC, h1, hk, h0, h10, h9, h11, h8, h4]) hs rfl rfl H
end Go.Proofs.Ytmibmjehjagmbaa

/- Contracts of a chain's Op: how it begins. No condition. -/
namespace Go.Proofs.Ytmibmjehjagmbaa
set_option linter.unusedSimpArgs false
set_option linter.unusedVariables false
open Go.Proofs.Ytmibmjehjagmbaa RX

def beginC (at' : Int) (us : List Int) : OpS := ⟨at', if us.length = 0 then 3 else 1, 0, us, 0, 0, ⟨0, []⟩⟩
theorem begin_ok (at' : Int) (a : Option Addr) (n c : Nat) (us : List Int) (S : HP) (hr : RdL S a n (us.map i64v)) (hl : us.length = n) (hb : n ≤ 1000000000) :
    Tri Try.prog 90 #[.int .i64 at', .slice a n c] S
    (fun v => HP.ex fun b => HP.ex fun ua => HP.ex fun uc => HP.and (v = .pointer (some ⟨b, 0, none⟩)) (HP.sep S (HP.sep (OCells b (beginC at' us) ua uc none 0) (RoI ua n us)))) := by
  refine tri_of_tree (ρ := [.i at', .a a, .n n, .n c, .p S]) mixed Try.func90 tree_begin ?_
  unfold t_begin
  simp only [T.den, E.prop, E.den, RX.look, F1.app, F2.app, Uni.int_i, Uni.nat_n, Uni.bool_c, Uni.str_s, Uni.adr_a, Uni.val_v, Uni.hp_p, hden, cden, V.den, W.den, A.den, BR.den, SA.den, FV.den, capV, exs, exP, allP, Cur.app, List.map_cons, List.map_nil, List.cons_append, List.nil_append, List.drop_succ_cons, List.drop_zero, List.length_cons, List.length_nil, Nat.zero_add, Nat.reduceAdd, Int.neg_neg, Bool.not_not, List.append_nil, Nat.add_zero, List.getElem?_cons_zero, List.getElem?_cons_succ, Decidable.not_not]
  refine (cloneI_ok S a n c us hr hl hb).weak (fun _ _ h => h) ?_
  rintro v R h ⟨ua, uc, rfl, H⟩
  subst hl
  refine ⟨ua, _, uc, RoI ua us.length us, rfl, fun b => ⟨fun h0 => .of fun R y H => ⟨b, ua, uc, rfl, ?_⟩, fun h0 => .of fun R y H => ⟨b, ua, uc, rfl, ?_⟩⟩, H⟩
  · have e : beginC at' us = ⟨at', 3, 0, us, 0, 0, ⟨0, []⟩⟩ := by
      have : us.length = 0 := by omega
      simp [beginC, this]
    rw [e]
    exact H
  · have e : beginC at' us = ⟨at', 1, 0, us, 0, 0, ⟨0, []⟩⟩ := by
      have : ¬ us.length = 0 := by omega
      simp [beginC, this]
    rw [e]
    exact H
theorem infoCell : (Try.prog.info? 32).map (fun i => (i.zero, i.size, i.bytes)) = some (some (.agg #[.int .i64 0, .slice none 0 0]), 2, 32) := by kernel_rfl
theorem storeI_ok (b : Nat) (cs : Array Value) (e : TypeId) (off : Nat) (x : Int) (hk : off + 1 ≤ cs.size) : OTri Try.prog (storeS 3 (.pointer (some ⟨b, off, none⟩)) (.int .i64 x)) (HP.one b (.cells cs e (0, 0))) (fun v => HP.and (v = .tuple #[]) (HP.one b (.cells (cs.toList.take off ++ [Value.int .i64 x] ++ cs.toList.drop (off + 1)).toArray e (0, 0)))) := by
  obtain ⟨i, hi, h1, h2, h3⟩ := info_parts infoInt
  exact storeOne_ok hi e b cs off (.int .i64 x) [.int .i64 x] rfl (by rw [h2]; rfl) (by simp) (fun v hv => by simp at hv; subst hv; rfl) (by simpa using hk) (by unfold maxLen; omega)
theorem storeX_ok (b : Nat) (cs : Array Value) (e : TypeId) (off : Nat) (w : Int) (a : Option Addr) (n c : Nat) (hk : off + 2 ≤ cs.size) : OTri Try.prog (storeS 32 (.pointer (some ⟨b, off, none⟩)) (.agg #[.int .i64 w, .slice a n c])) (HP.one b (.cells cs e (0, 0))) (fun v => HP.and (v = .tuple #[]) (HP.one b (.cells (cs.toList.take off ++ [Value.int .i64 w, Value.slice a n c] ++ cs.toList.drop (off + 2)).toArray e (0, 0)))) := by
  obtain ⟨i, hi, h1, h2, h3⟩ := info_parts infoCell
  exact storeOne_ok hi e b cs off (.agg #[.int .i64 w, .slice a n c]) [.int .i64 w, .slice a n c] (by first | rfl | simp [Value.cells]) (by rw [h2]; rfl) (by simp) (fun v hv => by simp at hv; rcases hv with rfl | rfl <;> rfl) (by simpa using hk) (by unfold maxLen; omega)
theorem semOf_storeC {ρ : Env} {i : Nat} {t ty : TypeId} {u : V} {x : Value} : semOf ρ (.store t (.tmp i) (.const x)) ty [(i, u)] = storeS t (u.den ρ) x := by
  simp [semOf, execOp, arEval, storeS]
theorem cAppend_ok (at' : Int) (a : Option Addr) (n c : Nat) (us : List Int) (S : HP) (hr : RdL S a n (us.map i64v)) (hl : us.length = n) (hb : n ≤ 1000000000)
    (w : Int) (xa : Option Addr) (xn xc : Nat) (l : List UInt8) (Sx : HP) (hx : RdL Sx xa xn (l.map u8v)) (hxl : l.length = xn) (hxb : xn ≤ 140737488355328) :
    Tri Try.prog 50 #[.int .i64 at', .slice a n c, .agg #[.int .i64 w, .slice xa xn xc]] (HP.sep S Sx)
    (fun v => HP.ex fun b => HP.and (v = .pointer (some ⟨b, 0, none⟩)) (HP.sep S (HP.sep Sx (ORep b { beginC at' us with cell := ⟨w, l⟩ })))) := by
  refine tri_of_tree (ρ := [.i at', .a a, .n n, .n c, .p S, .i w, .a xa, .n xn, .n xc, .p Sx]) mixed Try.func50 tree_cAppend ?_
  unfold t_cAppend
  simp only [T.den, E.prop, E.den, RX.look, F1.app, F2.app, Uni.int_i, Uni.nat_n, Uni.bool_c, Uni.str_s, Uni.adr_a, Uni.val_v, Uni.hp_p, hden, cden, V.den, W.den, A.den, BR.den, SA.den, FV.den, capV, exs, exP, allP, Cur.app, List.map_cons, List.map_nil, List.cons_append, List.nil_append, List.drop_succ_cons, List.drop_zero, List.length_cons, List.length_nil, Nat.zero_add, Nat.reduceAdd, Int.neg_neg, Bool.not_not, List.append_nil, Nat.add_zero, List.getElem?_cons_zero, List.getElem?_cons_succ, Decidable.not_not]
  intro x
  refine (begin_ok at' a n c us S hr hl hb).weak (fun _ _ h => h) ?_
  rintro v R h ⟨b, ua, uc, rfl, H⟩
  subst hl
  refine ⟨b, HP.sep (OCells b (beginC at' us) ua uc none 0) (RoI ua us.length us), rfl, ?_, HP.sep_comm H⟩
  clear H
  refine (twin_ok Sx w xa xn xc l hx hxl hxb).weak (fun _ _ h => h) ?_
  rintro v R h ⟨da, dc, rfl, H⟩
  subst hxl
  refine ⟨_, da, _, dc, RoB da l.length l, rfl, ?_, H⟩
  clear H
  rw [semOf_storeC]
  simp only [T.den, E.prop, E.den, RX.look, F1.app, F2.app, Uni.int_i, Uni.nat_n, Uni.bool_c, Uni.str_s, Uni.adr_a, Uni.val_v, Uni.hp_p, hden, cden, V.den, W.den, A.den, BR.den, SA.den, FV.den, capV, exs, exP, allP, Cur.app, List.map_cons, List.map_nil, List.cons_append, List.nil_append, List.drop_succ_cons, List.drop_zero, List.length_cons, List.length_nil, Nat.zero_add, Nat.reduceAdd, Int.neg_neg, Bool.not_not, List.append_nil, Nat.add_zero, List.getElem?_cons_zero, List.getElem?_cons_succ, Decidable.not_not]
  refine ((storeI_ok b (OpS.vals (beginC at' us) ua uc none 0) _ 4 0 (of_decide_eq_true rfl)).frame (RoI ua us.length us)).weak (fun _ _ h => h) ?_
  rintro v R h ⟨h1, h2, d, l1, l2, ⟨rfl, H⟩, HU⟩
  refine ⟨HP.sep (OCells b (beginC at' us) ua uc none 0) (RoI ua us.length us), rfl, ?_, ⟨h1, h2, d, l1, l2, H, HU⟩⟩
  clear H HU
  rw [semOf_store (by decide)]
  simp only [T.den, E.prop, E.den, RX.look, F1.app, F2.app, Uni.int_i, Uni.nat_n, Uni.bool_c, Uni.str_s, Uni.adr_a, Uni.val_v, Uni.hp_p, hden, cden, V.den, W.den, A.den, BR.den, SA.den, FV.den, capV, exs, exP, allP, Cur.app, List.map_cons, List.map_nil, List.cons_append, List.nil_append, List.drop_succ_cons, List.drop_zero, List.length_cons, List.length_nil, Nat.zero_add, Nat.reduceAdd, Int.neg_neg, Bool.not_not, List.append_nil, Nat.add_zero, List.getElem?_cons_zero, List.getElem?_cons_succ, Decidable.not_not]
  let o : OpS := { beginC at' us with cell := ⟨w, l⟩ }
  refine (((storeX_ok b (OpS.vals (beginC at' us) ua uc none 0) _ 6 w da l.length dc (of_decide_eq_true rfl)).frame (RoI ua us.length us)).frame (RoB da l.length l)).weak (fun _ _ h => h) ?_
  rintro v R h ⟨h1, h2, d, l1, l2, ⟨h3, h4, d', l3, l4, ⟨rfl, H⟩, HU⟩, HD⟩
  have H1 : (HP.sep (HP.sep (OCells b o ua uc da dc) (RoI ua us.length us)) (RoB da l.length l)).p R h := ⟨h1, h2, d, l1, l2, ⟨h3, h4, d', l3, l4, H, HU⟩, HD⟩
  refine ⟨ORep b o, rfl, .of fun R y H => ⟨b, rfl, H⟩, ?_⟩
  exact RoC.joinR (HP.sep_right H1) ⟨ua, uc, da, dc, ⟨hb, hxb⟩, HP.sep_assoc H1⟩
theorem cResolve_ok (at' : Int) (a : Option Addr) (n c : Nat) (us : List Int) (S : HP) (hr : RdL S a n (us.map i64v)) (hl : us.length = n) (hb : n ≤ 1000000000) :
    Tri Try.prog 49 #[.int .i64 at', .slice a n c] S
    (fun v => HP.ex fun b => HP.and (v = .pointer (some ⟨b, 0, none⟩)) (HP.sep S (ORep b { beginC at' us with step := 1, place := (n : Int) - 1 }))) := by
  refine tri_of_tree (ρ := [.i at', .a a, .n n, .n c, .p S]) mixed Try.func49 tree_cResolve ?_
  unfold t_cResolve
  simp only [T.den, E.prop, E.den, RX.look, F1.app, F2.app, Uni.int_i, Uni.nat_n, Uni.bool_c, Uni.str_s, Uni.adr_a, Uni.val_v, Uni.hp_p, hden, cden, V.den, W.den, A.den, BR.den, SA.den, FV.den, capV, exs, exP, allP, Cur.app, List.map_cons, List.map_nil, List.cons_append, List.nil_append, List.drop_succ_cons, List.drop_zero, List.length_cons, List.length_nil, Nat.zero_add, Nat.reduceAdd, Int.neg_neg, Bool.not_not, List.append_nil, Nat.add_zero, List.getElem?_cons_zero, List.getElem?_cons_succ, Decidable.not_not]
  refine (begin_ok at' a n c us S hr hl hb).weak (fun _ _ h => h) ?_
  rintro v R h ⟨b, ua, uc, rfl, H⟩
  subst hl
  refine ⟨b, HP.sep (OCells b (beginC at' us) ua uc none 0) (RoI ua us.length us), rfl, ⟨inI64 _ (by omega) (by omega), fun _ => ?_⟩, HP.sep_comm H⟩
  clear H
  rw [semOf_storeC]
  simp only [T.den, E.prop, E.den, RX.look, F1.app, F2.app, Uni.int_i, Uni.nat_n, Uni.bool_c, Uni.str_s, Uni.adr_a, Uni.val_v, Uni.hp_p, hden, cden, V.den, W.den, A.den, BR.den, SA.den, FV.den, capV, exs, exP, allP, Cur.app, List.map_cons, List.map_nil, List.cons_append, List.nil_append, List.drop_succ_cons, List.drop_zero, List.length_cons, List.length_nil, Nat.zero_add, Nat.reduceAdd, Int.neg_neg, Bool.not_not, List.append_nil, Nat.add_zero, List.getElem?_cons_zero, List.getElem?_cons_succ, Decidable.not_not]
  refine ((storeI_ok b (OpS.vals (beginC at' us) ua uc none 0) _ 4 1 (of_decide_eq_true rfl)).frame (RoI ua us.length us)).weak (fun _ _ h => h) ?_
  rintro v R h ⟨h1, h2, d, l1, l2, ⟨rfl, H⟩, HU⟩
  let o1 : OpS := { beginC at' us with step := 1 }
  refine ⟨HP.sep (OCells b o1 ua uc none 0) (RoI ua us.length us), rfl, ?_, ⟨h1, h2, d, l1, l2, H, HU⟩⟩
  clear H HU
  rw [semOf_store (by decide)]
  simp only [T.den, E.prop, E.den, RX.look, F1.app, F2.app, Uni.int_i, Uni.nat_n, Uni.bool_c, Uni.str_s, Uni.adr_a, Uni.val_v, Uni.hp_p, hden, cden, V.den, W.den, A.den, BR.den, SA.den, FV.den, capV, exs, exP, allP, Cur.app, List.map_cons, List.map_nil, List.cons_append, List.nil_append, List.drop_succ_cons, List.drop_zero, List.length_cons, List.length_nil, Nat.zero_add, Nat.reduceAdd, Int.neg_neg, Bool.not_not, List.append_nil, Nat.add_zero, List.getElem?_cons_zero, List.getElem?_cons_succ, Decidable.not_not]
  let o : OpS := { beginC at' us with step := 1, place := (us.length : Int) - 1 }
  refine ((storeI_ok b (OpS.vals o1 ua uc none 0) _ 5 _ (of_decide_eq_true rfl)).frame (RoI ua us.length us)).weak (fun _ _ h => h) ?_
  rintro v R h ⟨h1, h2, d, l1, l2, ⟨rfl, H⟩, HU⟩
  have H1 : (HP.sep (OCells b o ua uc none 0) (RoI ua us.length us)).p R h := ⟨h1, h2, d, l1, l2, H, HU⟩
  refine ⟨ORep b o, rfl, .of fun R y H => ⟨b, rfl, H⟩, ?_⟩
  exact ⟨ua, uc, none, 0, ⟨hb, by show 0 ≤ _; omega⟩, HP.sep_mono H1 (fun _ h => h) fun y hy => RoC.joinR (RoB0 none : (RoB none 0 []).p R y) hy⟩
end Go.Proofs.Ytmibmjehjagmbaa

/- Trees of functions, printed by rx.lean. No condition. -/
namespace Go.Proofs.Ytmibmjehjagmbaa.RX
set_option maxRecDepth 100000
-- tideline/tidelinelaw17.laid: ρ := [.i n]
def t_laid17 : T :=
(.new
(.loop [.a, .n, .n, .p, .a, .n, .n, .i, .p] [(.a .nil), (.e (.o2 .nadd (.n 0) (.n 0))), (.e (.o2 .nadd (.n 0) (.n 0))), (.p []), (.a (.b (.v 1) 0)), (.e (.o2 .nadd (.n 0) (.n 0))), (.e (.o2 .nadd (.n 0) (.n 0))), (.e (.o1 .neg (.o1 .neg (.i 0)))), (.p [((.b (.v 1)), (.cells [] 26))])]
 (.br (.o2 .lt (.v 9) (.v 0))
  (.call 23 [(.a (.int .i64 (.i 400)))] [] [.n, .p, .i] (.tup [(.a (.ptr (.v 11) 0)), (.a (.int .i64 (.v 13)))]) [((.b (.v 11)), (.prop 12))]
  (.br (.o1 .not (.o2 .eq (.v 13) (.i 0)))
   (.ret (.w (.a (.sl .nil (.n 0) (.n 0)))) [])
   (.call 17 [(.a (.ptr (.v 11) 0))] [((.b (.v 11)), (.prop 12))] [.n, .p, .i, .p] (.tup [(.a (.ptr (.v 14) 0)), (.a (.int .i64 (.v 16)))]) [((.b (.v 14)), (.prop 15)), ((.b (.v 11)), (.prop 17))]
   (.br (.o1 .not (.o2 .eq (.v 16) (.i 0)))
    (.ret (.w (.a (.sl .nil (.n 0) (.n 0)))) [])
    (.new
    (.op (.call ⟨.builtin .append, #[(.tmp 36), (.tmp 38)], #[52, 52]⟩) 52 [(36, (.w (.a (.sl (.v 6) (.v 7) (.v 8))))), (38, (.w (.a (.sl (.b (.v 18) 0) (.n 1) (.n 1)))))] [((.a 6), (.prop 10)), ((.b (.v 18)), (.cells [(.ptr (.v 14) 0)] 26)), ((.b (.v 14)), (.prop 15)), ((.b (.v 11)), (.prop 17))] [.a, .n, .n, .p] (.w (.a (.sl (.v 19) (.v 20) (.v 21)))) [((.a 19), (.prop 22))]
    (.need (.o1 (.inr .i64) (.o2 .add (.v 9) (.i 1)))
    (.again 0 [(.a (.v 2)), (.e (.o2 .nadd (.v 3) (.n 0))), (.e (.o2 .nadd (.v 4) (.n 0))), (.p [((.a 2), (.prop 5))]), (.a (.v 19)), (.e (.o2 .nadd (.v 20) (.n 0))), (.e (.o2 .nadd (.v 21) (.n 0))), (.e (.o1 .neg (.o1 .neg (.o2 .add (.v 9) (.i 1))))), (.p [((.a 19), (.prop 22))])]))))))))
  (.ret (.w (.a (.sl (.v 6) (.v 7) (.v 8)))) [((.a 6), (.prop 10))]))))
theorem tree_laid17 : tree Try.prog { absT := [], opq := [], hv := [(0, [(.b (.v 1))])], keep := [52, 54, 53, 56, 92, 21, 50, 49], link := [(17, 0)], ent := [], turn := [(45, [0]), (55, [0])], shr := [], vt := [], mkd := [], rlink := [], pty := [], outl := true, stay := [], snk := [] } Try.f48 [(.a (.int .i64 (.v 0)))] [] 1 = t_laid17 := by kernel_rfl
-- tideline/tidelinelaw17.ask: ρ := [.n o, .p oP, .a unitsa, .n unitsl, .n unitsc, .p unitsP]
def t_ask17 : T :=
(.call 92 [(.a (.ptr (.v 0) 0))] [((.b (.v 0)), (.prop 1))] [.i, .i, .i, .a, .n, .n, .p, .c] (.tup [(.a (.int .i64 (.v 6))), (.a (.int .i64 (.v 7))), (.agg [(.int .i64 (.v 8)), (.sl (.v 9) (.v 10) (.v 11))]), (.a (.bool (.v 13)))]) [((.a 9), (.prop 12)), ((.b (.v 0)), (.prop 1))]
(.new
(.br (.o1 .not (.v 13))
 (.ret (.w (.a (.bool (.c false)))) [((.b (.v 0)), (.prop 1)), ((.a 2), (.prop 5))])
 (.br (.o2 .lt (.v 6) (.i 0))
  (.ret (.w (.a (.bool (.c false)))) [((.b (.v 0)), (.prop 1)), ((.a 2), (.prop 5))])
  (.br (.o2 .le (.o1 .ofNat (.v 3)) (.v 6))
   (.ret (.w (.a (.bool (.c false)))) [((.b (.v 0)), (.prop 1)), ((.a 2), (.prop 5))])
   (.need (.o2 .le (.i 0) (.v 6))
   (.need (.o2 .lt (.v 6) (.o1 .ofNat (.v 3)))
   (.need (.o1 .isSome (.v 2))
   (.all
    (.op (.load 26 (.tmp 33)) 26 [(33, (.w (.a (.eptr 2 (.v 6) 1 0))))] [((.a 2), (.prop 5))] [.n, .p, .p] (.w (.a (.ptr (.v 15) 0))) [((.b (.v 15)), (.prop 16)), ((.a 2), (.prop 17))]
    (.all
     (.call 54 [(.a (.ptr (.v 0) 0))] [((.b (.v 0)), (.prop 1))] [.i] (.w (.a (.int .i64 (.v 18)))) [((.b (.v 0)), (.prop 1))]
     (.all
      (.all
       (.call 45 [(.a (.ptr (.v 15) 0)), (.agg [(.int .i64 (.i 0)), (.int .i64 (.i 0)), (.int .i64 (.i 0)), (.bool (.c false)), (.int .i64 (.v 7)), (.int .i64 (.i 0)), (.int .i64 (.v 18)), (.int .i64 (.v 8)), (.sl (.v 9) (.v 10) (.v 11)), (.int .i64 (.i 0)), (.int .i64 (.i 0)), (.sl .nil (.n 0) (.n 0)), (.int .i64 (.i 0)), (.int .i64 (.i 0)), (.int .i64 (.i 0)), (.int .i64 (.i 0))])] [((.b (.v 15)), (.prop 16)), ((.a 9), (.prop 12))] [.i, .i, .i, .c, .i, .i, .i, .i, .a, .n, .n, .p, .i, .i, .a, .n, .n, .p, .i, .i, .i, .i, .c, .p] (.tup [(.agg [(.int .i64 (.v 19)), (.int .i64 (.v 20)), (.int .i64 (.v 21)), (.bool (.v 22)), (.int .i64 (.v 23)), (.int .i64 (.v 24)), (.int .i64 (.v 25)), (.int .i64 (.v 26)), (.sl (.v 27) (.v 28) (.v 29)), (.int .i64 (.v 31)), (.int .i64 (.v 32)), (.sl (.v 33) (.v 34) (.v 35)), (.int .i64 (.v 37)), (.int .i64 (.v 38)), (.int .i64 (.v 39)), (.int .i64 (.v 40))]), (.a (.bool (.v 41)))]) [((.a 27), (.prop 30)), ((.a 33), (.prop 36)), ((.b (.v 15)), (.prop 42)), ((.a 9), (.prop 12))]
       (.new
       (.br (.v 41)
        (.call 55 [(.a (.ptr (.v 0) 0)), (.agg [(.int .i64 (.v 19)), (.int .i64 (.v 20)), (.int .i64 (.v 21)), (.bool (.v 22)), (.int .i64 (.v 23)), (.int .i64 (.v 24)), (.int .i64 (.v 25)), (.int .i64 (.v 26)), (.sl (.v 27) (.v 28) (.v 29)), (.int .i64 (.v 31)), (.int .i64 (.v 32)), (.sl (.v 33) (.v 34) (.v 35)), (.int .i64 (.v 37)), (.int .i64 (.v 38)), (.int .i64 (.v 39)), (.int .i64 (.v 40))])] [((.b (.v 0)), (.prop 1)), ((.a 27), (.prop 30)), ((.a 33), (.prop 36))] [.p] (.tup []) [((.b (.v 0)), (.prop 44)), ((.a 27), (.prop 30)), ((.a 33), (.prop 36))]
        (.ret (.w (.a (.bool (.v 41)))) [((.b (.v 0)), (.prop 44)), ((.a 2), (.prop 17)), ((.b (.v 15)), (.prop 42))]))
        (.ret (.w (.a (.bool (.v 41)))) [((.b (.v 0)), (.prop 1)), ((.a 2), (.prop 17)), ((.b (.v 15)), (.prop 42))]))))
       (.new
       (.call 45 [(.a (.ptr (.v 15) 0)), (.agg [(.int .i64 (.i 0)), (.int .i64 (.i 0)), (.int .i64 (.i 0)), (.bool (.c false)), (.int .i64 (.v 7)), (.int .i64 (.i 0)), (.int .i64 (.v 18)), (.int .i64 (.v 8)), (.sl (.v 9) (.v 10) (.v 11)), (.int .i64 (.i 0)), (.int .i64 (.i 0)), (.sl .nil (.n 0) (.n 0)), (.int .i64 (.i 0)), (.int .i64 (.i 0)), (.int .i64 (.i 0)), (.int .i64 (.i 0))])] [((.b (.v 15)), (.prop 16)), ((.a 9), (.prop 12))] [.i, .i, .i, .c, .i, .i, .i, .i, .a, .n, .n, .p, .i, .i, .a, .n, .n, .p, .i, .i, .i, .i, .c, .p] (.tup [(.agg [(.int .i64 (.v 20)), (.int .i64 (.v 21)), (.int .i64 (.v 22)), (.bool (.v 23)), (.int .i64 (.v 24)), (.int .i64 (.v 25)), (.int .i64 (.v 26)), (.int .i64 (.v 27)), (.sl (.v 28) (.v 29) (.v 30)), (.int .i64 (.v 32)), (.int .i64 (.v 33)), (.sl (.v 34) (.v 35) (.v 36)), (.int .i64 (.v 38)), (.int .i64 (.v 39)), (.int .i64 (.v 40)), (.int .i64 (.v 41))]), (.a (.bool (.v 42)))]) [((.a 28), (.prop 31)), ((.a 34), (.prop 37)), ((.b (.v 15)), (.prop 43)), ((.a 9), (.prop 12))]
       (.br (.v 42)
        (.call 55 [(.a (.ptr (.v 0) 0)), (.agg [(.int .i64 (.v 20)), (.int .i64 (.v 21)), (.int .i64 (.v 22)), (.bool (.v 23)), (.int .i64 (.v 24)), (.int .i64 (.v 25)), (.int .i64 (.v 26)), (.int .i64 (.v 27)), (.sl (.v 28) (.v 29) (.v 30)), (.int .i64 (.v 32)), (.int .i64 (.v 33)), (.sl (.v 34) (.v 35) (.v 36)), (.int .i64 (.v 38)), (.int .i64 (.v 39)), (.int .i64 (.v 40)), (.int .i64 (.v 41))])] [((.b (.v 0)), (.prop 1)), ((.a 28), (.prop 31)), ((.a 34), (.prop 37))] [.p] (.tup []) [((.b (.v 0)), (.prop 44)), ((.a 28), (.prop 31)), ((.a 34), (.prop 37))]
        (.ret (.w (.a (.bool (.v 42)))) [((.b (.v 0)), (.prop 44)), ((.a 2), (.prop 17)), ((.b (.v 15)), (.prop 43))]))
        (.ret (.w (.a (.bool (.v 42)))) [((.b (.v 0)), (.prop 1)), ((.a 2), (.prop 17)), ((.b (.v 15)), (.prop 43))])))))
      (.new
      (.call 45 [(.a (.ptr (.v 15) 0)), (.agg [(.int .i64 (.i 0)), (.int .i64 (.i 0)), (.int .i64 (.i 0)), (.bool (.c false)), (.int .i64 (.v 7)), (.int .i64 (.i 0)), (.int .i64 (.v 18)), (.int .i64 (.v 8)), (.sl (.v 9) (.v 10) (.v 11)), (.int .i64 (.i 0)), (.int .i64 (.i 0)), (.sl .nil (.n 0) (.n 0)), (.int .i64 (.i 0)), (.int .i64 (.i 0)), (.int .i64 (.i 0)), (.int .i64 (.i 0))])] [((.b (.v 15)), (.prop 16)), ((.a 9), (.prop 12))] [.i, .i, .i, .c, .i, .i, .i, .i, .a, .n, .n, .p, .i, .i, .a, .n, .n, .p, .i, .i, .i, .i, .c, .p] (.tup [(.agg [(.int .i64 (.v 20)), (.int .i64 (.v 21)), (.int .i64 (.v 22)), (.bool (.v 23)), (.int .i64 (.v 24)), (.int .i64 (.v 25)), (.int .i64 (.v 26)), (.int .i64 (.v 27)), (.sl (.v 28) (.v 29) (.v 30)), (.int .i64 (.v 32)), (.int .i64 (.v 33)), (.sl (.v 34) (.v 35) (.v 36)), (.int .i64 (.v 38)), (.int .i64 (.v 39)), (.int .i64 (.v 40)), (.int .i64 (.v 41))]), (.a (.bool (.v 42)))]) [((.a 28), (.prop 31)), ((.a 34), (.prop 37)), ((.b (.v 15)), (.prop 43)), ((.a 9), (.prop 12))]
      (.br (.v 42)
       (.call 55 [(.a (.ptr (.v 0) 0)), (.agg [(.int .i64 (.v 20)), (.int .i64 (.v 21)), (.int .i64 (.v 22)), (.bool (.v 23)), (.int .i64 (.v 24)), (.int .i64 (.v 25)), (.int .i64 (.v 26)), (.int .i64 (.v 27)), (.sl (.v 28) (.v 29) (.v 30)), (.int .i64 (.v 32)), (.int .i64 (.v 33)), (.sl (.v 34) (.v 35) (.v 36)), (.int .i64 (.v 38)), (.int .i64 (.v 39)), (.int .i64 (.v 40)), (.int .i64 (.v 41))])] [((.b (.v 0)), (.prop 1)), ((.a 28), (.prop 31)), ((.a 34), (.prop 37))] [.p] (.tup []) [((.b (.v 0)), (.prop 44)), ((.a 28), (.prop 31)), ((.a 34), (.prop 37))]
       (.ret (.w (.a (.bool (.v 42)))) [((.b (.v 0)), (.prop 44)), ((.a 2), (.prop 17)), ((.b (.v 15)), (.prop 43))]))
       (.ret (.w (.a (.bool (.v 42)))) [((.b (.v 0)), (.prop 1)), ((.a 2), (.prop 17)), ((.b (.v 15)), (.prop 43))]))))))
     (.new
     (.call 54 [(.a (.ptr (.v 0) 0))] [((.b (.v 0)), (.prop 1))] [.i] (.w (.a (.int .i64 (.v 19)))) [((.b (.v 0)), (.prop 1))]
     (.call 45 [(.a (.ptr (.v 15) 0)), (.agg [(.int .i64 (.i 0)), (.int .i64 (.i 0)), (.int .i64 (.i 0)), (.bool (.c false)), (.int .i64 (.v 7)), (.int .i64 (.i 0)), (.int .i64 (.v 19)), (.int .i64 (.v 8)), (.sl (.v 9) (.v 10) (.v 11)), (.int .i64 (.i 0)), (.int .i64 (.i 0)), (.sl .nil (.n 0) (.n 0)), (.int .i64 (.i 0)), (.int .i64 (.i 0)), (.int .i64 (.i 0)), (.int .i64 (.i 0))])] [((.b (.v 15)), (.prop 16)), ((.a 9), (.prop 12))] [.i, .i, .i, .c, .i, .i, .i, .i, .a, .n, .n, .p, .i, .i, .a, .n, .n, .p, .i, .i, .i, .i, .c, .p] (.tup [(.agg [(.int .i64 (.v 20)), (.int .i64 (.v 21)), (.int .i64 (.v 22)), (.bool (.v 23)), (.int .i64 (.v 24)), (.int .i64 (.v 25)), (.int .i64 (.v 26)), (.int .i64 (.v 27)), (.sl (.v 28) (.v 29) (.v 30)), (.int .i64 (.v 32)), (.int .i64 (.v 33)), (.sl (.v 34) (.v 35) (.v 36)), (.int .i64 (.v 38)), (.int .i64 (.v 39)), (.int .i64 (.v 40)), (.int .i64 (.v 41))]), (.a (.bool (.v 42)))]) [((.a 28), (.prop 31)), ((.a 34), (.prop 37)), ((.b (.v 15)), (.prop 43)), ((.a 9), (.prop 12))]
     (.br (.v 42)
      (.call 55 [(.a (.ptr (.v 0) 0)), (.agg [(.int .i64 (.v 20)), (.int .i64 (.v 21)), (.int .i64 (.v 22)), (.bool (.v 23)), (.int .i64 (.v 24)), (.int .i64 (.v 25)), (.int .i64 (.v 26)), (.int .i64 (.v 27)), (.sl (.v 28) (.v 29) (.v 30)), (.int .i64 (.v 32)), (.int .i64 (.v 33)), (.sl (.v 34) (.v 35) (.v 36)), (.int .i64 (.v 38)), (.int .i64 (.v 39)), (.int .i64 (.v 40)), (.int .i64 (.v 41))])] [((.b (.v 0)), (.prop 1)), ((.a 28), (.prop 31)), ((.a 34), (.prop 37))] [.p] (.tup []) [((.b (.v 0)), (.prop 44)), ((.a 28), (.prop 31)), ((.a 34), (.prop 37))]
      (.ret (.w (.a (.bool (.v 42)))) [((.b (.v 0)), (.prop 44)), ((.a 2), (.prop 17)), ((.b (.v 15)), (.prop 43))]))
      (.ret (.w (.a (.bool (.v 42)))) [((.b (.v 0)), (.prop 1)), ((.a 2), (.prop 17)), ((.b (.v 15)), (.prop 43))])))))))
    (.all
     (.call 54 [(.a (.ptr (.v 0) 0))] [((.b (.v 0)), (.prop 1))] [.i] (.w (.a (.int .i64 (.v 15)))) [((.b (.v 0)), (.prop 1))]
     (.all
      (.op (.load 26 (.tmp 33)) 26 [(33, (.w (.a (.eptr 2 (.v 6) 1 0))))] [((.a 2), (.prop 5))] [.n, .p, .p] (.w (.a (.ptr (.v 16) 0))) [((.b (.v 16)), (.prop 17)), ((.a 2), (.prop 18))]
      (.all
       (.all
        (.call 45 [(.a (.ptr (.v 16) 0)), (.agg [(.int .i64 (.i 0)), (.int .i64 (.i 0)), (.int .i64 (.i 0)), (.bool (.c false)), (.int .i64 (.v 7)), (.int .i64 (.i 0)), (.int .i64 (.v 15)), (.int .i64 (.v 8)), (.sl (.v 9) (.v 10) (.v 11)), (.int .i64 (.i 0)), (.int .i64 (.i 0)), (.sl .nil (.n 0) (.n 0)), (.int .i64 (.i 0)), (.int .i64 (.i 0)), (.int .i64 (.i 0)), (.int .i64 (.i 0))])] [((.b (.v 16)), (.prop 17)), ((.a 9), (.prop 12))] [.i, .i, .i, .c, .i, .i, .i, .i, .a, .n, .n, .p, .i, .i, .a, .n, .n, .p, .i, .i, .i, .i, .c, .p] (.tup [(.agg [(.int .i64 (.v 19)), (.int .i64 (.v 20)), (.int .i64 (.v 21)), (.bool (.v 22)), (.int .i64 (.v 23)), (.int .i64 (.v 24)), (.int .i64 (.v 25)), (.int .i64 (.v 26)), (.sl (.v 27) (.v 28) (.v 29)), (.int .i64 (.v 31)), (.int .i64 (.v 32)), (.sl (.v 33) (.v 34) (.v 35)), (.int .i64 (.v 37)), (.int .i64 (.v 38)), (.int .i64 (.v 39)), (.int .i64 (.v 40))]), (.a (.bool (.v 41)))]) [((.a 27), (.prop 30)), ((.a 33), (.prop 36)), ((.b (.v 16)), (.prop 42)), ((.a 9), (.prop 12))]
        (.new
        (.br (.v 41)
         (.call 55 [(.a (.ptr (.v 0) 0)), (.agg [(.int .i64 (.v 19)), (.int .i64 (.v 20)), (.int .i64 (.v 21)), (.bool (.v 22)), (.int .i64 (.v 23)), (.int .i64 (.v 24)), (.int .i64 (.v 25)), (.int .i64 (.v 26)), (.sl (.v 27) (.v 28) (.v 29)), (.int .i64 (.v 31)), (.int .i64 (.v 32)), (.sl (.v 33) (.v 34) (.v 35)), (.int .i64 (.v 37)), (.int .i64 (.v 38)), (.int .i64 (.v 39)), (.int .i64 (.v 40))])] [((.b (.v 0)), (.prop 1)), ((.a 27), (.prop 30)), ((.a 33), (.prop 36))] [.p] (.tup []) [((.b (.v 0)), (.prop 44)), ((.a 27), (.prop 30)), ((.a 33), (.prop 36))]
         (.ret (.w (.a (.bool (.v 41)))) [((.b (.v 0)), (.prop 44)), ((.a 2), (.prop 18)), ((.b (.v 16)), (.prop 42))]))
         (.ret (.w (.a (.bool (.v 41)))) [((.b (.v 0)), (.prop 1)), ((.a 2), (.prop 18)), ((.b (.v 16)), (.prop 42))]))))
        (.new
        (.call 45 [(.a (.ptr (.v 16) 0)), (.agg [(.int .i64 (.i 0)), (.int .i64 (.i 0)), (.int .i64 (.i 0)), (.bool (.c false)), (.int .i64 (.v 7)), (.int .i64 (.i 0)), (.int .i64 (.v 15)), (.int .i64 (.v 8)), (.sl (.v 9) (.v 10) (.v 11)), (.int .i64 (.i 0)), (.int .i64 (.i 0)), (.sl .nil (.n 0) (.n 0)), (.int .i64 (.i 0)), (.int .i64 (.i 0)), (.int .i64 (.i 0)), (.int .i64 (.i 0))])] [((.b (.v 16)), (.prop 17)), ((.a 9), (.prop 12))] [.i, .i, .i, .c, .i, .i, .i, .i, .a, .n, .n, .p, .i, .i, .a, .n, .n, .p, .i, .i, .i, .i, .c, .p] (.tup [(.agg [(.int .i64 (.v 20)), (.int .i64 (.v 21)), (.int .i64 (.v 22)), (.bool (.v 23)), (.int .i64 (.v 24)), (.int .i64 (.v 25)), (.int .i64 (.v 26)), (.int .i64 (.v 27)), (.sl (.v 28) (.v 29) (.v 30)), (.int .i64 (.v 32)), (.int .i64 (.v 33)), (.sl (.v 34) (.v 35) (.v 36)), (.int .i64 (.v 38)), (.int .i64 (.v 39)), (.int .i64 (.v 40)), (.int .i64 (.v 41))]), (.a (.bool (.v 42)))]) [((.a 28), (.prop 31)), ((.a 34), (.prop 37)), ((.b (.v 16)), (.prop 43)), ((.a 9), (.prop 12))]
        (.br (.v 42)
         (.call 55 [(.a (.ptr (.v 0) 0)), (.agg [(.int .i64 (.v 20)), (.int .i64 (.v 21)), (.int .i64 (.v 22)), (.bool (.v 23)), (.int .i64 (.v 24)), (.int .i64 (.v 25)), (.int .i64 (.v 26)), (.int .i64 (.v 27)), (.sl (.v 28) (.v 29) (.v 30)), (.int .i64 (.v 32)), (.int .i64 (.v 33)), (.sl (.v 34) (.v 35) (.v 36)), (.int .i64 (.v 38)), (.int .i64 (.v 39)), (.int .i64 (.v 40)), (.int .i64 (.v 41))])] [((.b (.v 0)), (.prop 1)), ((.a 28), (.prop 31)), ((.a 34), (.prop 37))] [.p] (.tup []) [((.b (.v 0)), (.prop 44)), ((.a 28), (.prop 31)), ((.a 34), (.prop 37))]
         (.ret (.w (.a (.bool (.v 42)))) [((.b (.v 0)), (.prop 44)), ((.a 2), (.prop 18)), ((.b (.v 16)), (.prop 43))]))
         (.ret (.w (.a (.bool (.v 42)))) [((.b (.v 0)), (.prop 1)), ((.a 2), (.prop 18)), ((.b (.v 16)), (.prop 43))])))))
       (.new
       (.call 45 [(.a (.ptr (.v 16) 0)), (.agg [(.int .i64 (.i 0)), (.int .i64 (.i 0)), (.int .i64 (.i 0)), (.bool (.c false)), (.int .i64 (.v 7)), (.int .i64 (.i 0)), (.int .i64 (.v 15)), (.int .i64 (.v 8)), (.sl (.v 9) (.v 10) (.v 11)), (.int .i64 (.i 0)), (.int .i64 (.i 0)), (.sl .nil (.n 0) (.n 0)), (.int .i64 (.i 0)), (.int .i64 (.i 0)), (.int .i64 (.i 0)), (.int .i64 (.i 0))])] [((.b (.v 16)), (.prop 17)), ((.a 9), (.prop 12))] [.i, .i, .i, .c, .i, .i, .i, .i, .a, .n, .n, .p, .i, .i, .a, .n, .n, .p, .i, .i, .i, .i, .c, .p] (.tup [(.agg [(.int .i64 (.v 20)), (.int .i64 (.v 21)), (.int .i64 (.v 22)), (.bool (.v 23)), (.int .i64 (.v 24)), (.int .i64 (.v 25)), (.int .i64 (.v 26)), (.int .i64 (.v 27)), (.sl (.v 28) (.v 29) (.v 30)), (.int .i64 (.v 32)), (.int .i64 (.v 33)), (.sl (.v 34) (.v 35) (.v 36)), (.int .i64 (.v 38)), (.int .i64 (.v 39)), (.int .i64 (.v 40)), (.int .i64 (.v 41))]), (.a (.bool (.v 42)))]) [((.a 28), (.prop 31)), ((.a 34), (.prop 37)), ((.b (.v 16)), (.prop 43)), ((.a 9), (.prop 12))]
       (.br (.v 42)
        (.call 55 [(.a (.ptr (.v 0) 0)), (.agg [(.int .i64 (.v 20)), (.int .i64 (.v 21)), (.int .i64 (.v 22)), (.bool (.v 23)), (.int .i64 (.v 24)), (.int .i64 (.v 25)), (.int .i64 (.v 26)), (.int .i64 (.v 27)), (.sl (.v 28) (.v 29) (.v 30)), (.int .i64 (.v 32)), (.int .i64 (.v 33)), (.sl (.v 34) (.v 35) (.v 36)), (.int .i64 (.v 38)), (.int .i64 (.v 39)), (.int .i64 (.v 40)), (.int .i64 (.v 41))])] [((.b (.v 0)), (.prop 1)), ((.a 28), (.prop 31)), ((.a 34), (.prop 37))] [.p] (.tup []) [((.b (.v 0)), (.prop 44)), ((.a 28), (.prop 31)), ((.a 34), (.prop 37))]
        (.ret (.w (.a (.bool (.v 42)))) [((.b (.v 0)), (.prop 44)), ((.a 2), (.prop 18)), ((.b (.v 16)), (.prop 43))]))
        (.ret (.w (.a (.bool (.v 42)))) [((.b (.v 0)), (.prop 1)), ((.a 2), (.prop 18)), ((.b (.v 16)), (.prop 43))]))))))
      (.all
       (.all
        (.op (.load 26 (.tmp 33)) 26 [(33, (.w (.a (.eptr 2 (.v 6) 1 0))))] [((.a 2), (.prop 5))] [.n, .p, .p] (.w (.a (.ptr (.v 16) 0))) [((.b (.v 16)), (.prop 17)), ((.a 2), (.prop 18))]
        (.all
         (.call 45 [(.a (.ptr (.v 16) 0)), (.agg [(.int .i64 (.i 0)), (.int .i64 (.i 0)), (.int .i64 (.i 0)), (.bool (.c false)), (.int .i64 (.v 7)), (.int .i64 (.i 0)), (.int .i64 (.v 15)), (.int .i64 (.v 8)), (.sl (.v 9) (.v 10) (.v 11)), (.int .i64 (.i 0)), (.int .i64 (.i 0)), (.sl .nil (.n 0) (.n 0)), (.int .i64 (.i 0)), (.int .i64 (.i 0)), (.int .i64 (.i 0)), (.int .i64 (.i 0))])] [((.b (.v 16)), (.prop 17)), ((.a 9), (.prop 12))] [.i, .i, .i, .c, .i, .i, .i, .i, .a, .n, .n, .p, .i, .i, .a, .n, .n, .p, .i, .i, .i, .i, .c, .p] (.tup [(.agg [(.int .i64 (.v 19)), (.int .i64 (.v 20)), (.int .i64 (.v 21)), (.bool (.v 22)), (.int .i64 (.v 23)), (.int .i64 (.v 24)), (.int .i64 (.v 25)), (.int .i64 (.v 26)), (.sl (.v 27) (.v 28) (.v 29)), (.int .i64 (.v 31)), (.int .i64 (.v 32)), (.sl (.v 33) (.v 34) (.v 35)), (.int .i64 (.v 37)), (.int .i64 (.v 38)), (.int .i64 (.v 39)), (.int .i64 (.v 40))]), (.a (.bool (.v 41)))]) [((.a 27), (.prop 30)), ((.a 33), (.prop 36)), ((.b (.v 16)), (.prop 42)), ((.a 9), (.prop 12))]
         (.new
         (.br (.v 41)
          (.call 55 [(.a (.ptr (.v 0) 0)), (.agg [(.int .i64 (.v 19)), (.int .i64 (.v 20)), (.int .i64 (.v 21)), (.bool (.v 22)), (.int .i64 (.v 23)), (.int .i64 (.v 24)), (.int .i64 (.v 25)), (.int .i64 (.v 26)), (.sl (.v 27) (.v 28) (.v 29)), (.int .i64 (.v 31)), (.int .i64 (.v 32)), (.sl (.v 33) (.v 34) (.v 35)), (.int .i64 (.v 37)), (.int .i64 (.v 38)), (.int .i64 (.v 39)), (.int .i64 (.v 40))])] [((.b (.v 0)), (.prop 1)), ((.a 27), (.prop 30)), ((.a 33), (.prop 36))] [.p] (.tup []) [((.b (.v 0)), (.prop 44)), ((.a 27), (.prop 30)), ((.a 33), (.prop 36))]
          (.ret (.w (.a (.bool (.v 41)))) [((.b (.v 0)), (.prop 44)), ((.a 2), (.prop 18)), ((.b (.v 16)), (.prop 42))]))
          (.ret (.w (.a (.bool (.v 41)))) [((.b (.v 0)), (.prop 1)), ((.a 2), (.prop 18)), ((.b (.v 16)), (.prop 42))]))))
         (.new
         (.call 45 [(.a (.ptr (.v 16) 0)), (.agg [(.int .i64 (.i 0)), (.int .i64 (.i 0)), (.int .i64 (.i 0)), (.bool (.c false)), (.int .i64 (.v 7)), (.int .i64 (.i 0)), (.int .i64 (.v 15)), (.int .i64 (.v 8)), (.sl (.v 9) (.v 10) (.v 11)), (.int .i64 (.i 0)), (.int .i64 (.i 0)), (.sl .nil (.n 0) (.n 0)), (.int .i64 (.i 0)), (.int .i64 (.i 0)), (.int .i64 (.i 0)), (.int .i64 (.i 0))])] [((.b (.v 16)), (.prop 17)), ((.a 9), (.prop 12))] [.i, .i, .i, .c, .i, .i, .i, .i, .a, .n, .n, .p, .i, .i, .a, .n, .n, .p, .i, .i, .i, .i, .c, .p] (.tup [(.agg [(.int .i64 (.v 20)), (.int .i64 (.v 21)), (.int .i64 (.v 22)), (.bool (.v 23)), (.int .i64 (.v 24)), (.int .i64 (.v 25)), (.int .i64 (.v 26)), (.int .i64 (.v 27)), (.sl (.v 28) (.v 29) (.v 30)), (.int .i64 (.v 32)), (.int .i64 (.v 33)), (.sl (.v 34) (.v 35) (.v 36)), (.int .i64 (.v 38)), (.int .i64 (.v 39)), (.int .i64 (.v 40)), (.int .i64 (.v 41))]), (.a (.bool (.v 42)))]) [((.a 28), (.prop 31)), ((.a 34), (.prop 37)), ((.b (.v 16)), (.prop 43)), ((.a 9), (.prop 12))]
         (.br (.v 42)
          (.call 55 [(.a (.ptr (.v 0) 0)), (.agg [(.int .i64 (.v 20)), (.int .i64 (.v 21)), (.int .i64 (.v 22)), (.bool (.v 23)), (.int .i64 (.v 24)), (.int .i64 (.v 25)), (.int .i64 (.v 26)), (.int .i64 (.v 27)), (.sl (.v 28) (.v 29) (.v 30)), (.int .i64 (.v 32)), (.int .i64 (.v 33)), (.sl (.v 34) (.v 35) (.v 36)), (.int .i64 (.v 38)), (.int .i64 (.v 39)), (.int .i64 (.v 40)), (.int .i64 (.v 41))])] [((.b (.v 0)), (.prop 1)), ((.a 28), (.prop 31)), ((.a 34), (.prop 37))] [.p] (.tup []) [((.b (.v 0)), (.prop 44)), ((.a 28), (.prop 31)), ((.a 34), (.prop 37))]
          (.ret (.w (.a (.bool (.v 42)))) [((.b (.v 0)), (.prop 44)), ((.a 2), (.prop 18)), ((.b (.v 16)), (.prop 43))]))
          (.ret (.w (.a (.bool (.v 42)))) [((.b (.v 0)), (.prop 1)), ((.a 2), (.prop 18)), ((.b (.v 16)), (.prop 43))]))))))
        (.new
        (.op (.load 26 (.tmp 33)) 26 [(33, (.w (.a (.eptr 2 (.v 6) 1 0))))] [((.a 2), (.prop 5))] [.n, .p, .p] (.w (.a (.ptr (.v 17) 0))) [((.b (.v 17)), (.prop 18)), ((.a 2), (.prop 19))]
        (.call 45 [(.a (.ptr (.v 17) 0)), (.agg [(.int .i64 (.i 0)), (.int .i64 (.i 0)), (.int .i64 (.i 0)), (.bool (.c false)), (.int .i64 (.v 7)), (.int .i64 (.i 0)), (.int .i64 (.v 15)), (.int .i64 (.v 8)), (.sl (.v 9) (.v 10) (.v 11)), (.int .i64 (.i 0)), (.int .i64 (.i 0)), (.sl .nil (.n 0) (.n 0)), (.int .i64 (.i 0)), (.int .i64 (.i 0)), (.int .i64 (.i 0)), (.int .i64 (.i 0))])] [((.b (.v 17)), (.prop 18)), ((.a 9), (.prop 12))] [.i, .i, .i, .c, .i, .i, .i, .i, .a, .n, .n, .p, .i, .i, .a, .n, .n, .p, .i, .i, .i, .i, .c, .p] (.tup [(.agg [(.int .i64 (.v 20)), (.int .i64 (.v 21)), (.int .i64 (.v 22)), (.bool (.v 23)), (.int .i64 (.v 24)), (.int .i64 (.v 25)), (.int .i64 (.v 26)), (.int .i64 (.v 27)), (.sl (.v 28) (.v 29) (.v 30)), (.int .i64 (.v 32)), (.int .i64 (.v 33)), (.sl (.v 34) (.v 35) (.v 36)), (.int .i64 (.v 38)), (.int .i64 (.v 39)), (.int .i64 (.v 40)), (.int .i64 (.v 41))]), (.a (.bool (.v 42)))]) [((.a 28), (.prop 31)), ((.a 34), (.prop 37)), ((.b (.v 17)), (.prop 43)), ((.a 9), (.prop 12))]
        (.br (.v 42)
         (.call 55 [(.a (.ptr (.v 0) 0)), (.agg [(.int .i64 (.v 20)), (.int .i64 (.v 21)), (.int .i64 (.v 22)), (.bool (.v 23)), (.int .i64 (.v 24)), (.int .i64 (.v 25)), (.int .i64 (.v 26)), (.int .i64 (.v 27)), (.sl (.v 28) (.v 29) (.v 30)), (.int .i64 (.v 32)), (.int .i64 (.v 33)), (.sl (.v 34) (.v 35) (.v 36)), (.int .i64 (.v 38)), (.int .i64 (.v 39)), (.int .i64 (.v 40)), (.int .i64 (.v 41))])] [((.b (.v 0)), (.prop 1)), ((.a 28), (.prop 31)), ((.a 34), (.prop 37))] [.p] (.tup []) [((.b (.v 0)), (.prop 44)), ((.a 28), (.prop 31)), ((.a 34), (.prop 37))]
         (.ret (.w (.a (.bool (.v 42)))) [((.b (.v 0)), (.prop 44)), ((.a 2), (.prop 19)), ((.b (.v 17)), (.prop 43))]))
         (.ret (.w (.a (.bool (.v 42)))) [((.b (.v 0)), (.prop 1)), ((.a 2), (.prop 19)), ((.b (.v 17)), (.prop 43))]))))))
       (.new
       (.all
        (.op (.load 26 (.tmp 33)) 26 [(33, (.w (.a (.eptr 2 (.v 6) 1 0))))] [((.a 2), (.prop 5))] [.n, .p, .p] (.w (.a (.ptr (.v 17) 0))) [((.b (.v 17)), (.prop 18)), ((.a 2), (.prop 19))]
        (.call 45 [(.a (.ptr (.v 17) 0)), (.agg [(.int .i64 (.i 0)), (.int .i64 (.i 0)), (.int .i64 (.i 0)), (.bool (.c false)), (.int .i64 (.v 7)), (.int .i64 (.i 0)), (.int .i64 (.v 15)), (.int .i64 (.v 8)), (.sl (.v 9) (.v 10) (.v 11)), (.int .i64 (.i 0)), (.int .i64 (.i 0)), (.sl .nil (.n 0) (.n 0)), (.int .i64 (.i 0)), (.int .i64 (.i 0)), (.int .i64 (.i 0)), (.int .i64 (.i 0))])] [((.b (.v 17)), (.prop 18)), ((.a 9), (.prop 12))] [.i, .i, .i, .c, .i, .i, .i, .i, .a, .n, .n, .p, .i, .i, .a, .n, .n, .p, .i, .i, .i, .i, .c, .p] (.tup [(.agg [(.int .i64 (.v 20)), (.int .i64 (.v 21)), (.int .i64 (.v 22)), (.bool (.v 23)), (.int .i64 (.v 24)), (.int .i64 (.v 25)), (.int .i64 (.v 26)), (.int .i64 (.v 27)), (.sl (.v 28) (.v 29) (.v 30)), (.int .i64 (.v 32)), (.int .i64 (.v 33)), (.sl (.v 34) (.v 35) (.v 36)), (.int .i64 (.v 38)), (.int .i64 (.v 39)), (.int .i64 (.v 40)), (.int .i64 (.v 41))]), (.a (.bool (.v 42)))]) [((.a 28), (.prop 31)), ((.a 34), (.prop 37)), ((.b (.v 17)), (.prop 43)), ((.a 9), (.prop 12))]
        (.br (.v 42)
         (.call 55 [(.a (.ptr (.v 0) 0)), (.agg [(.int .i64 (.v 20)), (.int .i64 (.v 21)), (.int .i64 (.v 22)), (.bool (.v 23)), (.int .i64 (.v 24)), (.int .i64 (.v 25)), (.int .i64 (.v 26)), (.int .i64 (.v 27)), (.sl (.v 28) (.v 29) (.v 30)), (.int .i64 (.v 32)), (.int .i64 (.v 33)), (.sl (.v 34) (.v 35) (.v 36)), (.int .i64 (.v 38)), (.int .i64 (.v 39)), (.int .i64 (.v 40)), (.int .i64 (.v 41))])] [((.b (.v 0)), (.prop 1)), ((.a 28), (.prop 31)), ((.a 34), (.prop 37))] [.p] (.tup []) [((.b (.v 0)), (.prop 44)), ((.a 28), (.prop 31)), ((.a 34), (.prop 37))]
         (.ret (.w (.a (.bool (.v 42)))) [((.b (.v 0)), (.prop 44)), ((.a 2), (.prop 19)), ((.b (.v 17)), (.prop 43))]))
         (.ret (.w (.a (.bool (.v 42)))) [((.b (.v 0)), (.prop 1)), ((.a 2), (.prop 19)), ((.b (.v 17)), (.prop 43))]))))
        (.op (.load 26 (.tmp 33)) 26 [(33, (.w (.a (.eptr 2 (.v 6) 1 0))))] [((.a 2), (.prop 5))] [.n, .p, .p] (.w (.a (.ptr (.v 17) 0))) [((.b (.v 17)), (.prop 18)), ((.a 2), (.prop 19))]
        (.call 45 [(.a (.ptr (.v 17) 0)), (.agg [(.int .i64 (.i 0)), (.int .i64 (.i 0)), (.int .i64 (.i 0)), (.bool (.c false)), (.int .i64 (.v 7)), (.int .i64 (.i 0)), (.int .i64 (.v 15)), (.int .i64 (.v 8)), (.sl (.v 9) (.v 10) (.v 11)), (.int .i64 (.i 0)), (.int .i64 (.i 0)), (.sl .nil (.n 0) (.n 0)), (.int .i64 (.i 0)), (.int .i64 (.i 0)), (.int .i64 (.i 0)), (.int .i64 (.i 0))])] [((.b (.v 17)), (.prop 18)), ((.a 9), (.prop 12))] [.i, .i, .i, .c, .i, .i, .i, .i, .a, .n, .n, .p, .i, .i, .a, .n, .n, .p, .i, .i, .i, .i, .c, .p] (.tup [(.agg [(.int .i64 (.v 20)), (.int .i64 (.v 21)), (.int .i64 (.v 22)), (.bool (.v 23)), (.int .i64 (.v 24)), (.int .i64 (.v 25)), (.int .i64 (.v 26)), (.int .i64 (.v 27)), (.sl (.v 28) (.v 29) (.v 30)), (.int .i64 (.v 32)), (.int .i64 (.v 33)), (.sl (.v 34) (.v 35) (.v 36)), (.int .i64 (.v 38)), (.int .i64 (.v 39)), (.int .i64 (.v 40)), (.int .i64 (.v 41))]), (.a (.bool (.v 42)))]) [((.a 28), (.prop 31)), ((.a 34), (.prop 37)), ((.b (.v 17)), (.prop 43)), ((.a 9), (.prop 12))]
        (.br (.v 42)
         (.call 55 [(.a (.ptr (.v 0) 0)), (.agg [(.int .i64 (.v 20)), (.int .i64 (.v 21)), (.int .i64 (.v 22)), (.bool (.v 23)), (.int .i64 (.v 24)), (.int .i64 (.v 25)), (.int .i64 (.v 26)), (.int .i64 (.v 27)), (.sl (.v 28) (.v 29) (.v 30)), (.int .i64 (.v 32)), (.int .i64 (.v 33)), (.sl (.v 34) (.v 35) (.v 36)), (.int .i64 (.v 38)), (.int .i64 (.v 39)), (.int .i64 (.v 40)), (.int .i64 (.v 41))])] [((.b (.v 0)), (.prop 1)), ((.a 28), (.prop 31)), ((.a 34), (.prop 37))] [.p] (.tup []) [((.b (.v 0)), (.prop 44)), ((.a 28), (.prop 31)), ((.a 34), (.prop 37))]
         (.ret (.w (.a (.bool (.v 42)))) [((.b (.v 0)), (.prop 44)), ((.a 2), (.prop 19)), ((.b (.v 17)), (.prop 43))]))
         (.ret (.w (.a (.bool (.v 42)))) [((.b (.v 0)), (.prop 1)), ((.a 2), (.prop 19)), ((.b (.v 17)), (.prop 43))])))))))))
     (.new
     (.all
      (.op (.load 26 (.tmp 33)) 26 [(33, (.w (.a (.eptr 2 (.v 6) 1 0))))] [((.a 2), (.prop 5))] [.n, .p, .p] (.w (.a (.ptr (.v 16) 0))) [((.b (.v 16)), (.prop 17)), ((.a 2), (.prop 18))]
      (.call 54 [(.a (.ptr (.v 0) 0))] [((.b (.v 0)), (.prop 1))] [.i] (.w (.a (.int .i64 (.v 19)))) [((.b (.v 0)), (.prop 1))]
      (.call 45 [(.a (.ptr (.v 16) 0)), (.agg [(.int .i64 (.i 0)), (.int .i64 (.i 0)), (.int .i64 (.i 0)), (.bool (.c false)), (.int .i64 (.v 7)), (.int .i64 (.i 0)), (.int .i64 (.v 19)), (.int .i64 (.v 8)), (.sl (.v 9) (.v 10) (.v 11)), (.int .i64 (.i 0)), (.int .i64 (.i 0)), (.sl .nil (.n 0) (.n 0)), (.int .i64 (.i 0)), (.int .i64 (.i 0)), (.int .i64 (.i 0)), (.int .i64 (.i 0))])] [((.b (.v 16)), (.prop 17)), ((.a 9), (.prop 12))] [.i, .i, .i, .c, .i, .i, .i, .i, .a, .n, .n, .p, .i, .i, .a, .n, .n, .p, .i, .i, .i, .i, .c, .p] (.tup [(.agg [(.int .i64 (.v 20)), (.int .i64 (.v 21)), (.int .i64 (.v 22)), (.bool (.v 23)), (.int .i64 (.v 24)), (.int .i64 (.v 25)), (.int .i64 (.v 26)), (.int .i64 (.v 27)), (.sl (.v 28) (.v 29) (.v 30)), (.int .i64 (.v 32)), (.int .i64 (.v 33)), (.sl (.v 34) (.v 35) (.v 36)), (.int .i64 (.v 38)), (.int .i64 (.v 39)), (.int .i64 (.v 40)), (.int .i64 (.v 41))]), (.a (.bool (.v 42)))]) [((.a 28), (.prop 31)), ((.a 34), (.prop 37)), ((.b (.v 16)), (.prop 43)), ((.a 9), (.prop 12))]
      (.br (.v 42)
       (.call 55 [(.a (.ptr (.v 0) 0)), (.agg [(.int .i64 (.v 20)), (.int .i64 (.v 21)), (.int .i64 (.v 22)), (.bool (.v 23)), (.int .i64 (.v 24)), (.int .i64 (.v 25)), (.int .i64 (.v 26)), (.int .i64 (.v 27)), (.sl (.v 28) (.v 29) (.v 30)), (.int .i64 (.v 32)), (.int .i64 (.v 33)), (.sl (.v 34) (.v 35) (.v 36)), (.int .i64 (.v 38)), (.int .i64 (.v 39)), (.int .i64 (.v 40)), (.int .i64 (.v 41))])] [((.b (.v 0)), (.prop 1)), ((.a 28), (.prop 31)), ((.a 34), (.prop 37))] [.p] (.tup []) [((.b (.v 0)), (.prop 44)), ((.a 28), (.prop 31)), ((.a 34), (.prop 37))]
       (.ret (.w (.a (.bool (.v 42)))) [((.b (.v 0)), (.prop 44)), ((.a 2), (.prop 18)), ((.b (.v 16)), (.prop 43))]))
       (.ret (.w (.a (.bool (.v 42)))) [((.b (.v 0)), (.prop 1)), ((.a 2), (.prop 18)), ((.b (.v 16)), (.prop 43))])))))
      (.call 54 [(.a (.ptr (.v 0) 0))] [((.b (.v 0)), (.prop 1))] [.i] (.w (.a (.int .i64 (.v 16)))) [((.b (.v 0)), (.prop 1))]
      (.all
       (.op (.load 26 (.tmp 33)) 26 [(33, (.w (.a (.eptr 2 (.v 6) 1 0))))] [((.a 2), (.prop 5))] [.n, .p, .p] (.w (.a (.ptr (.v 17) 0))) [((.b (.v 17)), (.prop 18)), ((.a 2), (.prop 19))]
       (.call 45 [(.a (.ptr (.v 17) 0)), (.agg [(.int .i64 (.i 0)), (.int .i64 (.i 0)), (.int .i64 (.i 0)), (.bool (.c false)), (.int .i64 (.v 7)), (.int .i64 (.i 0)), (.int .i64 (.v 16)), (.int .i64 (.v 8)), (.sl (.v 9) (.v 10) (.v 11)), (.int .i64 (.i 0)), (.int .i64 (.i 0)), (.sl .nil (.n 0) (.n 0)), (.int .i64 (.i 0)), (.int .i64 (.i 0)), (.int .i64 (.i 0)), (.int .i64 (.i 0))])] [((.b (.v 17)), (.prop 18)), ((.a 9), (.prop 12))] [.i, .i, .i, .c, .i, .i, .i, .i, .a, .n, .n, .p, .i, .i, .a, .n, .n, .p, .i, .i, .i, .i, .c, .p] (.tup [(.agg [(.int .i64 (.v 20)), (.int .i64 (.v 21)), (.int .i64 (.v 22)), (.bool (.v 23)), (.int .i64 (.v 24)), (.int .i64 (.v 25)), (.int .i64 (.v 26)), (.int .i64 (.v 27)), (.sl (.v 28) (.v 29) (.v 30)), (.int .i64 (.v 32)), (.int .i64 (.v 33)), (.sl (.v 34) (.v 35) (.v 36)), (.int .i64 (.v 38)), (.int .i64 (.v 39)), (.int .i64 (.v 40)), (.int .i64 (.v 41))]), (.a (.bool (.v 42)))]) [((.a 28), (.prop 31)), ((.a 34), (.prop 37)), ((.b (.v 17)), (.prop 43)), ((.a 9), (.prop 12))]
       (.br (.v 42)
        (.call 55 [(.a (.ptr (.v 0) 0)), (.agg [(.int .i64 (.v 20)), (.int .i64 (.v 21)), (.int .i64 (.v 22)), (.bool (.v 23)), (.int .i64 (.v 24)), (.int .i64 (.v 25)), (.int .i64 (.v 26)), (.int .i64 (.v 27)), (.sl (.v 28) (.v 29) (.v 30)), (.int .i64 (.v 32)), (.int .i64 (.v 33)), (.sl (.v 34) (.v 35) (.v 36)), (.int .i64 (.v 38)), (.int .i64 (.v 39)), (.int .i64 (.v 40)), (.int .i64 (.v 41))])] [((.b (.v 0)), (.prop 1)), ((.a 28), (.prop 31)), ((.a 34), (.prop 37))] [.p] (.tup []) [((.b (.v 0)), (.prop 44)), ((.a 28), (.prop 31)), ((.a 34), (.prop 37))]
        (.ret (.w (.a (.bool (.v 42)))) [((.b (.v 0)), (.prop 44)), ((.a 2), (.prop 19)), ((.b (.v 17)), (.prop 43))]))
        (.ret (.w (.a (.bool (.v 42)))) [((.b (.v 0)), (.prop 1)), ((.a 2), (.prop 19)), ((.b (.v 17)), (.prop 43))]))))
       (.op (.load 26 (.tmp 33)) 26 [(33, (.w (.a (.eptr 2 (.v 6) 1 0))))] [((.a 2), (.prop 5))] [.n, .p, .p] (.w (.a (.ptr (.v 17) 0))) [((.b (.v 17)), (.prop 18)), ((.a 2), (.prop 19))]
       (.call 45 [(.a (.ptr (.v 17) 0)), (.agg [(.int .i64 (.i 0)), (.int .i64 (.i 0)), (.int .i64 (.i 0)), (.bool (.c false)), (.int .i64 (.v 7)), (.int .i64 (.i 0)), (.int .i64 (.v 16)), (.int .i64 (.v 8)), (.sl (.v 9) (.v 10) (.v 11)), (.int .i64 (.i 0)), (.int .i64 (.i 0)), (.sl .nil (.n 0) (.n 0)), (.int .i64 (.i 0)), (.int .i64 (.i 0)), (.int .i64 (.i 0)), (.int .i64 (.i 0))])] [((.b (.v 17)), (.prop 18)), ((.a 9), (.prop 12))] [.i, .i, .i, .c, .i, .i, .i, .i, .a, .n, .n, .p, .i, .i, .a, .n, .n, .p, .i, .i, .i, .i, .c, .p] (.tup [(.agg [(.int .i64 (.v 20)), (.int .i64 (.v 21)), (.int .i64 (.v 22)), (.bool (.v 23)), (.int .i64 (.v 24)), (.int .i64 (.v 25)), (.int .i64 (.v 26)), (.int .i64 (.v 27)), (.sl (.v 28) (.v 29) (.v 30)), (.int .i64 (.v 32)), (.int .i64 (.v 33)), (.sl (.v 34) (.v 35) (.v 36)), (.int .i64 (.v 38)), (.int .i64 (.v 39)), (.int .i64 (.v 40)), (.int .i64 (.v 41))]), (.a (.bool (.v 42)))]) [((.a 28), (.prop 31)), ((.a 34), (.prop 37)), ((.b (.v 17)), (.prop 43)), ((.a 9), (.prop 12))]
       (.br (.v 42)
        (.call 55 [(.a (.ptr (.v 0) 0)), (.agg [(.int .i64 (.v 20)), (.int .i64 (.v 21)), (.int .i64 (.v 22)), (.bool (.v 23)), (.int .i64 (.v 24)), (.int .i64 (.v 25)), (.int .i64 (.v 26)), (.int .i64 (.v 27)), (.sl (.v 28) (.v 29) (.v 30)), (.int .i64 (.v 32)), (.int .i64 (.v 33)), (.sl (.v 34) (.v 35) (.v 36)), (.int .i64 (.v 38)), (.int .i64 (.v 39)), (.int .i64 (.v 40)), (.int .i64 (.v 41))])] [((.b (.v 0)), (.prop 1)), ((.a 28), (.prop 31)), ((.a 34), (.prop 37))] [.p] (.tup []) [((.b (.v 0)), (.prop 44)), ((.a 28), (.prop 31)), ((.a 34), (.prop 37))]
        (.ret (.w (.a (.bool (.v 42)))) [((.b (.v 0)), (.prop 44)), ((.a 2), (.prop 19)), ((.b (.v 17)), (.prop 43))]))
        (.ret (.w (.a (.bool (.v 42)))) [((.b (.v 0)), (.prop 1)), ((.a 2), (.prop 19)), ((.b (.v 17)), (.prop 43))]))))))))))))))))))
theorem tree_ask17 : tree Try.prog { absT := [], opq := [], hv := [], keep := [52, 54, 53, 56, 92, 21, 50, 49], link := [(17, 0)], ent := [], turn := [(45, [0]), (55, [0])], shr := [], vt := [], mkd := [], rlink := [], pty := [], outl := true, stay := [], snk := [] } Try.f51 [(.a (.ptr (.v 0) 0)), (.a (.sl (.v 2) (.v 3) (.v 4)))] [((.b (.v 0)), (.prop 1)), ((.a 2), (.prop 5))] 6 = t_ask17 := by kernel_rfl
-- tideline/tidelinelaw17.speaks: ρ := []
def t_speaks17 : T :=
(.call 48 [(.a (.int .i64 (.i 2)))] [] [.a, .n, .n, .p] (.w (.a (.sl (.v 0) (.v 1) (.v 2)))) [((.a 0), (.prop 3))]
(.new
(.call 49 [(.a (.int .i64 (.i 3))), (.a (.sl (.b (.v 4) 0) (.n 2) (.n 2)))] [((.b (.v 4)), (.cells [(.int .i64 (.i 0)), (.int .i64 (.i 1))] 3))] [.n, .p] (.w (.a (.ptr (.v 5) 0))) [((.b (.v 5)), (.prop 6)), ((.b (.v 4)), (.cells [(.int .i64 (.i 0)), (.int .i64 (.i 1))] 3))]
(.loop [.i, .p, .p] [(.e (.o1 .neg (.o1 .neg (.i 0)))), (.p [((.b (.v 5)), (.prop 6))]), (.p [((.a 0), (.prop 3))])]
 (.br (.o2 .lt (.v 7) (.i 9))
  (.call 51 [(.a (.ptr (.v 5) 0)), (.a (.sl (.v 0) (.v 1) (.v 2)))] [((.b (.v 5)), (.prop 8)), ((.a 0), (.prop 9))] [.c, .p, .p] (.w (.a (.bool (.v 10)))) [((.b (.v 5)), (.prop 11)), ((.a 0), (.prop 12))]
  (.br (.v 10)
   (.need (.o1 (.inr .i64) (.o2 .add (.v 7) (.i 1)))
   (.again 0 [(.e (.o1 .neg (.o1 .neg (.o2 .add (.v 7) (.i 1))))), (.p [((.b (.v 5)), (.prop 11))]), (.p [((.a 0), (.prop 12))])]))
   (.br (.o2 .eq (.v 7) (.i 4))
    (.call 52 [(.a (.ptr (.v 5) 0))] [((.b (.v 5)), (.prop 11))] [.i] (.w (.a (.int .i64 (.v 13)))) [((.b (.v 5)), (.prop 11))]
    (.br (.o2 .eq (.v 13) (.i 2))
     (.call 53 [(.a (.ptr (.v 5) 0))] [((.b (.v 5)), (.prop 11))] [.i, .a, .n, .n, .p] (.w (.agg [(.int .i64 (.v 14)), (.sl (.v 15) (.v 16) (.v 17))])) [((.a 15), (.prop 18)), ((.b (.v 5)), (.prop 11))]
     (.br (.o2 .eq (.v 14) (.i 2))
      (.call 54 [(.a (.ptr (.v 5) 0))] [((.b (.v 5)), (.prop 11))] [.i] (.w (.a (.int .i64 (.v 19)))) [((.b (.v 5)), (.prop 11))]
      (.ret (.w (.a (.bool (.o2 .eq (.v 19) (.i 3))))) []))
      (.ret (.w (.a (.bool (.c false)))) [])))
     (.ret (.w (.a (.bool (.c false)))) [])))
    (.ret (.w (.a (.bool (.c false)))) []))))
  (.br (.o2 .eq (.v 7) (.i 4))
   (.call 52 [(.a (.ptr (.v 5) 0))] [((.b (.v 5)), (.prop 8))] [.i] (.w (.a (.int .i64 (.v 10)))) [((.b (.v 5)), (.prop 8))]
   (.br (.o2 .eq (.v 10) (.i 2))
    (.call 53 [(.a (.ptr (.v 5) 0))] [((.b (.v 5)), (.prop 8))] [.i, .a, .n, .n, .p] (.w (.agg [(.int .i64 (.v 11)), (.sl (.v 12) (.v 13) (.v 14))])) [((.a 12), (.prop 15)), ((.b (.v 5)), (.prop 8))]
    (.br (.o2 .eq (.v 11) (.i 2))
     (.call 54 [(.a (.ptr (.v 5) 0))] [((.b (.v 5)), (.prop 8))] [.i] (.w (.a (.int .i64 (.v 16)))) [((.b (.v 5)), (.prop 8))]
     (.ret (.w (.a (.bool (.o2 .eq (.v 16) (.i 3))))) []))
     (.ret (.w (.a (.bool (.c false)))) [])))
    (.ret (.w (.a (.bool (.c false)))) [])))
   (.ret (.w (.a (.bool (.c false)))) [])))))))
theorem tree_speaks17 : tree Try.prog { absT := [], opq := [], hv := [(0, [(.b (.v 5)), (.a 0)])], keep := [52, 54, 53, 56, 92, 21, 50, 49], link := [(17, 0)], ent := [], turn := [(45, [0]), (55, [0])], shr := [], vt := [], mkd := [], rlink := [], pty := [], outl := true, stay := [], snk := [] } Try.f47 [] [] 0 = t_speaks17 := by kernel_rfl
end Go.Proofs.Ytmibmjehjagmbaa.RX

/- Units in a list; new ones. No condition. -/
namespace Go.Proofs.Ytmibmjehjagmbaa
set_option linter.unusedSimpArgs false
set_option linter.unusedVariables false
open Go.Proofs.Ytmibmjehjagmbaa RX

theorem perm_focus {α : Type} : ∀ (l : List α) (k : Nat) (x : α), l[k]? = some x → (x :: l.eraseIdx k).Perm l
  | y :: l, 0, x, h => by simp at h; subst h; exact List.Perm.refl _
  | y :: l, k + 1, x, h => by
    have := perm_focus l k x (by simpa using h)
    exact (List.Perm.swap y x _).trans (this.cons y)
  | [], _, _, h => by simp at h
theorem sepN_focus {l : List HP} {k : Nat} {x : HP} (hk : l[k]? = some x) {R h : PH} (H : (sepN l).p R h) : (HP.sep x (sepN (l.eraseIdx k))).p R h :=
  sepN_cons.1 (sepN_perm (perm_focus l k x hk).symm H)
theorem sepN_unfocus {l : List HP} {k : Nat} {x : HP} (hk : k < l.length) {R h : PH} (H : (HP.sep x (sepN (l.eraseIdx k))).p R h) : (sepN (l.set k x)).p R h := by
  have := perm_focus (l.set k x) k x (by simp [hk])
  rw [List.eraseIdx_set_eq] at this
  exact sepN_perm this (sepN_cons.2 H)
/-- A unit on its device. -/
structure UR where
  ub : Nat
  bd : Nat
  s : USt
  ps : List Pg
abbrev UR.hp (u : UR) : HP := UD u.ub u.bd 400 u.s u.ps
abbrev UR.ptr (u : UR) : Value := .pointer (some ⟨u.ub, 0, none⟩)
abbrev OwU (a : Option Addr) (n c : Nat) (l : List UR) : HP := OwC 26 1 a n c (l.map UR.ptr)
def UnL (a : Option Addr) (n c : Nat) (l : List UR) : HP := HP.and (l.length = n) (HP.sep (OwU a n c l) (sepN (l.map UR.hp)))
theorem infoU : (Try.prog.info? 26).map (fun i => (i.zero, i.size, i.bytes)) = some (some (.pointer none), 1, 8) := by kernel_rfl
theorem undUs : Try.prog.underlying 52 = some (.slice 26) := by kernel_rfl
theorem undU : Try.prog.underlying 26 = some (.pointer 113) := by kernel_rfl
theorem aggU : aggT Try.prog 26 = false := by kernel_rfl
theorem szU : szT Try.prog 26 = 1 := by kernel_rfl
theorem appendU (a : Option Addr) (n c : Nat) (l : List UR) (b : Nat) (u : UR) (K : HP) (hb : n ≤ 1000000000) :
    OTri Try.prog (appS 52 52 (.slice a n c) (.slice (some ⟨b, 0, none⟩) 1 1)) (HP.sep (UnL a n c l) (HP.sep (HP.one b (.cells #[u.ptr] 26 (0, 0))) (HP.sep u.hp K)))
      (fun v => HP.ex fun a' => HP.ex fun c' => HP.and (v = .slice a' (n + 1) c') (UnL a' (n + 1) c' (l ++ [u]))) := by
  obtain ⟨i, hi, h1, h2, h3⟩ := info_parts infoU
  have := append_ok 52 52 26 i (.pointer none) undUs hi h1 (by rw [h2]; rfl) (by omega) a n c (l.map UR.ptr) (HP.one b (.cells #[u.ptr] 26 (0, 0))) ⟨b, 0, none⟩ 1 1 [u.ptr] (one_rd b _ _) (by simp [h2]) (fun v hv => by simp at hv; subst hv; rfl) (by unfold maxLen; omega) (by rw [h3]; omega)
  rw [h2] at this
  refine OTri.fact (φ := l.length = n) (fun R h H => (HP.sep_left H).1) fun hl => ?_
  refine (this.frame (HP.sep (sepN (l.map UR.hp)) u.hp)).weak (fun R h H => ?_) ?_
  · have H1 := HP.sep_assoc (HP.sep_mono H (fun _ h => h.2) fun _ h => h)
    exact HP.sep_assoc' (HP.pick [_, _, _, _, _] [0, 2, 1, 3] (by decide) rfl H1)
  · rintro v R h ⟨h1, h2, d, l1, l2, ⟨a', c', rfl, H⟩, HU⟩
    refine ⟨a', c', rfl, by simp [hl], ?_⟩
    have H1 := HP.sep_assoc ⟨h1, h2, d, l1, l2, H, HU⟩
    have H2 := HP.sep_mono H1 (fun _ h => h) fun y hy => HP.sep_right hy
    have e : (l ++ [u]).map UR.hp = l.map UR.hp ++ [u.hp] := by simp
    rw [e]
    exact HP.sep_mono H2 (fun y hy => by unfold OwU; rw [List.map_append]; exact hy) fun y hy => (sepN_app (l := l.map UR.hp) (m := [u.hp])).2 hy
/-- A new one. -/
def newU (ub bd : Nat) : UR := ⟨ub, bd, s0, []⟩
set_option maxRecDepth 100000 in
theorem laid17_ok (n : Nat) (hn : n ≤ 1000) : Tri Try.prog 48 #[.int .i64 n] HP.tt
    (fun v => HP.ex fun a => HP.ex fun c => HP.ex fun l => HP.and (v = .slice a n c ∧ ∀ u ∈ l, u.s = s0 ∧ u.ps = []) (UnL a n c l)) := by
  refine tri_of_tree (ρ := [.i n]) mixed Try.func48 tree_laid17 ?_
  unfold t_laid17
  simp only [T.den, E.prop, E.den, RX.look, F1.app, F2.app, Uni.int_i, Uni.nat_n, Uni.bool_c, Uni.str_s, Uni.adr_a, Uni.val_v, Uni.hp_p, hden, cden, V.den, W.den, A.den, BR.den, SA.den, FV.den, capV, exs, exP, allP, Cur.app, List.map_cons, List.map_nil, List.cons_append, List.nil_append, List.drop_succ_cons, List.drop_zero, List.length_cons, List.length_nil, Nat.zero_add, Nat.reduceAdd, Int.neg_neg, Bool.not_not, List.append_nil, Nat.add_zero, List.getElem?_cons_zero, List.getElem?_cons_succ, Decidable.not_not]
  intro x
  refine ⟨fun _ _ _ _ a len cap i P => ∃ (k : Nat) (l : List UR), i = k ∧ k ≤ n ∧ len = k ∧ (∀ u ∈ l, u.s = s0 ∧ u.ps = []) ∧ HP.ent P (UnL a k cap l), fun _ _ _ _ _ _ _ i _ => n - i.toNat,
    ⟨0, [], rfl, Nat.zero_le _, rfl, (fun u hu => by cases hu), .of fun R h H => ⟨rfl, HP.sep_tt ⟨rfl, .inr ⟨x, #[], rfl, H, Nat.le_refl _, by unfold maxLen; omega, rfl, rfl⟩⟩⟩⟩, ?_⟩
  rintro _ _ _ _ a k cap _ P ⟨_, l, rfl, hk, rfl, hl, hP⟩
  refine ⟨fun hlt => ?_, fun hge => ?_⟩
  · refine (dNew_ok 400 (by decide) (by decide)).weak (fun _ _ h => h) ?_
    rintro v R h ⟨bd, rfl, H⟩
    refine ⟨bd, DRep bd 400 [] 0, 0, rfl, ⟨fun h => absurd rfl h, fun _ => ?_⟩, H⟩
    clear H
    refine (uOpen_ok bd 400 [] 0 s0 rfl).weak (fun _ _ h => h) ?_
    rintro v R h ⟨ub, rfl, H⟩
    rw [forg0] at H
    refine ⟨ub, UD ub bd 400 s0 [], 0, HP.tt, rfl, ⟨fun h => absurd rfl h, fun _ y => ?_⟩, HP.sep_tt H⟩
    clear H
    rw [semOf_append (by decide)]
    simp only [T.den, E.prop, E.den, RX.look, F1.app, F2.app, Uni.int_i, Uni.nat_n, Uni.bool_c, Uni.str_s, Uni.adr_a, Uni.val_v, Uni.hp_p, hden, cden, V.den, W.den, A.den, BR.den, SA.den, FV.den, capV, exs, exP, allP, Cur.app, List.map_cons, List.map_nil, List.cons_append, List.nil_append, List.drop_succ_cons, List.drop_zero, List.length_cons, List.length_nil, Nat.zero_add, Nat.reduceAdd, Int.neg_neg, Bool.not_not, List.append_nil, Nat.add_zero, List.getElem?_cons_zero, List.getElem?_cons_succ, Decidable.not_not]
    refine (appendU a k cap l y (newU ub bd) HP.tt (by omega)).conseq (K := HP.tt) ((hP.sep _).trans (.of fun R h H => HP.sep_tt H)) fun v => .of fun R h H => ?_
    obtain ⟨a', c', rfl, H2⟩ := HP.sep_left H
    refine ⟨a', k + 1, c', UnL a' (k + 1) c' (l ++ [newU ub bd]), rfl, ⟨inI64 _ (by omega) (by omega), fun _ => ⟨⟨k + 1, l ++ [newU ub bd], by omega, by omega, rfl, fun u hu => ?_, .refl _⟩, by omega⟩⟩, H2⟩
    rcases List.mem_append.1 hu with h | h
    · exact hl u h
    · simp at h; subst h; exact ⟨rfl, rfl⟩
  · obtain rfl : k = n := by omega
    exact hP.trans (.of fun R h H => ⟨a, cap, l, ⟨rfl, hl⟩, H⟩)
end Go.Proofs.Ytmibmjehjagmbaa

/- What the form's own reach says of a part of what came in. No condition. -/
namespace Go.Proofs.Ytmibmjehjagmbaa

theorem weights_mem_all {H : Type} {P : Program} {e : TypeId} : ∀ {l : List (DataW H)} {d : DataW H}, d ∈ l → ∀ n ∈ d.weights P e, n ∈ DataW.weightsAll P e l
  | x :: l, d, h, n, hn => by
    unfold DataW.weightsAll
    rcases List.mem_cons.1 h with h | h
    · subst h; exact List.mem_append.2 (.inl hn)
    · exact List.mem_append.2 (.inr (weights_mem_all h n hn))

/-- All that this datum holds is within the reach. -/
def Small {H : Type} (P : Program) (t : TypeId) (d : DataW H) : Prop := ∀ n ∈ d.weights P t, n ≤ reachBytes

section
variable {H : Type} {P : Program} {t e : TypeId}
theorem Small.arg {ts : List TypeId} {ds : List (DataW H)} (h : (DataW.weightsEach P ts ds).all (· ≤ reachBytes) = true) {j : Nat} {d : DataW H} (ht : ts[j]? = some t) (hd : ds[j]? = some d) : Small P t d := fun n hn => by
  have := List.all_eq_true.1 h n (DataW.weights_mem_each ht hd n hn)
  simpa using this
theorem Small.elem {elems spare : List (DataW H)} (h : Small P t (.slice elems spare)) (hu : P.underlying t = some (.slice e)) {d : DataW H} (hd : d ∈ elems) : Small P e d := fun n hn => by
  refine h n ?_
  simp only [DataW.weights, hu]
  exact List.mem_cons_of_mem _ (List.mem_append.2 (.inl (weights_mem_all hd n hn)))
theorem Small.part {fs : Array Field} {parts : List (DataW H)} (h : Small P t (.agg parts)) (hu : P.underlying t = some (.struct fs)) {i : Nat} {f : Field} {d : DataW H} (hf : fs[i]? = some f) (hd : parts[i]? = some d) : Small P f.type d := fun n hn => by
  refine h n ?_
  simp only [DataW.weights, hu]
  exact DataW.weights_mem_each (by rw [List.getElem?_map, Array.getElem?_toList, hf]; rfl) hd n hn
theorem Small.len {elems spare : List (DataW H)} (h : Small P t (.slice elems spare)) (hu : P.underlying t = some (.slice e)) : (elems.length + spare.length) * P.bytesOf e ≤ reachBytes := by
  refine h _ ?_
  simp [DataW.weights, hu]
end
end Go.Proofs.Ytmibmjehjagmbaa

/- What came in, as assertions: bytes, ints; a contract, run. No condition. -/
namespace Go.Proofs.Ytmibmjehjagmbaa
open Go.RowKit Go.ChangeShapes Go.WideShapes Go.Deep

/-- All of a world. -/
def allOf (w : World) : PH := fun k => w.heap[k]?
theorem allOf_sat (w : World) : Sat w (allOf w) PH.none' PH.none' := ⟨PH.dj_none _, PH.dj_none _, PH.dj_none _, fun _ _ e => e, fun _ _ e => (by cases e), fun _ _ e => (by cases e)⟩
/-- A contract over what only is read, run on a world. -/
theorem Tri.run {P : Program} {f : FuncId} {args : Array Value} {A : HP} {u : Value} (t : Tri P f args A (fun v => HP.pure (v = u))) {w : World} (hA : A.p (allOf w) PH.none') : Calls P f args w fun e w' => e = .returned u ∧ Below w.heap.size w w' := by
  refine (t w (allOf w) PH.none' PH.none' (allOf_sat w) hA).mono fun e w' ⟨v, he, sm, R', h', lR, s, hv⟩ => ?_
  have hv' : v = u := hv
  refine ⟨by rw [he, hv'], sm.os, sm.tape, sm.output, sm.size, fun k hk => ?_⟩
  obtain ⟨o, ho⟩ : ∃ o, w.heap[k]? = some o := ⟨w.heap[k], by simp [hk]⟩
  rw [ho]
  exact s.oR _ _ (lR _ _ ho)
section
variable {H : Type} {enc : TypeId × Value → H} {P : Program} {w : World} {base : Nat} {spare : Nat → Bool} {held : Bool}
theorem addr_plain {w : World} {a : Addr} {i : Nat} {v : Value} (h : w.cell? (a.add i) = some v) : a.add i = ⟨a.block, a.off + i, none⟩ ∧ w.cell? ⟨a.block, a.off + i, none⟩ = some v ∧ a.block < w.heap.size := by
  have key : a.add i = ⟨a.block, a.off + i, none⟩ := by
    unfold Addr.add
    split
    · rename_i e; subst e
      rw [Addr.add_zero'] at h
      obtain ⟨b, o, s⟩ := a
      cases s with
      | none => rfl
      | some s => simp [World.cell?] at h; split at h <;> simp_all
    · rfl
  rw [key] at h
  exact ⟨key, h, block_lt_of_cell (a := ⟨a.block, a.off + i, none⟩) h⟩
theorem spot_none {a : Addr} {v : Value} (h : w.cell? a = some v) : a.spot = none := by
  unfold World.cell? at h
  split at h
  · split at h
    · cases h
    · rename_i hh; simpa using hh
  · cases h
theorem take1 {cs : List Value} {i : Nat} {v : Value} (h : (cs.drop i).take 1 = [v]) : cs[i]? = some v := by
  have := congrArg List.head? h
  rw [List.head?_take, if_neg (by decide), List.head?_drop] at this
  simpa using this
theorem take1' {cs : List Value} {i : Nat} {v : Value} (h : cs[i]? = some v) : (cs.drop i).take 1 = [v] := by
  have hi : i < cs.length := (List.getElem?_eq_some_iff.1 h).1
  rw [List.drop_eq_getElem_cons hi, List.take_succ_cons, List.take_zero]
  rw [List.getElem?_eq_getElem hi] at h
  injection h with h
  rw [h]
theorem field_int {t : TypeId} {k : IntKind} {cs : List Value} {n i c : Nat} {xs : List (DataW H × List MemPlace)} {j : Nat} (hu : P.underlying t = some (.int k)) (hj : j < xs.length) (hc : c = 1)
    (h : DataW.trod enc P w base spare held n t ((cs.drop i).take c) = xs[j]?) : ∃ x, cs[i]? = some (.int k x) ∧ (Lit.int k x).wf = true := by
  subst hc
  rw [List.getElem?_eq_getElem hj] at h
  obtain ⟨x, h1, _, h2⟩ := DataW.trod_int hu h
  exact ⟨x, take1 h1, h2⟩
theorem field_bool {t : TypeId} {cs : List Value} {n i c : Nat} {xs : List (DataW H × List MemPlace)} {j : Nat} (hu : P.underlying t = some .bool) (hj : j < xs.length) (hc : c = 1)
    (h : DataW.trod enc P w base spare held n t ((cs.drop i).take c) = xs[j]?) : ∃ x, cs[i]? = some (.bool x) := by
  subst hc
  rw [List.getElem?_eq_getElem hj] at h
  obtain ⟨x, h1, _⟩ := DataW.trod_bool hu h
  exact ⟨x, take1 h1⟩
theorem field_slice {t e : TypeId} {cs : List Value} {n i c : Nat} {xs : List (DataW H × List MemPlace)} {j : Nat} (hu : P.underlying t = some (.slice e)) (hj : j < xs.length) (hc : c = 1)
    (h : DataW.trod enc P w base spare held n t ((cs.drop i).take c) = xs[j]?) : ∃ a l k, cs[i]? = some (.slice a l k) := by
  subst hc
  rw [List.getElem?_eq_getElem hj] at h
  obtain ⟨a, l, k, h1⟩ := Go.Joins.slice_form hu h
  exact ⟨a, l, k, take1 h1⟩
/-- Cells that lie side by side, as a slice that never turns. -/
theorem roC_of {size : Nat} {g off : Nat} {len : Nat} {xs : List Value} (hs : 0 < size) (hl : xs.length = len * size) (hx : ∀ i v, xs[i]? = some v → w.cell? ⟨g, off + i, none⟩ = some v) {h : PH} : (RoC size (some ⟨g, off, none⟩) len xs).p (allOf w) h := by
  refine ⟨hl, fun hn => ?_⟩
  have hpos : 0 < xs.length := by rw [hl]; exact Nat.mul_pos (by omega) hs
  have h0 := hx 0 xs[0] (List.getElem?_eq_getElem hpos)
  have hobj : ∃ cur ty fr, w.heap[g]? = some (.cells cur ty fr) := by
    unfold World.cell? at h0
    cases hg : w.heap[g]? with
    | none => simp [hg] at h0
    | some o => cases o <;> simp [hg] at h0 ⊢
  obtain ⟨cur, ty, fr, hg⟩ := hobj
  refine ⟨g, off, cur, ty, fr, rfl, hg, List.ext_getElem? fun i => ?_⟩
  rw [List.getElem?_take]
  split
  · rename_i hi
    have hxi := hx i xs[i] (List.getElem?_eq_getElem hi)
    rw [cell_at hg] at hxi
    rw [List.getElem?_drop, List.getElem?_eq_getElem hi]
    simpa using hxi
  · rename_i hi
    rw [List.getElem?_eq_none (by omega)]
/-- The bytes of a slice that came in. -/
theorem bytes_of_trod {fuel : Nat} {v : Value} {x : DataW H × List MemPlace} (h : DataW.trod enc Try.prog w 0 (fun _ => true) true fuel 30 [v] = some x) (hs : Small Try.prog 30 x.1) :
    ∃ (a : Option Addr) (l : List UInt8) (c : Nat), v = .slice a l.length c ∧ l.length ≤ 140737488355328 ∧ ∀ h, (RoB a l.length l).p (allOf w) h := by
  rcases open_slice1 Try.underlying30 (by kernel_rfl) h with ⟨hcs, hx⟩ | ⟨a, len, cap, m, n, V, D, Pl, hcs, _, hl, _, hm, hx0, hx⟩
  · simp at hcs
    subst hcs
    exact ⟨none, [], 0, rfl, by simp, fun h => RoC.nil _ _ _ _⟩
  · simp at hcs
    subst hcs
    have hlm : len ≤ m := by rw [hm]; simp only [if_true]; exact hl
    have hx' : ∀ i, i < len → ∃ q : UInt8, w.cell? (a.add i) = some (u8v q) := fun i hi => by
      obtain ⟨h1, h2⟩ := hx i (by omega)
      obtain ⟨q, hq, _, hw⟩ := DataW.trod_int Try.underlying5 h2
      simp at hq
      simp only [Lit.wf, Bool.and_eq_true, decide_eq_true_eq] at hw
      have h0 : (0 : Int) ≤ q := hw.1
      have h255 : q ≤ 255 := hw.2
      refine ⟨UInt8.ofNat q.toNat, ?_⟩
      rw [h1, hq]
      have e : ((UInt8.ofNat q.toNat).toNat : Int) = q := by
        rw [UInt8.toNat_ofNat']
        omega
      unfold u8v
      rw [e]
    obtain ⟨z, hz⟩ := choose_lt (p := fun i q => w.cell? (a.add i) = some (u8v q)) hx'
    have hb : len ≤ 140737488355328 := by
      rw [hx0] at hs
      have := hs.len Try.underlying30
      have hb : Try.prog.bytesOf 5 = 1 := by kernel_rfl
      rw [hb] at this
      unfold reachBytes at this
      simp at this
      omega
    have hlen : ((List.range len).map z).length = len := by simp
    refine ⟨some a, (List.range len).map z, cap, by rw [hlen], by rw [hlen]; exact hb, fun h => ?_⟩
    rw [hlen]
    by_cases h0 : len = 0
    · subst h0; exact RoC.nil _ _ _ _
    · have hsp : a.spot = none := by
        have := hz 0 (by omega)
        rw [Addr.add_zero'] at this
        exact spot_none this
      obtain ⟨g, off, sp⟩ := a
      simp only at hsp
      subst hsp
      refine roC_of (by decide) (by simp) fun i v hv => ?_
      have hi : i < len := by have := (List.getElem?_eq_some_iff.1 hv).1; simpa using this
      have := (addr_plain (hz i hi)).2.1
      rw [this]
      simp [hi] at hv
      rw [← hv]
set_option maxRecDepth 100000 in
theorem int_open {H : Type} (_enc : TypeId × Value → H) (base : Nat) (v : Value) (w : World) (hv : Value.okWide Try.prog w .any base 3 v) : ∃ n, v = .int .i64 n := by
  simp only [Value.okWide, Try.underlying3, Cell.okWide] at hv
  unfold Cell.ok at hv
  rw [Try.underlying3] at hv
  cases v <;> first | exact hv.elim | exact ⟨_, by rw [hv.1]⟩
end
end Go.Proofs.Ytmibmjehjagmbaa

/- Slices of anything that came in, as assertions that never turn. No condition. -/
namespace Go.Proofs.Ytmibmjehjagmbaa
open Go.RowKit Go.ChangeShapes Go.WideShapes Go.Deep RX
set_option maxRecDepth 100000

def okI (x : Int) : Prop := -9223372036854775808 ≤ x ∧ x ≤ 9223372036854775807
def HP.both (A B : HP) : HP := ⟨fun R h => A.p R h ∧ B.p R h, fun l l' ⟨a, b⟩ => ⟨A.mono l l' a, B.mono l l' b⟩⟩
/-- How a value of some type lies in cells, and what it reaches. -/
structure Kind (α : Type) where
  n : Nat
  pos : 0 < n
  vals : α → List Value
  len : ∀ x, (vals x).length = n
  hp : α → HP
  pers : ∀ x R h h', (hp x).p R h → (hp x).p R h'
theorem Rd.impR {S T : HP} {a : Option Addr} {xs : List Value} (r : Rd T a xs) (h : ∀ R x, S.p R x → T.p R x) : Rd S a xs := fun w R x F s p => r w R x F s (h R x p)
section
variable {α : Type}
def Ls (K : Kind α) (a : Option Addr) (n : Nat) (l : List α) : HP :=
  ⟨fun R h => l.length = n ∧ (RoC K.n a n (l.flatMap K.vals)).p R h ∧ ∀ x ∈ l, (K.hp x).p R h,
   fun lR lh ⟨h0, h1, h2⟩ => ⟨h0, (RoC _ _ _ _).mono lR lh h1, fun x hx => (K.hp x).mono lR lh (h2 x hx)⟩⟩
theorem Ls.pers {K : Kind α} {a : Option Addr} {n : Nat} {l : List α} {R h : PH} (h' : PH) (H : (Ls K a n l).p R h) : (Ls K a n l).p R h' := ⟨H.1, H.2.1, fun x hx => K.pers x _ _ _ (H.2.2 x hx)⟩
theorem Ls.rd {K : Kind α} {a : Option Addr} {n : Nat} {l : List α} : Rd (Ls K a n l) a (l.flatMap K.vals) := Rd.impR (RoC.rd K.n a n (l.flatMap K.vals)) fun _ _ H => H.2.1
theorem flat_getL (f : α → List Value) (w : Nat) (hw : ∀ x, (f x).length = w) : ∀ (l : List α) (k j : Nat) (x : α), l[k]? = some x → j < w → (l.flatMap f)[k * w + j]? = (f x)[j]?
  | [], k, j, x, h, _ => by simp at h
  | y :: r, 0, j, x, h, hj => by
    simp at h; subst h
    rw [List.flatMap_cons, Nat.zero_mul, Nat.zero_add, List.getElem?_append_left (by rw [hw]; exact hj)]
  | y :: r, k + 1, j, x, h, hj => by
    rw [List.flatMap_cons, List.getElem?_append_right (by rw [hw, Nat.succ_mul]; omega), hw, show (k + 1) * w + j - w = k * w + j by rw [Nat.succ_mul]; omega]
    exact flat_getL f w hw r k j x (by simpa using h) hj
theorem flat_lenL (f : α → List Value) (w : Nat) (hw : ∀ x, (f x).length = w) : ∀ l : List α, (l.flatMap f).length = l.length * w
  | [] => by simp
  | x :: l => by rw [List.flatMap_cons, List.length_append, hw, flat_lenL f w hw l, List.length_cons, Nat.succ_mul, Nat.add_comm]
/-- The load of an element that is a struct. -/
theorem Ls.load {K : Kind α} {t : TypeId} {d : TypeDesc} (hd : Try.prog.underlying t = some d) (ha : aggT Try.prog t = true) (hz : szT Try.prog t = K.n) {a : Option Addr} {n : Nat} {l : List α} {k : Nat} {x : α} (hk : l[k]? = some x) :
    ORead Try.prog (loadS t (.pointer (a.map fun y => (y.add (k * K.n)).add 0))) (Ls K a n l) (.agg (K.vals x).toArray) := by
  refine loadN_ok (vs := K.vals x) hd ha (Ls.rd (K := K)) (k := k * K.n) (off := 0) (by rw [K.len]; exact hz) (by rw [K.len]; exact K.pos) fun j v hj => ?_
  have hlt : j < K.n := by
    have := (List.getElem?_eq_some_iff.1 hj).1
    rw [K.len] at this; exact this
  rw [Nat.add_zero, flat_getL K.vals K.n K.len l k j x hk hlt]
  exact hj
/-- .. of a part of it, of one cell. -/
theorem Ls.load1 {K : Kind α} {t : TypeId} {d : TypeDesc} (hd : Try.prog.underlying t = some d) (ha : aggT Try.prog t = false) (hz : szT Try.prog t = 1) {a : Option Addr} {n : Nat} {l : List α} {k off : Nat} {x : α} {v : Value} (hk : l[k]? = some x) (hv : (K.vals x)[off]? = some v) :
    ORead Try.prog (loadS t (.pointer (a.map fun y => (y.add (k * K.n)).add off))) (Ls K a n l) v := by
  refine load1_ok hd ha hz (Ls.rd (K := K)) (k := k * K.n) (off := off) ?_
  have hlt : off < K.n := by
    have := (List.getElem?_eq_some_iff.1 hv).1
    rw [K.len] at this; exact this
  rw [flat_getL K.vals K.n K.len l k off x hk hlt]
  exact hv
end
section
variable {H : Type} {enc : TypeId × Value → H} {w : World} {α : Type}
theorem slice_of_trod [Inhabited α] (K : Kind α) {t e : TypeId} (hu : Try.prog.underlying t = some (.slice e)) (hn : Try.prog.cellsOf e = K.n) (hb : 1 ≤ Try.prog.bytesOf e)
    (el : ∀ {cs : List Value} {n : Nat} {x : DataW H × List MemPlace}, DataW.trod enc Try.prog w 0 (fun _ => true) true n e cs = some x → Small Try.prog e x.1 → ∃ m : α, cs = K.vals m ∧ ∀ h, (K.hp m).p (allOf w) h)
    {fuel : Nat} {v : Value} {x : DataW H × List MemPlace} (h : DataW.trod enc Try.prog w 0 (fun _ => true) true fuel t [v] = some x) (hs : Small Try.prog t x.1) :
    ∃ (a : Option Addr) (l : List α) (c : Nat), v = .slice a l.length c ∧ l.length ≤ 140737488355328 ∧ ∀ h, (Ls K a l.length l).p (allOf w) h := by
  rcases open_slice hu h with ⟨hcs, _⟩ | ⟨a, len, cap, m, n, D, Pl, hcs, _, hl, hmax, hm, hxx, hx⟩
  · simp at hcs
    subst hcs
    exact ⟨none, [], 0, rfl, by simp, fun h => ⟨rfl, RoC.nil _ _ _ _, fun x hx => by cases hx⟩⟩
  · simp at hcs
    subst hcs
    rw [hn] at hx
    have hlm : len ≤ m := by rw [hm]; simp only [if_true]; exact hl
    rw [hxx] at hs
    have hbl : len ≤ 140737488355328 := by
      have := hs.len hu
      unfold reachBytes at this
      simp at this
      have h2 : (len + (m - len)) * 1 ≤ (len + (m - len)) * Try.prog.bytesOf e := Nat.mul_le_mul_left _ hb
      omega
    have hx' : ∀ i, i < len → ∃ q : α, (∀ j, j < K.n → w.cell? (a.add (i * K.n + j)) = (K.vals q)[j]?) ∧ ∀ h, (K.hp q).p (allOf w) h := fun i hi => by
      obtain ⟨cs', h1, h2⟩ := hx i (by omega)
      obtain ⟨q, rfl, hr⟩ := el h2 (hs.elem hu (List.mem_map.2 ⟨i, List.mem_range.2 hi, rfl⟩))
      obtain ⟨_, _, hc⟩ := World.cells?_some h1
      refine ⟨q, fun j hj => ?_, hr⟩
      rw [← add_add, hc j hj]
    obtain ⟨ra, hra⟩ := choose_lt (p := fun i (q : α) => (∀ j, j < K.n → w.cell? (a.add (i * K.n + j)) = (K.vals q)[j]?) ∧ ∀ h, (K.hp q).p (allOf w) h) hx'
    have hlen : ((List.range len).map ra).length = len := by simp
    refine ⟨some a, (List.range len).map ra, cap, by rw [hlen], by rw [hlen]; exact hbl, fun h => ⟨rfl, ?_, fun x hx => ?_⟩⟩
    · rw [hlen]
      by_cases h0 : len = 0
      · subst h0; exact RoC.nil _ _ _ _
      · have hsp : a.spot = none := by
          have h1 := (hra 0 (by omega)).1 0 K.pos
          rw [Nat.zero_mul, Nat.add_zero, Addr.add_zero', List.getElem?_eq_getElem (by rw [K.len]; exact K.pos)] at h1
          exact spot_none h1
        obtain ⟨g, off, sp⟩ := a
        simp only at hsp
        subst hsp
        have hlen2 : (((List.range len).map ra).flatMap K.vals).length = len * K.n := by rw [flat_lenL K.vals K.n K.len, hlen]
        refine roC_of K.pos hlen2 fun i v hv => ?_
        have hi : i < len * K.n := by have := (List.getElem?_eq_some_iff.1 hv).1; rw [hlen2] at this; exact this
        have hk : i / K.n < len := Nat.div_lt_of_lt_mul (by rw [Nat.mul_comm]; exact hi)
        have hj : i % K.n < K.n := Nat.mod_lt _ K.pos
        have e : i = (i / K.n) * K.n + i % K.n := by rw [Nat.mul_comm]; exact (Nat.div_add_mod i K.n).symm
        have hg : ((List.range len).map ra)[i / K.n]? = some (ra (i / K.n)) := by simp [hk]
        have h1 := flat_getL K.vals K.n K.len _ (i / K.n) (i % K.n) _ hg hj
        rw [← e] at h1
        have h2 := (hra (i / K.n) hk).1 (i % K.n) hj
        rw [← e] at h2
        rw [h1] at hv
        rw [hv] at h2
        exact (addr_plain h2).2.1
    · obtain ⟨i, hi, rfl⟩ := List.mem_map.1 hx
      exact (hra i (List.mem_range.1 hi)).2 h
/-- A parameter that is a slice. -/
theorem slice_open [Inhabited α] (K : Kind α) {t e : TypeId} (hu : Try.prog.underlying t = some (.slice e)) (hn : Try.prog.cellsOf e = K.n) (hb : 1 ≤ Try.prog.bytesOf e)
    (el : ∀ {cs : List Value} {n : Nat} {x : DataW H × List MemPlace}, DataW.trod enc Try.prog w 0 (fun _ => true) true n e cs = some x → Small Try.prog e x.1 → ∃ m : α, cs = K.vals m ∧ ∀ h, (K.hp m).p (allOf w) h)
    {base : Nat} {v : Value} (hv : Value.okWide Try.prog w .any base t v) (h : ∃ d p, DataW.Trod enc Try.prog w 0 (fun _ => true) true t v d p ∧ Small Try.prog t d) :
    ∃ (a : Option Addr) (l : List α) (c : Nat), v = .slice a l.length c ∧ l.length ≤ 140737488355328 ∧ ∀ h, (Ls K a l.length l).p (allOf w) h := by
  obtain ⟨b, len, cap, rfl⟩ := okWide_slice hu hv
  obtain ⟨d, p, ⟨fuel, hf⟩, hsm⟩ := h
  exact slice_of_trod K hu hn hb el hf hsm
/-- A parameter that is a struct. -/
theorem struct_open (K : Kind α) {t : TypeId} {fs : Array Field} (hu : Try.prog.underlying t = some (.struct fs))
    (el : ∀ {cs : List Value} {n : Nat} {x : DataW H × List MemPlace}, DataW.trod enc Try.prog w 0 (fun _ => true) true n t cs = some x → Small Try.prog t x.1 → ∃ m : α, cs = K.vals m ∧ ∀ h, (K.hp m).p (allOf w) h)
    {base : Nat} {v : Value} (hv : Value.okWide Try.prog w .any base t v) (h : ∃ d p, DataW.Trod enc Try.prog w 0 (fun _ => true) true t v d p ∧ Small Try.prog t d) :
    ∃ m : α, v = .agg (K.vals m).toArray ∧ ∀ h, (K.hp m).p (allOf w) h := by
  obtain ⟨d, p, ⟨fuel, hf⟩, hsm⟩ := h
  unfold Value.okWide at hv
  rw [hu] at hv
  obtain ⟨cs, rfl, _, _⟩ := hv
  obtain ⟨m, h1, h2⟩ := el hf hsm
  refine ⟨m, ?_, h2⟩
  have e : cs.toList = K.vals m := h1
  rw [← e]
theorem field_str {t : TypeId} {cs : List Value} {n i c : Nat} {xs : List (DataW H × List MemPlace)} {j : Nat} (hu : Try.prog.underlying t = some .string) (hj : j < xs.length) (hc : c = 1)
    (h : DataW.trod enc Try.prog w 0 (fun _ => true) true n t ((cs.drop i).take c) = xs[j]?) : ∃ x : List UInt8, cs[i]? = some (.string ⟨x.toArray⟩) ∧ x.length ≤ 9223372036854775807 := by
  subst hc
  rw [List.getElem?_eq_getElem hj] at h
  obtain ⟨s, h1, _, h2⟩ := DataW.trod_string hu h
  refine ⟨s.data.toList, by rw [take1 h1], ?_⟩
  exact Nat.le_trans (Nat.le_of_eq (Array.length_toList)) h2
theorem int_wf {x : Int} (h : (Lit.int IntKind.i64 x).wf = true) : okI x := by
  have h2 : (decide (IntKind.i64.min ≤ x) && decide (x ≤ IntKind.i64.max)) = true := h
  rw [Bool.and_eq_true] at h2
  exact ⟨of_decide_eq_true h2.1, of_decide_eq_true h2.2⟩
/-- A parameter that is an int. -/
theorem int_openR {base : Nat} {v : Value} (hv : Value.okWide Try.prog w .any base 3 v) (h : ∃ d p, DataW.Trod enc Try.prog w 0 (fun _ => true) true 3 v d p ∧ Small Try.prog 3 d) : ∃ n, v = .int .i64 n ∧ okI n := by
  obtain ⟨n, rfl⟩ := int_open enc base v w hv
  obtain ⟨d, p, ⟨fuel, hf⟩, _⟩ := h
  obtain ⟨x, hx, _, hw⟩ := DataW.trod_int Try.underlying3 hf
  simp [Value.cells] at hx
  subst hx
  exact ⟨n, rfl, int_wf hw⟩
/-- A parameter that is bytes. -/
theorem bytes_openR {base : Nat} {v : Value} (hv : Value.okWide Try.prog w .any base 30 v) (h : ∃ d p, DataW.Trod enc Try.prog w 0 (fun _ => true) true 30 v d p ∧ Small Try.prog 30 d) :
    ∃ (a : Option Addr) (l : List UInt8) (c : Nat), v = .slice a l.length c ∧ l.length ≤ 140737488355328 ∧ ∀ h, (RoB a l.length l).p (allOf w) h := by
  obtain ⟨b, len, cap, rfl⟩ := okWide_slice Try.underlying30 hv
  obtain ⟨d, p, ⟨fuel, hf⟩, hsm⟩ := h
  exact bytes_of_trod hf hsm
end
def kInt : Kind Int where
  n := 1
  pos := by decide
  vals x := [.int .i64 x]
  len _ := rfl
  hp x := HP.pure (okI x)
  pers _ _ _ _ h := h
theorem kInt_trod {H : Type} {enc : TypeId × Value → H} {w : World} {cs : List Value} {n : Nat} {x : DataW H × List MemPlace} (h : DataW.trod enc Try.prog w 0 (fun _ => true) true n 3 cs = some x) (_ : Small Try.prog 3 x.1) : ∃ m : Int, cs = kInt.vals m ∧ ∀ h, (kInt.hp m).p (allOf w) h := by
  obtain ⟨x, hx, _, hw⟩ := DataW.trod_int Try.underlying3 h
  exact ⟨x, hx, fun _ => int_wf hw⟩
end Go.Proofs.Ytmibmjehjagmbaa

/- Slices whose elements hold pointers to what they own: appended to, one taken out, and put back. No condition. -/
namespace Go.Proofs.Ytmibmjehjagmbaa
open Go.Proofs.Ytmibmjehjagmbaa RX

/-- How an element lies in cells, and what it owns. -/
structure PK (α : Type) where
  e : TypeId
  n : Nat
  pos : 0 < n
  vals : α → List Value
  len : ∀ x, (vals x).length = n
  one : ∀ x, ∀ u ∈ vals x, u.oneCell' = true
  rep : α → HP
section
variable {α : Type} (K : PK α)
def PL (a : Option Addr) (n c : Nat) (l : List α) : HP := HP.and (l.length = n) (HP.sep (OwC K.e K.n a n c (l.flatMap K.vals)) (sepN (l.map K.rep)))
def PRest (a : Option Addr) (n c : Nat) (l : List α) (k : Nat) : HP := HP.and (l.length = n) (HP.sep (OwC K.e K.n a n c (l.flatMap K.vals)) (sepN ((l.map K.rep).eraseIdx k)))
variable {K}
theorem PL.isAt {a : Option Addr} {n c : Nat} {l : List α} {R h : PH} (H : (PL K a n c l).p R h) (hn : n ≠ 0) : a.isSome = true := OwC.some (HP.sep_left H.2) (by omega)
theorem PL.len {a : Option Addr} {n c : Nat} {l : List α} {R h : PH} (H : (PL K a n c l).p R h) : l.length = n := H.1
theorem PL.zero (x : Nat) {R h : PH} (H : (HP.one x (.cells #[] K.e (0, 0))).p R h) : (PL K (some ⟨x, 0, none⟩) 0 0 []).p R h :=
  ⟨rfl, HP.sep_tt ⟨by simp, .inr ⟨x, #[], rfl, H, Nat.le_refl _, by unfold maxLen; omega, by simp, by simp⟩⟩⟩
/-- A new slice, laid with elements. -/
theorem PL.lit (x : Nat) (l : List α) (hb : l.length ≤ 1000) {R h : PH} (H : (HP.sep (HP.one x (.cells (l.flatMap K.vals).toArray K.e (0, 0))) (sepN (l.map K.rep))).p R h) : (PL K (some ⟨x, 0, none⟩) l.length l.length l).p R h := by
  refine ⟨rfl, HP.sep_mono H (fun y hy => ⟨flat_lenL K.vals K.n K.len l, .inr ⟨x, _, rfl, hy, Nat.le_refl _, by unfold maxLen; omega, ?_, ?_⟩⟩) fun _ h => h⟩
  · rw [List.size_toArray]; exact flat_lenL K.vals K.n K.len l
  · show (l.flatMap K.vals).take _ = _
    rw [← flat_lenL K.vals K.n K.len l, List.take_length]
theorem PL.app (t ty : TypeId) {i : TypeInfo} {z : Value} (ht : Try.prog.underlying t = some (.slice K.e)) (hi : Try.prog.info? K.e = some i) (hz : i.zero = some z) (hzs : z.cells.size = i.size) (hs : i.size = K.n) (hby : i.bytes ≤ 1000)
    (a : Option Addr) (n c : Nat) (l : List α) (b : Nat) (x : α) (Q : HP) (hb : n ≤ 1000000000) :
    OTri Try.prog (appS t ty (.slice a n c) (.slice (some ⟨b, 0, none⟩) 1 1)) (HP.sep (PL K a n c l) (HP.sep (HP.one b (.cells (K.vals x).toArray K.e (0, 0))) (HP.sep (K.rep x) Q)))
      (fun v => HP.ex fun a' => HP.ex fun c' => HP.and (v = .slice a' (n + 1) c') (HP.sep (PL K a' (n + 1) c' (l ++ [x])) Q)) := by
  have hr := one_rd b (K.vals x).toArray K.e
  have hbn : (n + 1) * i.bytes ≤ 140737488355328 := by
    have := Nat.mul_le_mul (show n + 1 ≤ 1000000001 by omega) hby
    omega
  have := append_ok t ty K.e i z ht hi hz hzs (by rw [hs]; exact K.pos) a n c (l.flatMap K.vals) (HP.one b (.cells (K.vals x).toArray K.e (0, 0))) ⟨b, 0, none⟩ 1 1 (K.vals x) (by simpa using hr) (by rw [K.len, hs, Nat.one_mul]) (K.one x) (by unfold maxLen; omega) hbn
  rw [hs] at this
  refine OTri.fact (φ := l.length = n) (fun R h H => (HP.sep_left H).1) fun hl => ?_
  refine (this.frame (HP.sep (sepN (l.map K.rep)) (HP.sep (K.rep x) Q))).weak (fun R h H => ?_) ?_
  · have H1 := HP.sep_assoc (HP.sep_mono H (fun _ h => h.2) fun _ h => h)
    exact HP.sep_assoc' (HP.pick [_, _, _, _, _] [0, 2, 1, 3, 4] (by decide) rfl H1)
  · rintro v R h ⟨h1, h2, d, l1, l2, ⟨a', c', rfl, H⟩, HU⟩
    refine ⟨a', c', rfl, ?_⟩
    have H1 := HP.sep_assoc ⟨h1, h2, d, l1, l2, H, HU⟩
    have H2 : (HP.sep (OwC K.e K.n a' (n + 1) c' (l.flatMap K.vals ++ K.vals x)) (HP.sep (sepN (l.map K.rep)) (HP.sep (K.rep x) Q))).p R h := HP.sep_mono H1 (fun _ h => h) fun y hy => HP.sep_right hy
    have e : (l ++ [x]).map K.rep = l.map K.rep ++ [K.rep x] := by simp
    have H3 : (HP.sep (OwC K.e K.n a' (n + 1) c' (l.flatMap K.vals ++ K.vals x)) (HP.sep (sepN ((l ++ [x]).map K.rep)) Q)).p R h := HP.sep_mono H2 (fun _ h => h) fun y hy => by
      have := HP.sep_assoc' hy
      rw [e]
      exact HP.sep_mono this (fun z hz => (sepN_app (l := l.map K.rep) (m := [K.rep x])).2 hz) fun _ h => h
    have H4 := HP.sep_assoc' H3
    refine HP.sep_mono H4 (fun y hy => ⟨by simp [hl], ?_⟩) fun _ h => h
    have e2 : (l ++ [x]).flatMap K.vals = l.flatMap K.vals ++ K.vals x := by simp
    rw [e2]
    exact hy
theorem PL.rd (a : Option Addr) (n c : Nat) (l : List α) : Rd (PL K a n c l) a (l.flatMap K.vals) := Rd.impR (Rd.left (B := sepN (l.map K.rep)) (OwC.rd K.e K.n a n c (l.flatMap K.vals))) fun R h H => H.2
theorem PL.focus {a : Option Addr} {n c : Nat} {l : List α} {k : Nat} {x : α} (hk : l[k]? = some x) {R h : PH} (H : (PL K a n c l).p R h) : (HP.sep (K.rep x) (PRest K a n c l k)).p R h := by
  have H1 := HP.sep_mono H.2 (fun _ h => h) fun y hy => sepN_focus (k := k) (x := K.rep x) (by simp [hk]) hy
  exact HP.sep_mono (HP.swap H1) (fun _ h => h) fun y hy => ⟨H.1, hy⟩
theorem PL.load {d : TypeDesc} (hd : Try.prog.underlying K.e = some d) (ha : aggT Try.prog K.e = true) (hz : szT Try.prog K.e = K.n) {a : Option Addr} {n c : Nat} {l : List α} {k : Nat} {x : α} (hk : l[k]? = some x) :
    OTri Try.prog (loadS K.e (.pointer (a.map fun y => (y.add (k * K.n)).add 0))) (PL K a n c l) (fun v => HP.and (v = .agg (K.vals x).toArray) (HP.sep (K.rep x) (PRest K a n c l k))) := by
  refine OTri.ofRead (loadN_ok (vs := K.vals x) hd ha (PL.rd a n c l) (k := k * K.n) (off := 0) (by rw [K.len]; exact hz) (by rw [K.len]; exact K.pos) fun j v hj => ?_) fun R h H => ⟨rfl, PL.focus hk H⟩
  have hlt : j < K.n := by
    have := (List.getElem?_eq_some_iff.1 hj).1
    rw [K.len] at this; exact this
  rw [Nat.add_zero, flat_getL K.vals K.n K.len l k j x hk hlt]
  exact hj
theorem PL.load1 {d : TypeDesc} (hd : Try.prog.underlying K.e = some d) (ha : aggT Try.prog K.e = false) (hz : szT Try.prog K.e = 1) (hn : K.n = 1) {a : Option Addr} {n c : Nat} {l : List α} {k : Nat} {x : α} {v0 : Value} (hv : K.vals x = [v0]) (hk : l[k]? = some x) :
    OTri Try.prog (loadS K.e (.pointer (a.map fun y => (y.add (k * 1)).add 0))) (PL K a n c l) (fun v => HP.and (v = v0) (HP.sep (K.rep x) (PRest K a n c l k))) := by
  refine OTri.ofRead (load1_ok hd ha hz (PL.rd a n c l) (k := k * 1) (off := 0) (v := v0) ?_) fun R h H => ⟨rfl, PL.focus hk H⟩
  have := flat_getL K.vals K.n K.len l k 0 x hk (by omega)
  rw [hn, hv] at this
  exact this
theorem flat_set {f : α → List Value} {l : List α} {k : Nat} {x y : α} (hk : l[k]? = some x) (e : f y = f x) : (l.set k y).flatMap f = l.flatMap f := by
  have hlt : k < l.length := (List.getElem?_eq_some_iff.1 hk).1
  have : (l.set k y).map f = l.map f := by
    rw [List.map_set, e]
    refine List.ext_getElem? fun j => ?_
    rw [List.getElem?_set]
    split
    · rename_i hj; subst hj; rw [if_pos (by simpa using hlt), List.getElem?_map, hk]; rfl
    · rfl
  rw [List.flatMap_def, List.flatMap_def, this]
theorem PL.join {a : Option Addr} {n c : Nat} {l : List α} {k : Nat} {x y : α} (hk : l[k]? = some x) (e : K.vals y = K.vals x) {R h : PH} (H : (HP.sep (PRest K a n c l k) (K.rep y)).p R h) : (PL K a n c (l.set k y)).p R h := by
  have hlt : k < l.length := (List.getElem?_eq_some_iff.1 hk).1
  obtain ⟨h1, h2, d, l1, l2, ⟨hn, H⟩, HU⟩ := H
  refine ⟨by simp [hn], ?_⟩
  have H1 := HP.sep_assoc ⟨h1, h2, d, l1, l2, H, HU⟩
  refine HP.sep_mono H1 (fun z hz => by rw [flat_set hk e]; exact hz) fun z hz => ?_
  rw [List.map_set]
  exact sepN_unfocus (by simpa using hlt) (HP.sep_comm hz)
end
end Go.Proofs.Ytmibmjehjagmbaa

/- Trees of functions, printed by rx.lean. No condition. -/
namespace Go.Proofs.Ytmibmjehjagmbaa.RX
set_option maxRecDepth 100000
-- tideline/tidelineref09.number: ρ := [.i n]
def t_qNumber : T :=
(.br (.o2 .le (.i 0) (.v 0))
 (.ret (.w (.a (.bool (.o2 .le (.v 0) (.i 2147483647))))) [])
 (.ret (.w (.a (.bool (.c false)))) []))
theorem tree_qNumber : tree Try.prog { absT := [], opq := [], hv := [], keep := [87, 37, 39, 41, 109, 107, 62, 112, 111, 110, 133, 113], link := [], ent := [], turn := [], shr := [], vt := [], mkd := [], rlink := [], pty := [], outl := false, stay := [], snk := [] } Try.f133 [(.a (.int .i64 (.v 0)))] [] 1 = t_qNumber := by kernel_rfl
-- tideline/tidelineref09.Less: ρ := [.i a_Round, .i a_Who, .i b_Round, .i b_Who]
def t_qLess : T :=
(.new
(.new
(.br (.o1 .not (.o2 .eq (.v 0) (.v 2)))
 (.ret (.w (.a (.bool (.o2 .lt (.v 0) (.v 2))))) [])
 (.ret (.w (.a (.bool (.o2 .lt (.v 1) (.v 3))))) []))))
theorem tree_qLess : tree Try.prog { absT := [], opq := [], hv := [], keep := [87, 37, 39, 41, 109, 107, 62, 112, 111, 110, 133, 113], link := [], ent := [], turn := [], shr := [], vt := [], mkd := [], rlink := [], pty := [], outl := false, stay := [], snk := [] } Try.f111 [(.agg [(.int .i64 (.v 0)), (.int .i64 (.v 1))]), (.agg [(.int .i64 (.v 2)), (.int .i64 (.v 3))])] [] 4 = t_qLess := by kernel_rfl
-- tideline/tidelineref09.may: ρ := [.i n, .i b_Round, .i b_Who]
def t_qMay : T :=
(.new
(.br (.o2 .le (.i 1) (.v 0))
 (.call 133 [(.a (.int .i64 (.v 0)))] [] [.c] (.w (.a (.bool (.v 4)))) []
 (.br (.v 4)
  (.call 133 [(.a (.int .i64 (.v 1)))] [] [.c] (.w (.a (.bool (.v 5)))) []
  (.br (.v 5)
   (.call 133 [(.a (.int .i64 (.v 2)))] [] [.c] (.w (.a (.bool (.v 6)))) []
   (.ret (.w (.a (.bool (.v 6)))) []))
   (.ret (.w (.a (.bool (.c false)))) [])))
  (.ret (.w (.a (.bool (.c false)))) [])))
 (.ret (.w (.a (.bool (.c false)))) [])))
theorem tree_qMay : tree Try.prog { absT := [], opq := [], hv := [], keep := [87, 37, 39, 41, 109, 107, 62, 112, 111, 110, 133, 113], link := [], ent := [], turn := [], shr := [], vt := [], mkd := [], rlink := [], pty := [], outl := false, stay := [], snk := [] } Try.f110 [(.a (.int .i64 (.v 0))), (.agg [(.int .i64 (.v 1)), (.int .i64 (.v 2))])] [] 3 = t_qMay := by kernel_rfl
-- (*tideline/tidelineref09.Unit).last: ρ := [.n u, .a u_Pagesa, .n u_Pagesl, .n u_Pagesc, .p u_PagesP, .i u_Room, .i kind]
def t_qLast : T :=
(.need (.o1 (.inr .i64) (.o2 .sub (.o1 .ofNat (.v 2)) (.i 1)))
(.loop [.i, .i] [(.e (.o1 .neg (.o1 .neg (.i 0)))), (.e (.o1 .neg (.o1 .neg (.o2 .sub (.o1 .ofNat (.v 2)) (.i 1)))))]
 (.br (.o2 .le (.i 0) (.v 8))
  (.need (.o2 .lt (.v 8) (.o1 .ofNat (.v 2)))
  (.need (.o1 .isSome (.v 1))
  (.read (.load 3 (.tmp 22)) 3 [(22, (.w (.a (.eptr 1 (.v 8) 5 0))))] [((.a 1), (.prop 4))] [.i] (.w (.a (.int .i64 (.v 9))))
  (.br (.o2 .eq (.v 9) (.v 6))
   (.read (.load 3 (.tmp 32)) 3 [(32, (.w (.a (.eptr 1 (.v 8) 5 1))))] [((.a 1), (.prop 4))] [.i] (.w (.a (.int .i64 (.v 10))))
   (.ret (.w (.a (.int .i64 (.v 10)))) [((.b (.v 0)), (.cells [(.sl (.v 1) (.v 2) (.v 3)), (.int .i64 (.v 5))] 45)), ((.a 1), (.prop 4))]))
   (.need (.o1 (.inr .i64) (.o2 .sub (.v 8) (.i 1)))
   (.again 0 [(.e (.o1 .neg (.o1 .neg (.v 7)))), (.e (.o1 .neg (.o1 .neg (.o2 .sub (.v 8) (.i 1)))))]))))))
  (.ret (.w (.a (.int .i64 (.i 0)))) [((.b (.v 0)), (.cells [(.sl (.v 1) (.v 2) (.v 3)), (.int .i64 (.v 5))] 45)), ((.a 1), (.prop 4))]))))
theorem tree_qLast : tree Try.prog { absT := [], opq := [], hv := [], keep := [87, 37, 39, 41, 109, 107, 62, 112, 111, 110, 133, 113], link := [], ent := [], turn := [], shr := [], vt := [], mkd := [], rlink := [], pty := [], outl := false, stay := [], snk := [] } Try.f87 [(.a (.ptr (.v 0) 0)), (.a (.int .i64 (.v 6)))] [((.b (.v 0)), (.cells [(.sl (.v 1) (.v 2) (.v 3)), (.int .i64 (.v 5))] 45)), ((.a 1), (.prop 4))] 7 = t_qLast := by kernel_rfl
-- (*tideline/tidelineref09.Unit).Epoch: ρ := [.n u, .p uP]
def t_qEpoch : T :=
(.call 87 [(.a (.ptr (.v 0) 0)), (.a (.int .i64 (.i 4)))] [((.b (.v 0)), (.prop 1))] [.i] (.w (.a (.int .i64 (.v 2)))) [((.b (.v 0)), (.prop 1))]
(.ret (.w (.a (.int .i64 (.v 2)))) [((.b (.v 0)), (.prop 1))]))
theorem tree_qEpoch : tree Try.prog { absT := [], opq := [], hv := [], keep := [87, 37, 39, 41, 109, 107, 62, 112, 111, 110, 133, 113], link := [], ent := [], turn := [], shr := [], vt := [], mkd := [], rlink := [], pty := [], outl := false, stay := [], snk := [] } Try.f37 [(.a (.ptr (.v 0) 0))] [((.b (.v 0)), (.prop 1))] 2 = t_qEpoch := by kernel_rfl
-- (*tideline/tidelineref09.Unit).Low: ρ := [.n u, .p uP]
def t_qLow : T :=
(.call 87 [(.a (.ptr (.v 0) 0)), (.a (.int .i64 (.i 3)))] [((.b (.v 0)), (.prop 1))] [.i] (.w (.a (.int .i64 (.v 2)))) [((.b (.v 0)), (.prop 1))]
(.ret (.w (.a (.int .i64 (.v 2)))) [((.b (.v 0)), (.prop 1))]))
theorem tree_qLow : tree Try.prog { absT := [], opq := [], hv := [], keep := [87, 37, 39, 41, 109, 107, 62, 112, 111, 110, 133, 113], link := [], ent := [], turn := [], shr := [], vt := [], mkd := [], rlink := [], pty := [], outl := false, stay := [], snk := [] } Try.f39 [(.a (.ptr (.v 0) 0))] [((.b (.v 0)), (.prop 1))] 2 = t_qLow := by kernel_rfl
-- (*tideline/tidelineref09.Unit).Tail: ρ := [.n u, .a u_Pagesa, .n u_Pagesl, .n u_Pagesc, .p u_PagesP, .i u_Room]
def t_qTail : T :=
(.call 39 [(.a (.ptr (.v 0) 0))] [((.b (.v 0)), (.cells [(.sl (.v 1) (.v 2) (.v 3)), (.int .i64 (.v 5))] 45)), ((.a 1), (.prop 4))] [.i] (.w (.a (.int .i64 (.v 6)))) [((.b (.v 0)), (.cells [(.sl (.v 1) (.v 2) (.v 3)), (.int .i64 (.v 5))] 45)), ((.a 1), (.prop 4))]
(.loop [.i, .i] [(.e (.o1 .neg (.o1 .neg (.v 6)))), (.e (.o1 .neg (.o1 .neg (.i 0))))]
 (.br (.o2 .lt (.v 8) (.o1 .ofNat (.v 2)))
  (.need (.o2 .le (.i 0) (.v 8))
  (.need (.o1 .isSome (.v 1))
  (.read (.load 3 (.tmp 22)) 3 [(22, (.w (.a (.eptr 1 (.v 8) 5 0))))] [((.a 1), (.prop 4))] [.i] (.w (.a (.int .i64 (.v 9))))
  (.br (.o2 .le (.v 9) (.i 2))
   (.read (.load 3 (.tmp 32)) 3 [(32, (.w (.a (.eptr 1 (.v 8) 5 1))))] [((.a 1), (.prop 4))] [.i] (.w (.a (.int .i64 (.v 10))))
   (.need (.o1 (.inr .i64) (.o2 .add (.v 10) (.i 1)))
   (.need (.o1 (.inr .i64) (.o2 .add (.v 8) (.i 1)))
   (.again 0 [(.e (.o1 .neg (.o1 .neg (.o2 .mx (.v 7) (.o2 .add (.v 10) (.i 1)))))), (.e (.o1 .neg (.o1 .neg (.o2 .add (.v 8) (.i 1)))))]))))
   (.need (.o1 (.inr .i64) (.o2 .add (.v 8) (.i 1)))
   (.again 0 [(.e (.o1 .neg (.o1 .neg (.v 7)))), (.e (.o1 .neg (.o1 .neg (.o2 .add (.v 8) (.i 1)))))]))))))
  (.ret (.w (.a (.int .i64 (.v 7)))) [((.b (.v 0)), (.cells [(.sl (.v 1) (.v 2) (.v 3)), (.int .i64 (.v 5))] 45)), ((.a 1), (.prop 4))]))))
theorem tree_qTail : tree Try.prog { absT := [], opq := [], hv := [], keep := [87, 37, 39, 41, 109, 107, 62, 112, 111, 110, 133, 113], link := [], ent := [], turn := [], shr := [], vt := [], mkd := [], rlink := [], pty := [], outl := false, stay := [], snk := [] } Try.f41 [(.a (.ptr (.v 0) 0))] [((.b (.v 0)), (.cells [(.sl (.v 1) (.v 2) (.v 3)), (.int .i64 (.v 5))] 45)), ((.a 1), (.prop 4))] 6 = t_qTail := by kernel_rfl
-- (*tideline/tidelineref09.Unit).Cell: ρ := [.n u, .a u_Pagesa, .n u_Pagesl, .n u_Pagesc, .p u_PagesP, .i u_Room, .i at]
def t_qCell : T :=
(.new
(.need (.o1 (.inr .i64) (.o2 .sub (.o1 .ofNat (.v 2)) (.i 1)))
(.loop [.i] [(.e (.o1 .neg (.o1 .neg (.o2 .sub (.o1 .ofNat (.v 2)) (.i 1)))))]
 (.br (.o2 .le (.i 0) (.v 8))
  (.need (.o2 .lt (.v 8) (.o1 .ofNat (.v 2)))
  (.need (.o1 .isSome (.v 1))
  (.read (.load 148 (.tmp 22)) 148 [(22, (.w (.a (.eptr 1 (.v 8) 5 0))))] [((.a 1), (.prop 4))] [.i, .i, .i, .i, .a, .n, .n] (.w (.agg [(.int .i64 (.v 9)), (.int .i64 (.v 10)), (.int .i64 (.v 11)), (.int .i64 (.v 12)), (.sl (.v 13) (.v 14) (.v 15))]))
  (.new
  (.br (.o2 .le (.v 9) (.i 2))
   (.br (.o2 .eq (.v 10) (.v 6))
    (.ret (.w (.agg [(.int .i64 (.v 9)), (.sl (.v 13) (.v 14) (.v 15))])) [((.b (.v 0)), (.cells [(.sl (.v 1) (.v 2) (.v 3)), (.int .i64 (.v 5))] 45)), ((.a 1), (.prop 4))])
    (.need (.o1 (.inr .i64) (.o2 .sub (.v 8) (.i 1)))
    (.again 0 [(.e (.o1 .neg (.o1 .neg (.o2 .sub (.v 8) (.i 1)))))])))
   (.need (.o1 (.inr .i64) (.o2 .sub (.v 8) (.i 1)))
   (.again 0 [(.e (.o1 .neg (.o1 .neg (.o2 .sub (.v 8) (.i 1)))))])))))))
  (.ret (.w (.agg [(.int .i64 (.i 0)), (.sl .nil (.n 0) (.n 0))])) [((.b (.v 0)), (.cells [(.sl (.v 1) (.v 2) (.v 3)), (.int .i64 (.v 5))] 45)), ((.a 1), (.prop 4))])))))
theorem tree_qCell : tree Try.prog { absT := [], opq := [], hv := [], keep := [87, 37, 39, 41, 109, 107, 62, 112, 111, 110, 133, 113], link := [], ent := [], turn := [], shr := [], vt := [], mkd := [], rlink := [], pty := [], outl := false, stay := [], snk := [] } Try.f109 [(.a (.ptr (.v 0) 0)), (.a (.int .i64 (.v 6)))] [((.b (.v 0)), (.cells [(.sl (.v 1) (.v 2) (.v 3)), (.int .i64 (.v 5))] 45)), ((.a 1), (.prop 4))] 7 = t_qCell := by kernel_rfl
-- (*tideline/tidelineref09.Unit).ask: ρ := [.n u, .p uP, .i epoch, .i at]
def t_qAsk : T :=
(.call 37 [(.a (.ptr (.v 0) 0))] [((.b (.v 0)), (.prop 1))] [.i] (.w (.a (.int .i64 (.v 4)))) [((.b (.v 0)), (.prop 1))]
(.br (.o1 .not (.o2 .eq (.v 2) (.v 4)))
 (.ret (.w (.a (.int .i64 (.i 8)))) [((.b (.v 0)), (.prop 1))])
 (.br (.o2 .lt (.v 3) (.i 0))
  (.ret (.w (.a (.int .i64 (.i 2)))) [((.b (.v 0)), (.prop 1))])
  (.br (.o2 .lt (.i 4294967296) (.v 3))
   (.ret (.w (.a (.int .i64 (.i 2)))) [((.b (.v 0)), (.prop 1))])
   (.ret (.w (.a (.int .i64 (.i 0)))) [((.b (.v 0)), (.prop 1))])))))
theorem tree_qAsk : tree Try.prog { absT := [], opq := [], hv := [], keep := [87, 37, 39, 41, 109, 107, 62, 112, 111, 110, 133, 113], link := [], ent := [], turn := [], shr := [], vt := [], mkd := [], rlink := [], pty := [], outl := false, stay := [], snk := [] } Try.f107 [(.a (.ptr (.v 0) 0)), (.a (.int .i64 (.v 2))), (.a (.int .i64 (.v 3)))] [((.b (.v 0)), (.prop 1))] 4 = t_qAsk := by kernel_rfl
-- (*tideline/tidelineref09.Unit).Read: ρ := [.n u, .p uP, .i epoch, .i at]
def t_qRead9 : T :=
(.new
(.call 107 [(.a (.ptr (.v 0) 0)), (.a (.int .i64 (.v 2))), (.a (.int .i64 (.v 3)))] [((.b (.v 0)), (.prop 1))] [.i] (.w (.a (.int .i64 (.v 5)))) [((.b (.v 0)), (.prop 1))]
(.br (.o1 .not (.o2 .eq (.v 5) (.i 0)))
 (.ret (.tup [(.agg [(.int .i64 (.i 0)), (.sl .nil (.n 0) (.n 0))]), (.a (.int .i64 (.v 5)))]) [((.b (.v 0)), (.prop 1))])
 (.call 39 [(.a (.ptr (.v 0) 0))] [((.b (.v 0)), (.prop 1))] [.i] (.w (.a (.int .i64 (.v 6)))) [((.b (.v 0)), (.prop 1))]
 (.br (.o2 .lt (.v 3) (.v 6))
  (.ret (.tup [(.agg [(.int .i64 (.i 0)), (.sl .nil (.n 0) (.n 0))]), (.a (.int .i64 (.i 11)))]) [((.b (.v 0)), (.prop 1))])
  (.call 109 [(.a (.ptr (.v 0) 0)), (.a (.int .i64 (.v 3)))] [((.b (.v 0)), (.prop 1))] [.i, .a, .n, .n, .p] (.w (.agg [(.int .i64 (.v 7)), (.sl (.v 8) (.v 9) (.v 10))])) [((.a 8), (.prop 11)), ((.b (.v 0)), (.prop 1))]
  (.new
  (.br (.o2 .eq (.v 7) (.i 0))
   (.ret (.tup [(.agg [(.int .i64 (.v 7)), (.sl (.v 8) (.v 9) (.v 10))]), (.a (.int .i64 (.i 9)))]) [((.b (.v 0)), (.prop 1)), ((.a 8), (.prop 11))])
   (.ret (.tup [(.agg [(.int .i64 (.v 7)), (.sl (.v 8) (.v 9) (.v 10))]), (.a (.int .i64 (.i 0)))]) [((.b (.v 0)), (.prop 1)), ((.a 8), (.prop 11))])))))))))
theorem tree_qRead9 : tree Try.prog { absT := [], opq := [], hv := [], keep := [87, 37, 39, 41, 109, 107, 62, 112, 111, 110, 133, 113], link := [], ent := [], turn := [], shr := [], vt := [], mkd := [], rlink := [], pty := [], outl := false, stay := [], snk := [] } Try.f62 [(.a (.ptr (.v 0) 0)), (.a (.int .i64 (.v 2))), (.a (.int .i64 (.v 3)))] [((.b (.v 0)), (.prop 1))] 4 = t_qRead9 := by kernel_rfl
-- (*tideline/tidelineref09.Unit).promised: ρ := [.n u, .a u_Pagesa, .n u_Pagesl, .n u_Pagesc, .p u_PagesP, .i u_Room, .i n]
def t_qPromised : T :=
(.new
(.new
(.loop [.i, .i, .i] [(.e (.o1 .neg (.o1 .neg (.i 0)))), (.e (.o1 .neg (.o1 .neg (.i 0)))), (.e (.o1 .neg (.o1 .neg (.i 0))))]
 (.br (.o2 .lt (.v 9) (.o1 .ofNat (.v 2)))
  (.need (.o2 .le (.i 0) (.v 9))
  (.need (.o1 .isSome (.v 1))
  (.read (.load 3 (.tmp 23)) 3 [(23, (.w (.a (.eptr 1 (.v 9) 5 0))))] [((.a 1), (.prop 4))] [.i] (.w (.a (.int .i64 (.v 12))))
  (.br (.o2 .le (.i 5) (.v 12))
   (.read (.load 3 (.tmp 33)) 3 [(33, (.w (.a (.eptr 1 (.v 9) 5 1))))] [((.a 1), (.prop 4))] [.i] (.w (.a (.int .i64 (.v 13))))
   (.br (.o2 .eq (.v 13) (.v 6))
    (.read (.load 34 (.tmp 44)) 34 [(44, (.w (.a (.eptr 1 (.v 9) 5 2))))] [((.a 1), (.prop 4))] [.i, .i] (.w (.agg [(.int .i64 (.v 14)), (.int .i64 (.v 15))]))
    (.need (.o1 (.inr .i64) (.o2 .add (.v 9) (.i 1)))
    (.again 0 [(.e (.o1 .neg (.o1 .neg (.o2 .add (.v 9) (.i 1))))), (.e (.o1 .neg (.o1 .neg (.v 14)))), (.e (.o1 .neg (.o1 .neg (.v 15))))])))
    (.need (.o1 (.inr .i64) (.o2 .add (.v 9) (.i 1)))
    (.again 0 [(.e (.o1 .neg (.o1 .neg (.o2 .add (.v 9) (.i 1))))), (.e (.o1 .neg (.o1 .neg (.v 10)))), (.e (.o1 .neg (.o1 .neg (.v 11))))]))))
   (.need (.o1 (.inr .i64) (.o2 .add (.v 9) (.i 1)))
   (.again 0 [(.e (.o1 .neg (.o1 .neg (.o2 .add (.v 9) (.i 1))))), (.e (.o1 .neg (.o1 .neg (.v 10)))), (.e (.o1 .neg (.o1 .neg (.v 11))))]))))))
  (.ret (.w (.agg [(.int .i64 (.v 10)), (.int .i64 (.v 11))])) [((.b (.v 0)), (.cells [(.sl (.v 1) (.v 2) (.v 3)), (.int .i64 (.v 5))] 45)), ((.a 1), (.prop 4))])))))
theorem tree_qPromised : tree Try.prog { absT := [], opq := [], hv := [(0, [(.b (.v 8))])], keep := [87, 37, 39, 41, 109, 107, 62, 112, 111, 110, 133, 113], link := [], ent := [], turn := [], shr := [], vt := [], mkd := [], rlink := [], pty := [], outl := false, stay := [], snk := [] } Try.f112 [(.a (.ptr (.v 0) 0)), (.a (.int .i64 (.v 6)))] [((.b (.v 0)), (.cells [(.sl (.v 1) (.v 2) (.v 3)), (.int .i64 (.v 5))] 45)), ((.a 1), (.prop 4))] 7 = t_qPromised := by kernel_rfl
-- (*tideline/tidelineref09.Unit).accepted: ρ := [.n u, .a u_Pagesa, .n u_Pagesl, .n u_Pagesc, .p u_PagesP, .i u_Room, .i n]
def t_qAccepted : T :=
(.new
(.new
(.new
(.loop [.a, .n, .n, .i, .p, .i, .i] [(.a (.b (.v 9) 0)), (.e (.o2 .nadd (.n 0) (.n 0))), (.e (.o2 .nadd (.n 0) (.n 0))), (.e (.o1 .neg (.o1 .neg (.i 0)))), (.p [((.b (.v 9)), (.cells [] 5))]), (.e (.o1 .neg (.o1 .neg (.i 0)))), (.e (.o1 .neg (.o1 .neg (.i 0))))]
 (.br (.o2 .lt (.v 13) (.o1 .ofNat (.v 2)))
  (.need (.o2 .le (.i 0) (.v 13))
  (.need (.o1 .isSome (.v 1))
  (.read (.load 3 (.tmp 26)) 3 [(26, (.w (.a (.eptr 1 (.v 13) 5 0))))] [((.a 1), (.prop 4))] [.i] (.w (.a (.int .i64 (.v 17))))
  (.br (.o2 .eq (.v 17) (.i 6))
   (.read (.load 3 (.tmp 36)) 3 [(36, (.w (.a (.eptr 1 (.v 13) 5 1))))] [((.a 1), (.prop 4))] [.i] (.w (.a (.int .i64 (.v 18))))
   (.br (.o2 .eq (.v 18) (.v 6))
    (.read (.load 34 (.tmp 47)) 34 [(47, (.w (.a (.eptr 1 (.v 13) 5 2))))] [((.a 1), (.prop 4))] [.i, .i] (.w (.agg [(.int .i64 (.v 19)), (.int .i64 (.v 20))]))
    (.new
    (.read (.load 30 (.tmp 56)) 30 [(56, (.w (.a (.eptr 1 (.v 13) 5 4))))] [((.a 1), (.prop 4))] [.a, .n, .n] (.w (.a (.sl (.v 22) (.v 23) (.v 24))))
    (.op (.call ⟨.builtin .append, #[(.tmp 49), (.tmp 57)], #[30, 30]⟩) 30 [(49, (.w (.a (.sl (.b (.v 21) 0) (.n 0) (.n 0))))), (57, (.w (.a (.sl (.v 22) (.v 23) (.v 24)))))] [((.b (.v 21)), (.cells [] 5)), ((.a 1), (.prop 4))] [.a, .n, .n, .p] (.w (.a (.sl (.v 25) (.v 26) (.v 27)))) [((.a 25), (.prop 28)), ((.a 1), (.prop 4))]
    (.need (.o1 (.inr .i64) (.o2 .add (.v 13) (.i 1)))
    (.again 0 [(.a (.v 25)), (.e (.o2 .nadd (.v 26) (.n 0))), (.e (.o2 .nadd (.v 27) (.n 0))), (.e (.o1 .neg (.o1 .neg (.o2 .add (.v 13) (.i 1))))), (.p [((.a 25), (.prop 28))]), (.e (.o1 .neg (.o1 .neg (.v 19)))), (.e (.o1 .neg (.o1 .neg (.v 20))))]))))))
    (.need (.o1 (.inr .i64) (.o2 .add (.v 13) (.i 1)))
    (.again 0 [(.a (.v 10)), (.e (.o2 .nadd (.v 11) (.n 0))), (.e (.o2 .nadd (.v 12) (.n 0))), (.e (.o1 .neg (.o1 .neg (.o2 .add (.v 13) (.i 1))))), (.p [((.a 10), (.prop 14))]), (.e (.o1 .neg (.o1 .neg (.v 15)))), (.e (.o1 .neg (.o1 .neg (.v 16))))]))))
   (.need (.o1 (.inr .i64) (.o2 .add (.v 13) (.i 1)))
   (.again 0 [(.a (.v 10)), (.e (.o2 .nadd (.v 11) (.n 0))), (.e (.o2 .nadd (.v 12) (.n 0))), (.e (.o1 .neg (.o1 .neg (.o2 .add (.v 13) (.i 1))))), (.p [((.a 10), (.prop 14))]), (.e (.o1 .neg (.o1 .neg (.v 15)))), (.e (.o1 .neg (.o1 .neg (.v 16))))]))))))
  (.ret (.tup [(.agg [(.int .i64 (.v 15)), (.int .i64 (.v 16))]), (.a (.sl (.v 10) (.v 11) (.v 12)))]) [((.b (.v 0)), (.cells [(.sl (.v 1) (.v 2) (.v 3)), (.int .i64 (.v 5))] 45)), ((.a 1), (.prop 4)), ((.a 10), (.prop 14))]))))))
theorem tree_qAccepted : tree Try.prog { absT := [], opq := [], hv := [(0, [(.b (.v 9)), (.b (.v 8))])], keep := [87, 37, 39, 41, 109, 107, 62, 112, 111, 110, 133, 113], link := [], ent := [], turn := [], shr := [], vt := [], mkd := [], rlink := [], pty := [], outl := false, stay := [], snk := [] } Try.f113 [(.a (.ptr (.v 0) 0)), (.a (.int .i64 (.v 6)))] [((.b (.v 0)), (.cells [(.sl (.v 1) (.v 2) (.v 3)), (.int .i64 (.v 5))] 45)), ((.a 1), (.prop 4))] 7 = t_qAccepted := by kernel_rfl
-- (*tideline/tidelineref09.Unit).add: ρ := [.n u, .a u_Pagesa, .n u_Pagesl, .n u_Pagesc, .p u_PagesP, .i u_Room, .i p_Kind, .i p_N, .i p_Ballot_Round, .i p_Ballot_Who, .a p_Bytesa, .n p_Bytesl, .n p_Bytesc, .p p_BytesP]
def t_qAdd : T :=
(.new
(.br (.o2 .le (.v 5) (.o1 .ofNat (.v 2)))
 (.ret (.w (.a (.int .i64 (.i 4)))) [((.b (.v 0)), (.cells [(.sl (.v 1) (.v 2) (.v 3)), (.int .i64 (.v 5))] 45)), ((.a 1), (.prop 4)), ((.a 10), (.prop 13))])
 (.new
 (.op (.call ⟨.builtin .append, #[(.tmp 19), (.tmp 21)], #[43, 43]⟩) 43 [(19, (.w (.a (.sl (.v 1) (.v 2) (.v 3))))), (21, (.w (.a (.sl (.b (.v 15) 0) (.n 1) (.n 1)))))] [((.a 1), (.prop 4)), ((.b (.v 15)), (.cells [(.int .i64 (.v 6)), (.int .i64 (.v 7)), (.int .i64 (.v 8)), (.int .i64 (.v 9)), (.sl (.v 10) (.v 11) (.v 12))] 148)), ((.a 10), (.prop 13))] [.a, .n, .n, .p] (.w (.a (.sl (.v 16) (.v 17) (.v 18)))) [((.a 16), (.prop 19)), ((.b (.v 15)), (.cells [(.int .i64 (.v 6)), (.int .i64 (.v 7)), (.int .i64 (.v 8)), (.int .i64 (.v 9)), (.sl (.v 10) (.v 11) (.v 12))] 148)), ((.a 10), (.prop 13))]
 (.ret (.w (.a (.int .i64 (.i 0)))) [((.b (.v 0)), (.cells [(.sl (.v 16) (.v 17) (.v 18)), (.int .i64 (.v 5))] 45)), ((.a 16), (.prop 19)), ((.a 10), (.prop 13))])))))
theorem tree_qAdd : tree Try.prog { absT := [], opq := [], hv := [], keep := [87, 37, 39, 41, 109, 107, 62, 112, 111, 110, 133, 113], link := [], ent := [], turn := [], shr := [], vt := [], mkd := [], rlink := [], pty := [], outl := false, stay := [], snk := [] } Try.f108 [(.a (.ptr (.v 0) 0)), (.agg [(.int .i64 (.v 6)), (.int .i64 (.v 7)), (.int .i64 (.v 8)), (.int .i64 (.v 9)), (.sl (.v 10) (.v 11) (.v 12))])] [((.b (.v 0)), (.cells [(.sl (.v 1) (.v 2) (.v 3)), (.int .i64 (.v 5))] 45)), ((.a 1), (.prop 4)), ((.a 10), (.prop 13))] 14 = t_qAdd := by kernel_rfl
-- (*tideline/tidelineref09.Unit).Write: ρ := [.n u, .p uP, .i epoch, .i at, .i x_What, .a x_Dataa, .n x_Datal, .n x_Datac, .p x_DataP]
def t_qWrite9 : T :=
(.new
(.new
(.call 107 [(.a (.ptr (.v 0) 0)), (.a (.int .i64 (.v 2))), (.a (.int .i64 (.v 3)))] [((.b (.v 0)), (.prop 1))] [.i] (.w (.a (.int .i64 (.v 11)))) [((.b (.v 0)), (.prop 1))]
(.br (.o1 .not (.o2 .eq (.v 11) (.i 0)))
 (.ret (.tup [(.agg [(.int .i64 (.i 0)), (.sl .nil (.n 0) (.n 0))]), (.a (.int .i64 (.v 11)))]) [((.b (.v 0)), (.prop 1)), ((.a 5), (.prop 8))])
 (.br (.o1 .not (.o2 .eq (.v 4) (.i 1)))
  (.br (.o1 .not (.o2 .eq (.v 4) (.i 2)))
   (.ret (.tup [(.agg [(.int .i64 (.i 0)), (.sl .nil (.n 0) (.n 0))]), (.a (.int .i64 (.i 1)))]) [((.b (.v 0)), (.prop 1)), ((.a 5), (.prop 8))])
   (.br (.o2 .lt (.i 0) (.o1 .ofNat (.v 6)))
    (.ret (.tup [(.agg [(.int .i64 (.i 0)), (.sl .nil (.n 0) (.n 0))]), (.a (.int .i64 (.i 1)))]) [((.b (.v 0)), (.prop 1)), ((.a 5), (.prop 8))])
    (.call 62 [(.a (.ptr (.v 0) 0)), (.a (.int .i64 (.v 2))), (.a (.int .i64 (.v 3)))] [((.b (.v 0)), (.prop 1))] [.i, .a, .n, .n, .p, .i] (.tup [(.agg [(.int .i64 (.v 12)), (.sl (.v 13) (.v 14) (.v 15))]), (.a (.int .i64 (.v 17)))]) [((.a 13), (.prop 16)), ((.b (.v 0)), (.prop 1))]
    (.new
    (.br (.o2 .eq (.v 17) (.i 11))
     (.ret (.tup [(.agg [(.int .i64 (.i 0)), (.sl .nil (.n 0) (.n 0))]), (.a (.int .i64 (.v 17)))]) [((.b (.v 0)), (.prop 1)), ((.a 5), (.prop 8))])
     (.br (.o2 .eq (.v 17) (.i 0))
      (.ret (.tup [(.agg [(.int .i64 (.v 12)), (.sl (.v 13) (.v 14) (.v 15))]), (.a (.int .i64 (.i 10)))]) [((.b (.v 0)), (.prop 1)), ((.a 5), (.prop 8)), ((.a 13), (.prop 16))])
      (.all
       (.new
       (.op (.call ⟨.builtin .append, #[(.tmp 70), (.tmp 72)], #[30, 30]⟩) 30 [(70, (.w (.a (.sl (.b (.v 19) 0) (.n 0) (.n 0))))), (72, (.w (.a (.sl (.v 5) (.v 6) (.v 7)))))] [((.b (.v 19)), (.cells [] 5)), ((.a 5), (.prop 8))] [.a, .n, .n, .p] (.w (.a (.sl (.v 20) (.v 21) (.v 22)))) [((.a 20), (.prop 23)), ((.a 5), (.prop 8))]
       (.call 108 [(.a (.ptr (.v 0) 0)), (.agg [(.int .i64 (.v 4)), (.int .i64 (.v 3)), (.int .i64 (.i 0)), (.int .i64 (.i 0)), (.sl (.v 20) (.v 21) (.v 22))])] [((.b (.v 0)), (.prop 1)), ((.a 20), (.prop 23))] [.i, .p, .p] (.w (.a (.int .i64 (.v 24)))) [((.b (.v 0)), (.prop 25)), ((.a 20), (.prop 26))]
       (.ret (.tup [(.agg [(.int .i64 (.i 0)), (.sl .nil (.n 0) (.n 0))]), (.a (.int .i64 (.v 24)))]) [((.b (.v 0)), (.prop 25)), ((.a 5), (.prop 8))]))))
       (.new
       (.all
        (.op (.call ⟨.builtin .append, #[(.tmp 70), (.tmp 72)], #[30, 30]⟩) 30 [(70, (.w (.a (.sl (.b (.v 19) 0) (.n 0) (.n 0))))), (72, (.w (.a (.sl (.v 5) (.v 6) (.v 7)))))] [((.b (.v 19)), (.cells [] 5)), ((.a 5), (.prop 8))] [.a, .n, .n, .p] (.w (.a (.sl (.v 20) (.v 21) (.v 22)))) [((.a 20), (.prop 23)), ((.a 5), (.prop 8))]
        (.call 108 [(.a (.ptr (.v 0) 0)), (.agg [(.int .i64 (.v 4)), (.int .i64 (.v 3)), (.int .i64 (.i 0)), (.int .i64 (.i 0)), (.sl (.v 20) (.v 21) (.v 22))])] [((.b (.v 0)), (.prop 1)), ((.a 20), (.prop 23))] [.i, .p, .p] (.w (.a (.int .i64 (.v 24)))) [((.b (.v 0)), (.prop 25)), ((.a 20), (.prop 26))]
        (.ret (.tup [(.agg [(.int .i64 (.i 0)), (.sl .nil (.n 0) (.n 0))]), (.a (.int .i64 (.v 24)))]) [((.b (.v 0)), (.prop 25)), ((.a 5), (.prop 8))])))
        (.op (.call ⟨.builtin .append, #[(.tmp 70), (.tmp 72)], #[30, 30]⟩) 30 [(70, (.w (.a (.sl (.b (.v 19) 0) (.n 0) (.n 0))))), (72, (.w (.a (.sl (.v 5) (.v 6) (.v 7)))))] [((.b (.v 19)), (.cells [] 5)), ((.a 5), (.prop 8))] [.a, .n, .n, .p] (.w (.a (.sl (.v 20) (.v 21) (.v 22)))) [((.a 20), (.prop 23)), ((.a 5), (.prop 8))]
        (.all
         (.call 108 [(.a (.ptr (.v 0) 0)), (.agg [(.int .i64 (.v 4)), (.int .i64 (.v 3)), (.int .i64 (.i 0)), (.int .i64 (.i 0)), (.sl (.v 20) (.v 21) (.v 22))])] [((.b (.v 0)), (.prop 1)), ((.a 20), (.prop 23))] [.i, .p, .p] (.w (.a (.int .i64 (.v 24)))) [((.b (.v 0)), (.prop 25)), ((.a 20), (.prop 26))]
         (.ret (.tup [(.agg [(.int .i64 (.i 0)), (.sl .nil (.n 0) (.n 0))]), (.a (.int .i64 (.v 24)))]) [((.b (.v 0)), (.prop 25)), ((.a 5), (.prop 8))]))
         (.all
          (.call 108 [(.a (.ptr (.v 0) 0)), (.agg [(.int .i64 (.v 4)), (.int .i64 (.v 3)), (.int .i64 (.i 0)), (.int .i64 (.i 0)), (.sl (.v 20) (.v 21) (.v 22))])] [((.b (.v 0)), (.prop 1)), ((.a 20), (.prop 23))] [.i, .p, .p] (.w (.a (.int .i64 (.v 24)))) [((.b (.v 0)), (.prop 25)), ((.a 20), (.prop 26))]
          (.ret (.tup [(.agg [(.int .i64 (.i 0)), (.sl .nil (.n 0) (.n 0))]), (.a (.int .i64 (.v 24)))]) [((.b (.v 0)), (.prop 25)), ((.a 5), (.prop 8))]))
          (.call 108 [(.a (.ptr (.v 0) 0)), (.agg [(.int .i64 (.v 4)), (.int .i64 (.v 3)), (.int .i64 (.i 0)), (.int .i64 (.i 0)), (.sl (.v 20) (.v 21) (.v 22))])] [((.b (.v 0)), (.prop 1)), ((.a 20), (.prop 23))] [.i, .p, .p] (.w (.a (.int .i64 (.v 24)))) [((.b (.v 0)), (.prop 25)), ((.a 20), (.prop 26))]
          (.ret (.tup [(.agg [(.int .i64 (.i 0)), (.sl .nil (.n 0) (.n 0))]), (.a (.int .i64 (.v 24)))]) [((.b (.v 0)), (.prop 25)), ((.a 5), (.prop 8))]))))))))))))))
  (.br (.o2 .lt (.i 65536) (.o1 .ofNat (.v 6)))
   (.ret (.tup [(.agg [(.int .i64 (.i 0)), (.sl .nil (.n 0) (.n 0))]), (.a (.int .i64 (.i 1)))]) [((.b (.v 0)), (.prop 1)), ((.a 5), (.prop 8))])
   (.br (.o2 .eq (.v 4) (.i 2))
    (.br (.o2 .lt (.i 0) (.o1 .ofNat (.v 6)))
     (.ret (.tup [(.agg [(.int .i64 (.i 0)), (.sl .nil (.n 0) (.n 0))]), (.a (.int .i64 (.i 1)))]) [((.b (.v 0)), (.prop 1)), ((.a 5), (.prop 8))])
     (.call 62 [(.a (.ptr (.v 0) 0)), (.a (.int .i64 (.v 2))), (.a (.int .i64 (.v 3)))] [((.b (.v 0)), (.prop 1))] [.i, .a, .n, .n, .p, .i] (.tup [(.agg [(.int .i64 (.v 12)), (.sl (.v 13) (.v 14) (.v 15))]), (.a (.int .i64 (.v 17)))]) [((.a 13), (.prop 16)), ((.b (.v 0)), (.prop 1))]
     (.new
     (.br (.o2 .eq (.v 17) (.i 11))
      (.ret (.tup [(.agg [(.int .i64 (.i 0)), (.sl .nil (.n 0) (.n 0))]), (.a (.int .i64 (.v 17)))]) [((.b (.v 0)), (.prop 1)), ((.a 5), (.prop 8))])
      (.br (.o2 .eq (.v 17) (.i 0))
       (.ret (.tup [(.agg [(.int .i64 (.v 12)), (.sl (.v 13) (.v 14) (.v 15))]), (.a (.int .i64 (.i 10)))]) [((.b (.v 0)), (.prop 1)), ((.a 5), (.prop 8)), ((.a 13), (.prop 16))])
       (.all
        (.new
        (.op (.call ⟨.builtin .append, #[(.tmp 70), (.tmp 72)], #[30, 30]⟩) 30 [(70, (.w (.a (.sl (.b (.v 19) 0) (.n 0) (.n 0))))), (72, (.w (.a (.sl (.v 5) (.v 6) (.v 7)))))] [((.b (.v 19)), (.cells [] 5)), ((.a 5), (.prop 8))] [.a, .n, .n, .p] (.w (.a (.sl (.v 20) (.v 21) (.v 22)))) [((.a 20), (.prop 23)), ((.a 5), (.prop 8))]
        (.call 108 [(.a (.ptr (.v 0) 0)), (.agg [(.int .i64 (.v 4)), (.int .i64 (.v 3)), (.int .i64 (.i 0)), (.int .i64 (.i 0)), (.sl (.v 20) (.v 21) (.v 22))])] [((.b (.v 0)), (.prop 1)), ((.a 20), (.prop 23))] [.i, .p, .p] (.w (.a (.int .i64 (.v 24)))) [((.b (.v 0)), (.prop 25)), ((.a 20), (.prop 26))]
        (.ret (.tup [(.agg [(.int .i64 (.i 0)), (.sl .nil (.n 0) (.n 0))]), (.a (.int .i64 (.v 24)))]) [((.b (.v 0)), (.prop 25)), ((.a 5), (.prop 8))]))))
        (.new
        (.all
         (.op (.call ⟨.builtin .append, #[(.tmp 70), (.tmp 72)], #[30, 30]⟩) 30 [(70, (.w (.a (.sl (.b (.v 19) 0) (.n 0) (.n 0))))), (72, (.w (.a (.sl (.v 5) (.v 6) (.v 7)))))] [((.b (.v 19)), (.cells [] 5)), ((.a 5), (.prop 8))] [.a, .n, .n, .p] (.w (.a (.sl (.v 20) (.v 21) (.v 22)))) [((.a 20), (.prop 23)), ((.a 5), (.prop 8))]
         (.call 108 [(.a (.ptr (.v 0) 0)), (.agg [(.int .i64 (.v 4)), (.int .i64 (.v 3)), (.int .i64 (.i 0)), (.int .i64 (.i 0)), (.sl (.v 20) (.v 21) (.v 22))])] [((.b (.v 0)), (.prop 1)), ((.a 20), (.prop 23))] [.i, .p, .p] (.w (.a (.int .i64 (.v 24)))) [((.b (.v 0)), (.prop 25)), ((.a 20), (.prop 26))]
         (.ret (.tup [(.agg [(.int .i64 (.i 0)), (.sl .nil (.n 0) (.n 0))]), (.a (.int .i64 (.v 24)))]) [((.b (.v 0)), (.prop 25)), ((.a 5), (.prop 8))])))
         (.op (.call ⟨.builtin .append, #[(.tmp 70), (.tmp 72)], #[30, 30]⟩) 30 [(70, (.w (.a (.sl (.b (.v 19) 0) (.n 0) (.n 0))))), (72, (.w (.a (.sl (.v 5) (.v 6) (.v 7)))))] [((.b (.v 19)), (.cells [] 5)), ((.a 5), (.prop 8))] [.a, .n, .n, .p] (.w (.a (.sl (.v 20) (.v 21) (.v 22)))) [((.a 20), (.prop 23)), ((.a 5), (.prop 8))]
         (.all
          (.call 108 [(.a (.ptr (.v 0) 0)), (.agg [(.int .i64 (.v 4)), (.int .i64 (.v 3)), (.int .i64 (.i 0)), (.int .i64 (.i 0)), (.sl (.v 20) (.v 21) (.v 22))])] [((.b (.v 0)), (.prop 1)), ((.a 20), (.prop 23))] [.i, .p, .p] (.w (.a (.int .i64 (.v 24)))) [((.b (.v 0)), (.prop 25)), ((.a 20), (.prop 26))]
          (.ret (.tup [(.agg [(.int .i64 (.i 0)), (.sl .nil (.n 0) (.n 0))]), (.a (.int .i64 (.v 24)))]) [((.b (.v 0)), (.prop 25)), ((.a 5), (.prop 8))]))
          (.all
           (.call 108 [(.a (.ptr (.v 0) 0)), (.agg [(.int .i64 (.v 4)), (.int .i64 (.v 3)), (.int .i64 (.i 0)), (.int .i64 (.i 0)), (.sl (.v 20) (.v 21) (.v 22))])] [((.b (.v 0)), (.prop 1)), ((.a 20), (.prop 23))] [.i, .p, .p] (.w (.a (.int .i64 (.v 24)))) [((.b (.v 0)), (.prop 25)), ((.a 20), (.prop 26))]
           (.ret (.tup [(.agg [(.int .i64 (.i 0)), (.sl .nil (.n 0) (.n 0))]), (.a (.int .i64 (.v 24)))]) [((.b (.v 0)), (.prop 25)), ((.a 5), (.prop 8))]))
           (.call 108 [(.a (.ptr (.v 0) 0)), (.agg [(.int .i64 (.v 4)), (.int .i64 (.v 3)), (.int .i64 (.i 0)), (.int .i64 (.i 0)), (.sl (.v 20) (.v 21) (.v 22))])] [((.b (.v 0)), (.prop 1)), ((.a 20), (.prop 23))] [.i, .p, .p] (.w (.a (.int .i64 (.v 24)))) [((.b (.v 0)), (.prop 25)), ((.a 20), (.prop 26))]
           (.ret (.tup [(.agg [(.int .i64 (.i 0)), (.sl .nil (.n 0) (.n 0))]), (.a (.int .i64 (.v 24)))]) [((.b (.v 0)), (.prop 25)), ((.a 5), (.prop 8))])))))))))))))
    (.call 62 [(.a (.ptr (.v 0) 0)), (.a (.int .i64 (.v 2))), (.a (.int .i64 (.v 3)))] [((.b (.v 0)), (.prop 1))] [.i, .a, .n, .n, .p, .i] (.tup [(.agg [(.int .i64 (.v 12)), (.sl (.v 13) (.v 14) (.v 15))]), (.a (.int .i64 (.v 17)))]) [((.a 13), (.prop 16)), ((.b (.v 0)), (.prop 1))]
    (.new
    (.br (.o2 .eq (.v 17) (.i 11))
     (.ret (.tup [(.agg [(.int .i64 (.i 0)), (.sl .nil (.n 0) (.n 0))]), (.a (.int .i64 (.v 17)))]) [((.b (.v 0)), (.prop 1)), ((.a 5), (.prop 8))])
     (.br (.o2 .eq (.v 17) (.i 0))
      (.ret (.tup [(.agg [(.int .i64 (.v 12)), (.sl (.v 13) (.v 14) (.v 15))]), (.a (.int .i64 (.i 10)))]) [((.b (.v 0)), (.prop 1)), ((.a 5), (.prop 8)), ((.a 13), (.prop 16))])
      (.all
       (.new
       (.op (.call ⟨.builtin .append, #[(.tmp 70), (.tmp 72)], #[30, 30]⟩) 30 [(70, (.w (.a (.sl (.b (.v 19) 0) (.n 0) (.n 0))))), (72, (.w (.a (.sl (.v 5) (.v 6) (.v 7)))))] [((.b (.v 19)), (.cells [] 5)), ((.a 5), (.prop 8))] [.a, .n, .n, .p] (.w (.a (.sl (.v 20) (.v 21) (.v 22)))) [((.a 20), (.prop 23)), ((.a 5), (.prop 8))]
       (.call 108 [(.a (.ptr (.v 0) 0)), (.agg [(.int .i64 (.v 4)), (.int .i64 (.v 3)), (.int .i64 (.i 0)), (.int .i64 (.i 0)), (.sl (.v 20) (.v 21) (.v 22))])] [((.b (.v 0)), (.prop 1)), ((.a 20), (.prop 23))] [.i, .p, .p] (.w (.a (.int .i64 (.v 24)))) [((.b (.v 0)), (.prop 25)), ((.a 20), (.prop 26))]
       (.ret (.tup [(.agg [(.int .i64 (.i 0)), (.sl .nil (.n 0) (.n 0))]), (.a (.int .i64 (.v 24)))]) [((.b (.v 0)), (.prop 25)), ((.a 5), (.prop 8))]))))
       (.new
       (.all
        (.op (.call ⟨.builtin .append, #[(.tmp 70), (.tmp 72)], #[30, 30]⟩) 30 [(70, (.w (.a (.sl (.b (.v 19) 0) (.n 0) (.n 0))))), (72, (.w (.a (.sl (.v 5) (.v 6) (.v 7)))))] [((.b (.v 19)), (.cells [] 5)), ((.a 5), (.prop 8))] [.a, .n, .n, .p] (.w (.a (.sl (.v 20) (.v 21) (.v 22)))) [((.a 20), (.prop 23)), ((.a 5), (.prop 8))]
        (.call 108 [(.a (.ptr (.v 0) 0)), (.agg [(.int .i64 (.v 4)), (.int .i64 (.v 3)), (.int .i64 (.i 0)), (.int .i64 (.i 0)), (.sl (.v 20) (.v 21) (.v 22))])] [((.b (.v 0)), (.prop 1)), ((.a 20), (.prop 23))] [.i, .p, .p] (.w (.a (.int .i64 (.v 24)))) [((.b (.v 0)), (.prop 25)), ((.a 20), (.prop 26))]
        (.ret (.tup [(.agg [(.int .i64 (.i 0)), (.sl .nil (.n 0) (.n 0))]), (.a (.int .i64 (.v 24)))]) [((.b (.v 0)), (.prop 25)), ((.a 5), (.prop 8))])))
        (.op (.call ⟨.builtin .append, #[(.tmp 70), (.tmp 72)], #[30, 30]⟩) 30 [(70, (.w (.a (.sl (.b (.v 19) 0) (.n 0) (.n 0))))), (72, (.w (.a (.sl (.v 5) (.v 6) (.v 7)))))] [((.b (.v 19)), (.cells [] 5)), ((.a 5), (.prop 8))] [.a, .n, .n, .p] (.w (.a (.sl (.v 20) (.v 21) (.v 22)))) [((.a 20), (.prop 23)), ((.a 5), (.prop 8))]
        (.all
         (.call 108 [(.a (.ptr (.v 0) 0)), (.agg [(.int .i64 (.v 4)), (.int .i64 (.v 3)), (.int .i64 (.i 0)), (.int .i64 (.i 0)), (.sl (.v 20) (.v 21) (.v 22))])] [((.b (.v 0)), (.prop 1)), ((.a 20), (.prop 23))] [.i, .p, .p] (.w (.a (.int .i64 (.v 24)))) [((.b (.v 0)), (.prop 25)), ((.a 20), (.prop 26))]
         (.ret (.tup [(.agg [(.int .i64 (.i 0)), (.sl .nil (.n 0) (.n 0))]), (.a (.int .i64 (.v 24)))]) [((.b (.v 0)), (.prop 25)), ((.a 5), (.prop 8))]))
         (.all
          (.call 108 [(.a (.ptr (.v 0) 0)), (.agg [(.int .i64 (.v 4)), (.int .i64 (.v 3)), (.int .i64 (.i 0)), (.int .i64 (.i 0)), (.sl (.v 20) (.v 21) (.v 22))])] [((.b (.v 0)), (.prop 1)), ((.a 20), (.prop 23))] [.i, .p, .p] (.w (.a (.int .i64 (.v 24)))) [((.b (.v 0)), (.prop 25)), ((.a 20), (.prop 26))]
          (.ret (.tup [(.agg [(.int .i64 (.i 0)), (.sl .nil (.n 0) (.n 0))]), (.a (.int .i64 (.v 24)))]) [((.b (.v 0)), (.prop 25)), ((.a 5), (.prop 8))]))
          (.call 108 [(.a (.ptr (.v 0) 0)), (.agg [(.int .i64 (.v 4)), (.int .i64 (.v 3)), (.int .i64 (.i 0)), (.int .i64 (.i 0)), (.sl (.v 20) (.v 21) (.v 22))])] [((.b (.v 0)), (.prop 1)), ((.a 20), (.prop 23))] [.i, .p, .p] (.w (.a (.int .i64 (.v 24)))) [((.b (.v 0)), (.prop 25)), ((.a 20), (.prop 26))]
          (.ret (.tup [(.agg [(.int .i64 (.i 0)), (.sl .nil (.n 0) (.n 0))]), (.a (.int .i64 (.v 24)))]) [((.b (.v 0)), (.prop 25)), ((.a 5), (.prop 8))])))))))))))))))))))
theorem tree_qWrite9 : tree Try.prog { absT := [], opq := [], hv := [], keep := [87, 37, 39, 41, 109, 107, 62, 112, 111, 110, 133, 113], link := [], ent := [], turn := [], shr := [], vt := [], mkd := [], rlink := [], pty := [], outl := false, stay := [], snk := [] } Try.f61 [(.a (.ptr (.v 0) 0)), (.a (.int .i64 (.v 2))), (.a (.int .i64 (.v 3))), (.agg [(.int .i64 (.v 4)), (.sl (.v 5) (.v 6) (.v 7))])] [((.b (.v 0)), (.prop 1)), ((.a 5), (.prop 8))] 9 = t_qWrite9 := by kernel_rfl
-- (*tideline/tidelineref09.Unit).Trim: ρ := [.n u, .p uP, .i epoch, .i low]
def t_qTrim : T :=
(.call 107 [(.a (.ptr (.v 0) 0)), (.a (.int .i64 (.v 2))), (.a (.int .i64 (.v 3)))] [((.b (.v 0)), (.prop 1))] [.i] (.w (.a (.int .i64 (.v 4)))) [((.b (.v 0)), (.prop 1))]
(.br (.o1 .not (.o2 .eq (.v 4) (.i 0)))
 (.ret (.w (.a (.int .i64 (.v 4)))) [((.b (.v 0)), (.prop 1))])
 (.call 39 [(.a (.ptr (.v 0) 0))] [((.b (.v 0)), (.prop 1))] [.i] (.w (.a (.int .i64 (.v 5)))) [((.b (.v 0)), (.prop 1))]
 (.br (.o2 .le (.v 3) (.v 5))
  (.ret (.w (.a (.int .i64 (.v 4)))) [((.b (.v 0)), (.prop 1))])
  (.call 108 [(.a (.ptr (.v 0) 0)), (.agg [(.int .i64 (.i 3)), (.int .i64 (.v 3)), (.int .i64 (.i 0)), (.int .i64 (.i 0)), (.sl .nil (.n 0) (.n 0))])] [((.b (.v 0)), (.prop 1))] [.i, .p] (.w (.a (.int .i64 (.v 6)))) [((.b (.v 0)), (.prop 7))]
  (.ret (.w (.a (.int .i64 (.v 6)))) [((.b (.v 0)), (.prop 7))]))))))
theorem tree_qTrim : tree Try.prog { absT := [], opq := [], hv := [], keep := [87, 37, 39, 41, 109, 107, 62, 112, 111, 110, 133, 113], link := [], ent := [], turn := [], shr := [], vt := [], mkd := [], rlink := [], pty := [], outl := false, stay := [], snk := [] } Try.f64 [(.a (.ptr (.v 0) 0)), (.a (.int .i64 (.v 2))), (.a (.int .i64 (.v 3)))] [((.b (.v 0)), (.prop 1))] 4 = t_qTrim := by kernel_rfl
-- (*tideline/tidelineref09.Unit).Seal: ρ := [.n u, .p uP, .i epoch]
def t_qSeal : T :=
(.call 37 [(.a (.ptr (.v 0) 0))] [((.b (.v 0)), (.prop 1))] [.i] (.w (.a (.int .i64 (.v 3)))) [((.b (.v 0)), (.prop 1))]
(.br (.o2 .le (.v 2) (.v 3))
 (.ret (.w (.a (.int .i64 (.i 8)))) [((.b (.v 0)), (.prop 1))])
 (.br (.o2 .lt (.i 2147483647) (.v 2))
  (.ret (.w (.a (.int .i64 (.i 1)))) [((.b (.v 0)), (.prop 1))])
  (.call 108 [(.a (.ptr (.v 0) 0)), (.agg [(.int .i64 (.i 4)), (.int .i64 (.v 2)), (.int .i64 (.i 0)), (.int .i64 (.i 0)), (.sl .nil (.n 0) (.n 0))])] [((.b (.v 0)), (.prop 1))] [.i, .p] (.w (.a (.int .i64 (.v 4)))) [((.b (.v 0)), (.prop 5))]
  (.ret (.w (.a (.int .i64 (.v 4)))) [((.b (.v 0)), (.prop 5))])))))
theorem tree_qSeal : tree Try.prog { absT := [], opq := [], hv := [], keep := [87, 37, 39, 41, 109, 107, 62, 112, 111, 110, 133, 113], link := [], ent := [], turn := [], shr := [], vt := [], mkd := [], rlink := [], pty := [], outl := false, stay := [], snk := [] } Try.f66 [(.a (.ptr (.v 0) 0)), (.a (.int .i64 (.v 2)))] [((.b (.v 0)), (.prop 1))] 3 = t_qSeal := by kernel_rfl
-- (*tideline/tidelineref09.Unit).Promise: ρ := [.n u, .p uP, .i n, .i b_Round, .i b_Who]
def t_qPromise : T :=
(.new
(.new
(.call 110 [(.a (.int .i64 (.v 2))), (.agg [(.int .i64 (.v 3)), (.int .i64 (.v 4))])] [] [.c] (.w (.a (.bool (.v 7)))) []
(.br (.o1 .not (.v 7))
 (.ret (.tup [(.agg [(.int .i64 (.i 0)), (.int .i64 (.i 0))]), (.a (.sl .nil (.n 0) (.n 0))), (.a (.int .i64 (.i 1)))]) [((.b (.v 0)), (.prop 1))])
 (.call 112 [(.a (.ptr (.v 0) 0)), (.a (.int .i64 (.v 2)))] [((.b (.v 0)), (.prop 1))] [.i, .i] (.w (.agg [(.int .i64 (.v 8)), (.int .i64 (.v 9))])) [((.b (.v 0)), (.prop 1))]
 (.call 111 [(.agg [(.int .i64 (.v 3)), (.int .i64 (.v 4))]), (.agg [(.int .i64 (.v 8)), (.int .i64 (.v 9))])] [] [.c] (.w (.a (.bool (.v 10)))) []
 (.br (.v 10)
  (.ret (.tup [(.agg [(.int .i64 (.i 0)), (.int .i64 (.i 0))]), (.a (.sl .nil (.n 0) (.n 0))), (.a (.int .i64 (.i 7)))]) [((.b (.v 0)), (.prop 1))])
  (.call 112 [(.a (.ptr (.v 0) 0)), (.a (.int .i64 (.v 2)))] [((.b (.v 0)), (.prop 1))] [.i, .i] (.w (.agg [(.int .i64 (.v 11)), (.int .i64 (.v 12))])) [((.b (.v 0)), (.prop 1))]
  (.read (.binOp .neq 34 (.tmp 23) (.tmp 26) 34) 4 [(23, (.w (.agg [(.int .i64 (.v 3)), (.int .i64 (.v 4))]))), (26, (.w (.agg [(.int .i64 (.v 11)), (.int .i64 (.v 12))])))] [] [.c] (.w (.a (.bool (.v 13))))
  (.br (.v 13)
   (.call 108 [(.a (.ptr (.v 0) 0)), (.agg [(.int .i64 (.i 5)), (.int .i64 (.v 2)), (.int .i64 (.v 3)), (.int .i64 (.v 4)), (.sl .nil (.n 0) (.n 0))])] [((.b (.v 0)), (.prop 1))] [.i, .p] (.w (.a (.int .i64 (.v 14)))) [((.b (.v 0)), (.prop 15))]
   (.br (.o1 .not (.o2 .eq (.v 14) (.i 0)))
    (.ret (.tup [(.agg [(.int .i64 (.i 0)), (.int .i64 (.i 0))]), (.a (.sl .nil (.n 0) (.n 0))), (.a (.int .i64 (.v 14)))]) [((.b (.v 0)), (.prop 15))])
    (.call 113 [(.a (.ptr (.v 0) 0)), (.a (.int .i64 (.v 2)))] [((.b (.v 0)), (.prop 15))] [.i, .i, .a, .n, .n, .p] (.tup [(.agg [(.int .i64 (.v 16)), (.int .i64 (.v 17))]), (.a (.sl (.v 18) (.v 19) (.v 20)))]) [((.a 18), (.prop 21)), ((.b (.v 0)), (.prop 15))]
    (.new
    (.ret (.tup [(.agg [(.int .i64 (.v 16)), (.int .i64 (.v 17))]), (.a (.sl (.v 18) (.v 19) (.v 20))), (.a (.int .i64 (.i 0)))]) [((.b (.v 0)), (.prop 15)), ((.a 18), (.prop 21))])))))
   (.call 113 [(.a (.ptr (.v 0) 0)), (.a (.int .i64 (.v 2)))] [((.b (.v 0)), (.prop 1))] [.i, .i, .a, .n, .n, .p] (.tup [(.agg [(.int .i64 (.v 14)), (.int .i64 (.v 15))]), (.a (.sl (.v 16) (.v 17) (.v 18)))]) [((.a 16), (.prop 19)), ((.b (.v 0)), (.prop 1))]
   (.new
   (.ret (.tup [(.agg [(.int .i64 (.v 14)), (.int .i64 (.v 15))]), (.a (.sl (.v 16) (.v 17) (.v 18))), (.a (.int .i64 (.i 0)))]) [((.b (.v 0)), (.prop 1)), ((.a 16), (.prop 19))])))))))))))))
theorem tree_qPromise : tree Try.prog { absT := [], opq := [], hv := [], keep := [87, 37, 39, 41, 109, 107, 62, 112, 111, 110, 133, 113], link := [], ent := [], turn := [], shr := [], vt := [], mkd := [], rlink := [], pty := [], outl := false, stay := [], snk := [] } Try.f67 [(.a (.ptr (.v 0) 0)), (.a (.int .i64 (.v 2))), (.agg [(.int .i64 (.v 3)), (.int .i64 (.v 4))])] [((.b (.v 0)), (.prop 1))] 5 = t_qPromise := by kernel_rfl
-- (*tideline/tidelineref09.Unit).Accept: ρ := [.n u, .p uP, .i n, .i b_Round, .i b_Who, .a valuea, .n valuel, .n valuec, .p valueP]
def t_qAccept : T :=
(.new
(.call 110 [(.a (.int .i64 (.v 2))), (.agg [(.int .i64 (.v 3)), (.int .i64 (.v 4))])] [] [.c] (.w (.a (.bool (.v 10)))) []
(.br (.o1 .not (.v 10))
 (.ret (.w (.a (.int .i64 (.i 1)))) [((.b (.v 0)), (.prop 1)), ((.a 5), (.prop 8))])
 (.br (.o2 .lt (.i 1000) (.o1 .ofNat (.v 6)))
  (.ret (.w (.a (.int .i64 (.i 1)))) [((.b (.v 0)), (.prop 1)), ((.a 5), (.prop 8))])
  (.call 112 [(.a (.ptr (.v 0) 0)), (.a (.int .i64 (.v 2)))] [((.b (.v 0)), (.prop 1))] [.i, .i] (.w (.agg [(.int .i64 (.v 11)), (.int .i64 (.v 12))])) [((.b (.v 0)), (.prop 1))]
  (.call 111 [(.agg [(.int .i64 (.v 3)), (.int .i64 (.v 4))]), (.agg [(.int .i64 (.v 11)), (.int .i64 (.v 12))])] [] [.c] (.w (.a (.bool (.v 13)))) []
  (.br (.v 13)
   (.ret (.w (.a (.int .i64 (.i 7)))) [((.b (.v 0)), (.prop 1)), ((.a 5), (.prop 8))])
   (.new
   (.op (.call ⟨.builtin .append, #[(.tmp 26), (.tmp 27)], #[30, 30]⟩) 30 [(26, (.w (.a (.sl (.b (.v 14) 0) (.n 0) (.n 0))))), (27, (.w (.a (.sl (.v 5) (.v 6) (.v 7)))))] [((.b (.v 14)), (.cells [] 5)), ((.a 5), (.prop 8))] [.a, .n, .n, .p] (.w (.a (.sl (.v 15) (.v 16) (.v 17)))) [((.a 15), (.prop 18)), ((.a 5), (.prop 8))]
   (.call 108 [(.a (.ptr (.v 0) 0)), (.agg [(.int .i64 (.i 6)), (.int .i64 (.v 2)), (.int .i64 (.v 3)), (.int .i64 (.v 4)), (.sl (.v 15) (.v 16) (.v 17))])] [((.b (.v 0)), (.prop 1)), ((.a 15), (.prop 18))] [.i, .p, .p] (.w (.a (.int .i64 (.v 19)))) [((.b (.v 0)), (.prop 20)), ((.a 15), (.prop 21))]
   (.ret (.w (.a (.int .i64 (.v 19)))) [((.b (.v 0)), (.prop 20)), ((.a 5), (.prop 8))])))))))))))
theorem tree_qAccept : tree Try.prog { absT := [], opq := [], hv := [], keep := [87, 37, 39, 41, 109, 107, 62, 112, 111, 110, 133, 113], link := [], ent := [], turn := [], shr := [], vt := [], mkd := [], rlink := [], pty := [], outl := false, stay := [], snk := [] } Try.f69 [(.a (.ptr (.v 0) 0)), (.a (.int .i64 (.v 2))), (.agg [(.int .i64 (.v 3)), (.int .i64 (.v 4))]), (.a (.sl (.v 5) (.v 6) (.v 7)))] [((.b (.v 0)), (.prop 1)), ((.a 5), (.prop 8))] 9 = t_qAccept := by kernel_rfl
end Go.Proofs.Ytmibmjehjagmbaa.RX

/- The document's unit: its pages, and what is read of them. No condition. -/
namespace Go.Proofs.Ytmibmjehjagmbaa
set_option linter.unusedSimpArgs false
set_option linter.unusedVariables false
open Go.Proofs.Ytmibmjehjagmbaa RX

/-- A page. -/
structure RPg where
  kind : Int
  n : Int
  r : Int
  w : Int
  bytes : List UInt8
structure PgE where
  pg : RPg
  a : Option Addr
  c : Nat
def kPg : PK PgE := ⟨148, 5, by decide, fun e => [.int .i64 e.pg.kind, .int .i64 e.pg.n, .int .i64 e.pg.r, .int .i64 e.pg.w, .slice e.a e.pg.bytes.length e.c], fun _ => rfl,
  fun e u hu => by simp at hu; rcases hu with rfl | rfl | rfl | rfl | rfl <;> rfl, fun e => HP.and (e.pg.bytes.length ≤ 140737488355328) (RoB e.a e.pg.bytes.length e.pg.bytes)⟩
abbrev ROne (rb : Nat) (a : Option Addr) (n c : Nat) (room : Int) : HP := HP.one rb (.cells #[.slice a n c, .int .i64 room] 45 (0, 0))
def RU (rb : Nat) (room : Int) (pgs : List RPg) : HP := HP.ex fun a => HP.ex fun c => HP.ex fun es => HP.and (es.map PgE.pg = pgs ∧ pgs.length ≤ 1000000) (HP.sep (ROne rb a pgs.length c room) (PL kPg a pgs.length c es))
theorem RU.tri {f : FuncId} {args : Array Value} {rb : Nat} {room : Int} {pgs : List RPg} {B : Value → HP} (t : ∀ a c es, es.map PgE.pg = pgs → pgs.length ≤ 1000000 → (pgs.length ≠ 0 → a.isSome = true) → Tri Try.prog f args (HP.sep (ROne rb a pgs.length c room) (PL kPg a pgs.length c es)) B) : Tri Try.prog f args (RU rb room pgs) B :=
  Tri.ex fun a => Tri.ex fun c => Tri.ex fun es => Tri.pure fun h => Tri.fact (φ := pgs.length ≠ 0 → a.isSome = true) (fun R h H hn => PL.isAt (HP.sep_right H) hn) fun ha => t a c es h.1 h.2 ha
theorem RU.triS {f : FuncId} {args : Array Value} {rb : Nat} {room : Int} {pgs : List RPg} {K : HP} {B : Value → HP} (t : ∀ a c es, es.map PgE.pg = pgs → pgs.length ≤ 1000000 → (pgs.length ≠ 0 → a.isSome = true) → Tri Try.prog f args (HP.sep (ROne rb a pgs.length c room) (HP.sep (PL kPg a pgs.length c es) K)) B) : Tri Try.prog f args (HP.sep (RU rb room pgs) K) B := by
  refine (Tri.ex (A := fun a => HP.ex fun c => HP.ex fun es => HP.and (es.map PgE.pg = pgs ∧ pgs.length ≤ 1000000) (HP.sep (ROne rb a pgs.length c room) (HP.sep (PL kPg a pgs.length c es) K))) fun a => Tri.ex fun c => Tri.ex fun es => Tri.pure fun h => Tri.fact (φ := pgs.length ≠ 0 → a.isSome = true) (fun R h H hn => PL.isAt (HP.sep_left (HP.sep_right H)) hn) fun ha => t a c es h.1 h.2 ha).weak ?_ (fun _ _ _ h => h)
  rintro R h ⟨h1, h2, d, l1, l2, ⟨a, c, es, e, H⟩, HK⟩
  exact ⟨a, c, es, e, HP.sep_assoc ⟨h1, h2, d, l1, l2, H, HK⟩⟩
theorem RU.of {rb : Nat} {room : Int} {a : Option Addr} {n c : Nat} {es : List PgE} {pgs : List RPg} {R h : PH} (e : es.map PgE.pg = pgs) (hb : pgs.length ≤ 1000000) (hn : n = pgs.length) (H : (HP.sep (ROne rb a n c room) (PL kPg a n c es)).p R h) : (RU rb room pgs).p R h := by
  subst hn; exact ⟨a, c, es, ⟨e, hb⟩, H⟩
/-- The last page of some sort, among so many. -/
def findU (p : RPg → Bool) (l : List RPg) : Nat → Option RPg
  | 0 => none
  | k + 1 => match l[k]? with
    | some x => if p x then some x else findU p l k
    | none => findU p l k
def lastR (l : List RPg) (kind : Int) : Int := ((findU (fun x => decide (x.kind = kind)) l l.length).map RPg.n).getD 0
def cellR (l : List RPg) (at' : Int) : CellS := ((findU (fun x => decide (x.kind ≤ 2) && decide (x.n = at')) l l.length).map fun x => (⟨x.kind, x.bytes⟩ : CellS)).getD ⟨0, []⟩
/-- The last ballot of an instance, among the first. -/
def promU (n : Int) (l : List RPg) : Int × Int := l.foldl (fun b x => if 5 ≤ x.kind ∧ x.n = n then (x.r, x.w) else b) (0, 0)
def accU (n : Int) (l : List RPg) : (Int × Int) × List UInt8 := l.foldl (fun b x => if x.kind = 6 ∧ x.n = n then ((x.r, x.w), x.bytes) else b) ((0, 0), [])
section
variable {rb : Nat} {room : Int} {pgs : List RPg} {a : Option Addr} {c : Nat} {es : List PgE}
theorem pgK {k : Nat} {x : PgE} (hk : es[k]? = some x) (he : es.map PgE.pg = pgs) : pgs[k]? = some x.pg := by rw [← he, List.getElem?_map, hk]; rfl
theorem pgAt {k : Nat} (he : es.map PgE.pg = pgs) (hk : k < pgs.length) : ∃ x, es[k]? = some x ∧ pgs[k]? = some x.pg := by
  have hl : k < es.length := by rw [← he] at hk; simpa using hk
  exact ⟨es[k], List.getElem?_eq_getElem hl, pgK (List.getElem?_eq_getElem hl) he⟩
theorem loadPg1 {t : TypeId} {d : TypeDesc} (hd : Try.prog.underlying t = some d) (ha : aggT Try.prog t = false) (hz : szT Try.prog t = 1) {n k off : Nat} {x : PgE} {v : Value} (hk : es[k]? = some x) (hv : (kPg.vals x)[off]? = some v) :
    ORead Try.prog (loadS t (.pointer (a.map fun y => (y.add (k * 5)).add off))) (PL kPg a n c es) v := by
  refine load1_ok hd ha hz (PL.rd a n c es) (k := k * 5) (off := off) ?_
  have hlt : off < 5 := by
    have := (List.getElem?_eq_some_iff.1 hv).1
    rw [kPg.len] at this; exact this
  rw [show k * 5 + off = k * kPg.n + off from rfl, flat_getL kPg.vals kPg.n kPg.len es k off x hk hlt]
  exact hv
theorem loadPgB {n k : Nat} {x : PgE} (hk : es[k]? = some x) : ORead Try.prog (loadS 34 (.pointer (a.map fun y => (y.add (k * 5)).add 2))) (PL kPg a n c es) (.agg #[.int .i64 x.pg.r, .int .i64 x.pg.w]) := by
  obtain ⟨d, hd⟩ : ∃ d, Try.prog.underlying 34 = some d := Option.isSome_iff_exists.1 (by kernel_rfl)
  refine loadN_ok (vs := [.int .i64 x.pg.r, .int .i64 x.pg.w]) hd (by kernel_rfl) (PL.rd a n c es) (k := k * 5) (off := 2) (by kernel_rfl) (by simp) fun j v hj => ?_
  have hlt : j < 2 := by have := (List.getElem?_eq_some_iff.1 hj).1; simpa using this
  rw [show k * 5 + 2 + j = k * kPg.n + (2 + j) from by show _ = k * 5 + (2 + j); omega, flat_getL kPg.vals kPg.n kPg.len es k (2 + j) x hk (by show 2 + j < 5; omega)]
  match j, hlt with
  | 0, _ => exact hj
  | 1, _ => exact hj
theorem loadPg {n k : Nat} {x : PgE} (hk : es[k]? = some x) : ORead Try.prog (loadS 148 (.pointer (a.map fun y => (y.add (k * 5)).add 0))) (PL kPg a n c es) (.agg (kPg.vals x).toArray) := by
  obtain ⟨d, hd⟩ : ∃ d, Try.prog.underlying 148 = some d := Option.isSome_iff_exists.1 (by kernel_rfl)
  refine loadN_ok (vs := kPg.vals x) hd (by kernel_rfl) (PL.rd a n c es) (k := k * 5) (off := 0) (by kernel_rfl) (by rw [kPg.len]; exact kPg.pos) fun j v hj => ?_
  have hlt : j < 5 := by
    have := (List.getElem?_eq_some_iff.1 hj).1
    rw [kPg.len] at this; exact this
  rw [show k * 5 + 0 + j = k * kPg.n + j from by show _ = k * 5 + j; omega, flat_getL kPg.vals kPg.n kPg.len es k j x hk hlt]
  exact hj
theorem sepN_mem {l : List HP} {x : HP} (h : x ∈ l) {R y : PH} (H : (sepN l).p R y) : x.p R y := by
  obtain ⟨k, hk⟩ := List.getElem?_of_mem h
  exact HP.sep_left (sepN_focus hk H)
theorem pgRo {n k : Nat} {x : PgE} (hk : es[k]? = some x) {R h : PH} (H : (PL kPg a n c es).p R h) : x.pg.bytes.length ≤ 140737488355328 ∧ ∀ h', (RoB x.a x.pg.bytes.length x.pg.bytes).p R h' :=
  (sepN_mem (List.mem_map.2 ⟨x, List.mem_of_getElem? hk, rfl⟩) (HP.sep_right H.2) : (HP.and (x.pg.bytes.length ≤ 140737488355328) (RoB x.a x.pg.bytes.length x.pg.bytes)).p R h) |> fun ⟨e, hr⟩ => ⟨e, fun _ => hr⟩
end
abbrev rRho (rb : Nat) (a : Option Addr) (n c : Nat) (es : List PgE) (room : Int) : Env := [.n rb, .a a, .n n, .n c, .p (PL kPg a n c es), .i room]
theorem qNumber_ok (n : Int) : Tri Try.prog 133 #[.int .i64 n] HP.tt (fun v => HP.pure (v = .bool (numOk n))) := by
  refine tri_of_tree (ρ := [.i n]) mixed Try.func133 tree_qNumber ?_
  unfold t_qNumber
  simp only [T.den, E.prop, E.den, RX.look, F1.app, F2.app, Uni.int_i, Uni.nat_n, Uni.bool_c, Uni.str_s, Uni.adr_a, Uni.val_v, Uni.hp_p, hden, cden, V.den, W.den, A.den, BR.den, SA.den, FV.den, capV, exs, exP, allP, Cur.app, List.map_cons, List.map_nil, List.cons_append, List.nil_append, List.drop_succ_cons, List.drop_zero, List.length_cons, List.length_nil, Nat.zero_add, Nat.reduceAdd, Int.neg_neg, Bool.not_not, List.append_nil, Nat.add_zero, List.getElem?_cons_zero, List.getElem?_cons_succ, Decidable.not_not, semW_eq, semW_load, semW_store, semW_storeC, semW_append, semW_lookup, semW_lookupC, semW_update, semW_updateC, semW_updateK, semW_delete, semW_range, semW_next, semW_entry, semW_nil, ne_eq, Nat.reduceEqDiff, not_false_eq_true]
  refine ⟨fun h => .of fun R y _ => ?_, fun h => .of fun R y _ => ?_⟩
  · show Value.bool _ = Value.bool (numOk n)
    unfold numOk; rw [decide_eq_true h]; rfl
  · show Value.bool _ = Value.bool (numOk n)
    unfold numOk; rw [decide_eq_false h]; rfl
def lessR (a b c d : Int) : Bool := if a ≠ c then decide (a < c) else decide (b < d)
theorem qLess_ok (a b c d : Int) : Tri Try.prog 111 #[.agg #[.int .i64 a, .int .i64 b], .agg #[.int .i64 c, .int .i64 d]] HP.tt (fun v => HP.pure (v = .bool (lessR a b c d))) := by
  refine tri_of_tree (ρ := [.i a, .i b, .i c, .i d]) mixed Try.func111 tree_qLess ?_
  unfold t_qLess
  simp only [T.den, E.prop, E.den, RX.look, F1.app, F2.app, Uni.int_i, Uni.nat_n, Uni.bool_c, Uni.str_s, Uni.adr_a, Uni.val_v, Uni.hp_p, hden, cden, V.den, W.den, A.den, BR.den, SA.den, FV.den, capV, exs, exP, allP, Cur.app, List.map_cons, List.map_nil, List.cons_append, List.nil_append, List.drop_succ_cons, List.drop_zero, List.length_cons, List.length_nil, Nat.zero_add, Nat.reduceAdd, Int.neg_neg, Bool.not_not, List.append_nil, Nat.add_zero, List.getElem?_cons_zero, List.getElem?_cons_succ, Decidable.not_not, semW_eq, semW_load, semW_store, semW_storeC, semW_append, semW_lookup, semW_lookupC, semW_update, semW_updateC, semW_updateK, semW_delete, semW_range, semW_next, semW_entry, semW_nil, ne_eq, Nat.reduceEqDiff, not_false_eq_true]
  intro _ _
  refine ⟨fun h => .of fun R y _ => ?_, fun h => .of fun R y _ => ?_⟩
  · show Value.bool _ = Value.bool (lessR a b c d)
    unfold lessR; rw [if_pos h]
  · show Value.bool _ = Value.bool (lessR a b c d)
    unfold lessR; rw [if_neg (by simpa using h)]
theorem qMay_ok (n r w : Int) : Tri Try.prog 110 #[.int .i64 n, .agg #[.int .i64 r, .int .i64 w]] HP.tt (fun v => HP.pure (v = .bool (propOk n r w))) := by
  refine tri_of_tree (ρ := [.i n, .i r, .i w]) mixed Try.func110 tree_qMay ?_
  unfold t_qMay
  simp only [T.den, E.prop, E.den, RX.look, F1.app, F2.app, Uni.int_i, Uni.nat_n, Uni.bool_c, Uni.str_s, Uni.adr_a, Uni.val_v, Uni.hp_p, hden, cden, V.den, W.den, A.den, BR.den, SA.den, FV.den, capV, exs, exP, allP, Cur.app, List.map_cons, List.map_nil, List.cons_append, List.nil_append, List.drop_succ_cons, List.drop_zero, List.length_cons, List.length_nil, Nat.zero_add, Nat.reduceAdd, Int.neg_neg, Bool.not_not, List.append_nil, Nat.add_zero, List.getElem?_cons_zero, List.getElem?_cons_succ, Decidable.not_not, semW_eq, semW_load, semW_store, semW_storeC, semW_append, semW_lookup, semW_lookupC, semW_update, semW_updateC, semW_updateK, semW_delete, semW_range, semW_next, semW_entry, semW_nil, ne_eq, Nat.reduceEqDiff, not_false_eq_true]
  intro _
  refine ⟨fun h => ?_, fun h => .of fun R y _ => ?_⟩
  · refine (qNumber_ok n).weak (fun _ _ h => h) ?_
    rintro v R y rfl
    refine ⟨_, rfl, ⟨fun h2 => ?_, fun h2 => .of fun R y _ => ?_⟩, trivial⟩
    · refine (qNumber_ok r).weak (fun _ _ h => h) ?_
      rintro v R y rfl
      refine ⟨_, rfl, ⟨fun h3 => ?_, fun h3 => .of fun R y _ => ?_⟩, trivial⟩
      · refine (qNumber_ok w).weak (fun _ _ h => h) ?_
        rintro v R y rfl
        refine ⟨_, rfl, .of fun R y _ => ?_, trivial⟩
        show Value.bool _ = Value.bool (propOk n r w)
        unfold propOk
        simp only [numOk, Bool.and_eq_true, decide_eq_true_eq] at h2 h3
        rw [decide_eq_true h, decide_eq_true h2.2, show numOk r = true by simp [numOk, h3]]
        rfl
      · show Value.bool _ = Value.bool (propOk n r w)
        unfold propOk
        rw [show numOk r = false by simpa using h3]
        simp
    · show Value.bool _ = Value.bool (propOk n r w)
      unfold propOk
      have : ¬ n ≤ 2147483647 := fun h' => h2 (by simp [numOk]; omega)
      rw [decide_eq_false this]
      simp
  · show Value.bool _ = Value.bool (propOk n r w)
    unfold propOk
    rw [decide_eq_false h]
    simp
end Go.Proofs.Ytmibmjehjagmbaa

/- The document's unit: contracts of what reads its pages. No condition. -/
namespace Go.Proofs.Ytmibmjehjagmbaa
set_option linter.unusedSimpArgs false
set_option linter.unusedVariables false
open Go.Proofs.Ytmibmjehjagmbaa RX
set_option maxRecDepth 100000

theorem findU_step {p : RPg → Bool} {l : List RPg} {k : Nat} {x : RPg} (h : l[k]? = some x) : findU p l (k + 1) = if p x then some x else findU p l k := by
  simp [findU, h]
section
variable (rb : Nat) (room : Int) (pgs : List RPg)
theorem qLast_ok (kind : Int) : Tri Try.prog 87 #[.pointer (some ⟨rb, 0, none⟩), .int .i64 kind] (RU rb room pgs) (fun v => HP.and (v = .int .i64 (lastR pgs kind)) (RU rb room pgs)) := by
  refine RU.tri fun a c es he hb ha => ?_
  refine tri_of_tree (ρ := rRho rb a pgs.length c es room ++ [.i kind]) mixed Try.func87 tree_qLast ?_
  unfold t_qLast
  simp only [T.den, E.prop, E.den, RX.look, F1.app, F2.app, Uni.int_i, Uni.nat_n, Uni.bool_c, Uni.str_s, Uni.adr_a, Uni.val_v, Uni.hp_p, hden, cden, V.den, W.den, A.den, BR.den, SA.den, FV.den, capV, exs, exP, allP, Cur.app, List.map_cons, List.map_nil, List.cons_append, List.nil_append, List.drop_succ_cons, List.drop_zero, List.length_cons, List.length_nil, Nat.zero_add, Nat.reduceAdd, Int.neg_neg, Bool.not_not, List.append_nil, Nat.add_zero, List.getElem?_cons_zero, List.getElem?_cons_succ, Decidable.not_not, semW_eq, semW_load, semW_store, semW_storeC, semW_append, semW_lookup, semW_lookupC, semW_update, semW_updateC, semW_updateK, semW_delete, semW_range, semW_next, semW_entry, semW_nil, ne_eq, Nat.reduceEqDiff, not_false_eq_true]
  refine ⟨inI64 _ (by omega) (by omega), fun _ => ?_⟩
  refine ⟨fun _ i => ∃ k : Nat, i = (k : Int) - 1 ∧ k ≤ pgs.length ∧ findU (fun x => decide (x.kind = kind)) pgs pgs.length = findU (fun x => decide (x.kind = kind)) pgs k, fun _ i => (i + 1).toNat, ⟨pgs.length, rfl, Nat.le_refl _, rfl⟩, ?_⟩
  rintro _ _ ⟨k, rfl, hk, hf⟩
  refine ⟨fun h0 => ⟨by omega, fun _ => ⟨ha (by omega), fun _ => ?_⟩⟩, fun h0 => .of fun R h H => ⟨?_, RU.of he hb rfl H⟩⟩
  · obtain ⟨j, rfl⟩ : ∃ j, k = j + 1 := ⟨k - 1, by omega⟩
    obtain ⟨x, hx, hg⟩ := pgAt he (show j < pgs.length by omega)
    have e1 : ((((j + 1 : Nat) : Int) - 1).toNat) = j := by omega
    rw [e1]
    refine ⟨_, loadPg1 undIb aggI szI hx (off := 0) rfl, ⟨fun hy => ⟨_, loadPg1 undIb aggI szI hx (off := 1) rfl, .of fun R h H => ⟨?_, RU.of he hb rfl H⟩⟩, fun hn => ⟨inI64 _ (by omega) (by omega), fun _ => ⟨⟨j, by omega, by omega, ?_⟩, by dsimp only; omega⟩⟩⟩⟩
    · unfold lastR
      rw [hf, findU_step hg, if_pos (by simpa using hy)]
      rfl
    · rw [hf, findU_step hg, if_neg (by simpa using hn)]
  · obtain rfl : k = 0 := by omega
    unfold lastR
    rw [hf]
    rfl
theorem qEpoch_ok : Tri Try.prog 37 #[.pointer (some ⟨rb, 0, none⟩)] (RU rb room pgs) (fun v => HP.and (v = .int .i64 (lastR pgs 4)) (RU rb room pgs)) := by
  refine tri_of_tree (ρ := [.n rb, .p (RU rb room pgs)]) mixed Try.func37 tree_qEpoch ?_
  unfold t_qEpoch
  simp only [T.den, E.prop, E.den, RX.look, F1.app, F2.app, Uni.int_i, Uni.nat_n, Uni.bool_c, Uni.str_s, Uni.adr_a, Uni.val_v, Uni.hp_p, hden, cden, V.den, W.den, A.den, BR.den, SA.den, FV.den, capV, exs, exP, allP, Cur.app, List.map_cons, List.map_nil, List.cons_append, List.nil_append, List.drop_succ_cons, List.drop_zero, List.length_cons, List.length_nil, Nat.zero_add, Nat.reduceAdd, Int.neg_neg, Bool.not_not, List.append_nil, Nat.add_zero, List.getElem?_cons_zero, List.getElem?_cons_succ, Decidable.not_not, semW_eq, semW_load, semW_store, semW_storeC, semW_append, semW_lookup, semW_lookupC, semW_update, semW_updateC, semW_updateK, semW_delete, semW_range, semW_next, semW_entry, semW_nil, ne_eq, Nat.reduceEqDiff, not_false_eq_true]
  refine (qLast_ok rb room pgs 4).weak (fun _ _ h => h) ?_
  rintro v R h ⟨rfl, H⟩
  exact ⟨_, rfl, .of fun R h H => ⟨rfl, H⟩, H⟩
theorem qLow_ok : Tri Try.prog 39 #[.pointer (some ⟨rb, 0, none⟩)] (RU rb room pgs) (fun v => HP.and (v = .int .i64 (lastR pgs 3)) (RU rb room pgs)) := by
  refine tri_of_tree (ρ := [.n rb, .p (RU rb room pgs)]) mixed Try.func39 tree_qLow ?_
  unfold t_qLow
  simp only [T.den, E.prop, E.den, RX.look, F1.app, F2.app, Uni.int_i, Uni.nat_n, Uni.bool_c, Uni.str_s, Uni.adr_a, Uni.val_v, Uni.hp_p, hden, cden, V.den, W.den, A.den, BR.den, SA.den, FV.den, capV, exs, exP, allP, Cur.app, List.map_cons, List.map_nil, List.cons_append, List.nil_append, List.drop_succ_cons, List.drop_zero, List.length_cons, List.length_nil, Nat.zero_add, Nat.reduceAdd, Int.neg_neg, Bool.not_not, List.append_nil, Nat.add_zero, List.getElem?_cons_zero, List.getElem?_cons_succ, Decidable.not_not, semW_eq, semW_load, semW_store, semW_storeC, semW_append, semW_lookup, semW_lookupC, semW_update, semW_updateC, semW_updateK, semW_delete, semW_range, semW_next, semW_entry, semW_nil, ne_eq, Nat.reduceEqDiff, not_false_eq_true]
  refine (qLast_ok rb room pgs 3).weak (fun _ _ h => h) ?_
  rintro v R h ⟨rfl, H⟩
  exact ⟨_, rfl, .of fun R h H => ⟨rfl, H⟩, H⟩
theorem qCell_ok (at' : Int) : Tri Try.prog 109 #[.pointer (some ⟨rb, 0, none⟩), .int .i64 at'] (RU rb room pgs)
    (fun v => HP.ex fun xa => HP.ex fun xc => HP.and (v = .agg #[.int .i64 (cellR pgs at').what, .slice xa (cellR pgs at').data.length xc] ∧ (cellR pgs at').data.length ≤ 140737488355328) (HP.sep (RoB xa (cellR pgs at').data.length (cellR pgs at').data) (RU rb room pgs))) := by
  refine RU.tri fun a c es he hb ha => ?_
  refine tri_of_tree (ρ := rRho rb a pgs.length c es room ++ [.i at']) mixed Try.func109 tree_qCell ?_
  unfold t_qCell
  simp only [T.den, E.prop, E.den, RX.look, F1.app, F2.app, Uni.int_i, Uni.nat_n, Uni.bool_c, Uni.str_s, Uni.adr_a, Uni.val_v, Uni.hp_p, hden, cden, V.den, W.den, A.den, BR.den, SA.den, FV.den, capV, exs, exP, allP, Cur.app, List.map_cons, List.map_nil, List.cons_append, List.nil_append, List.drop_succ_cons, List.drop_zero, List.length_cons, List.length_nil, Nat.zero_add, Nat.reduceAdd, Int.neg_neg, Bool.not_not, List.append_nil, Nat.add_zero, List.getElem?_cons_zero, List.getElem?_cons_succ, Decidable.not_not, semW_eq, semW_load, semW_store, semW_storeC, semW_append, semW_lookup, semW_lookupC, semW_update, semW_updateC, semW_updateK, semW_delete, semW_range, semW_next, semW_entry, semW_nil, ne_eq, Nat.reduceEqDiff, not_false_eq_true]
  intro _
  refine ⟨inI64 _ (by omega) (by omega), fun _ => ?_⟩
  refine ⟨fun i => ∃ k : Nat, i = (k : Int) - 1 ∧ k ≤ pgs.length ∧ findU (fun x => decide (x.kind ≤ 2) && decide (x.n = at')) pgs pgs.length = findU (fun x => decide (x.kind ≤ 2) && decide (x.n = at')) pgs k, fun i => (i + 1).toNat, ⟨pgs.length, rfl, Nat.le_refl _, rfl⟩, ?_⟩
  rintro _ ⟨k, rfl, hk, hf⟩
  refine ⟨fun h0 => ⟨by omega, fun _ => ⟨ha (by omega), fun _ => ?_⟩⟩, fun h0 => .of fun R h H => ?_⟩
  · obtain ⟨j, rfl⟩ : ∃ j, k = j + 1 := ⟨k - 1, by omega⟩
    obtain ⟨x, hx, hg⟩ := pgAt he (show j < pgs.length by omega)
    have e1 : ((((j + 1 : Nat) : Int) - 1).toNat) = j := by omega
    rw [e1]
    have next : (x.pg.kind ≤ 2 && decide (x.pg.n = at')) = false → ∃ k : Nat, ((j + 1 : Nat) : Int) - 1 - 1 = (k : Int) - 1 ∧ k ≤ pgs.length ∧ findU (fun x => decide (x.kind ≤ 2) && decide (x.n = at')) pgs pgs.length = findU (fun x => decide (x.kind ≤ 2) && decide (x.n = at')) pgs k := fun hno => ⟨j, by omega, by omega, by rw [hf, findU_step hg, if_neg (by rw [hno]; decide)]⟩
    refine ⟨_, _, _, _, _, _, _, loadPg hx, fun _ => ⟨fun hk2 => ⟨fun hat => .of fun R h H => ?_, fun hat => ⟨inI64 _ (by omega) (by omega), fun _ => ⟨next (by rw [decide_eq_false hat]; simp), by dsimp only; omega⟩⟩⟩, fun hk2 => ⟨inI64 _ (by omega) (by omega), fun _ => ⟨next (by rw [decide_eq_false hk2]; simp), by dsimp only; omega⟩⟩⟩⟩
    have e : cellR pgs at' = ⟨x.pg.kind, x.pg.bytes⟩ := by
      unfold cellR
      rw [hf, findU_step hg, if_pos (by rw [decide_eq_true hk2, decide_eq_true hat]; rfl)]
      rfl
    rw [e]
    obtain ⟨q1, q2⟩ := pgRo hx (HP.sep_right H)
    exact ⟨x.a, x.c, ⟨rfl, q1⟩, RoC.join (q2 h) (RU.of he hb rfl H)⟩
  · obtain rfl : k = 0 := by omega
    have e : cellR pgs at' = ⟨0, []⟩ := by unfold cellR; rw [hf]; rfl
    rw [e]
    exact ⟨none, 0, ⟨rfl, by simp⟩, RoC.join (RoB0 none : (RoB none 0 []).p R h) (RU.of he hb rfl H)⟩
def askR (l : List RPg) (epoch at' : Int) : Int := if epoch ≠ lastR l 4 then 8 else if at' < 0 ∨ 4294967296 < at' then 2 else 0
theorem qAsk_ok (epoch at' : Int) : Tri Try.prog 107 #[.pointer (some ⟨rb, 0, none⟩), .int .i64 epoch, .int .i64 at'] (RU rb room pgs) (fun v => HP.and (v = .int .i64 (askR pgs epoch at')) (RU rb room pgs)) := by
  refine tri_of_tree (ρ := [.n rb, .p (RU rb room pgs), .i epoch, .i at']) mixed Try.func107 tree_qAsk ?_
  unfold t_qAsk
  simp only [T.den, E.prop, E.den, RX.look, F1.app, F2.app, Uni.int_i, Uni.nat_n, Uni.bool_c, Uni.str_s, Uni.adr_a, Uni.val_v, Uni.hp_p, hden, cden, V.den, W.den, A.den, BR.den, SA.den, FV.den, capV, exs, exP, allP, Cur.app, List.map_cons, List.map_nil, List.cons_append, List.nil_append, List.drop_succ_cons, List.drop_zero, List.length_cons, List.length_nil, Nat.zero_add, Nat.reduceAdd, Int.neg_neg, Bool.not_not, List.append_nil, Nat.add_zero, List.getElem?_cons_zero, List.getElem?_cons_succ, Decidable.not_not, semW_eq, semW_load, semW_store, semW_storeC, semW_append, semW_lookup, semW_lookupC, semW_update, semW_updateC, semW_updateK, semW_delete, semW_range, semW_next, semW_entry, semW_nil, ne_eq, Nat.reduceEqDiff, not_false_eq_true]
  refine (qEpoch_ok rb room pgs).weak (fun _ _ h => h) ?_
  rintro v R h ⟨rfl, H⟩
  refine ⟨_, rfl, ⟨fun h1 => .of fun R h H => ⟨by unfold askR; rw [if_pos h1], H⟩, fun h1 => ⟨fun h2 => .of fun R h H => ⟨by unfold askR; rw [if_neg (by simpa using h1), if_pos (.inl h2)], H⟩, fun h2 => ⟨fun h3 => .of fun R h H => ⟨by unfold askR; rw [if_neg (by simpa using h1), if_pos (.inr h3)], H⟩, fun h3 => .of fun R h H => ⟨by unfold askR; rw [if_neg (by simpa using h1), if_neg (by omega)], H⟩⟩⟩⟩, H⟩
def readR (l : List RPg) (epoch at' : Int) : CellS × Int :=
  if askR l epoch at' ≠ 0 then (⟨0, []⟩, askR l epoch at') else if at' < lastR l 3 then (⟨0, []⟩, 11) else if (cellR l at').what = 0 then (cellR l at', 9) else (cellR l at', 0)
theorem qRead_ok (epoch at' : Int) : Tri Try.prog 62 #[.pointer (some ⟨rb, 0, none⟩), .int .i64 epoch, .int .i64 at'] (RU rb room pgs)
    (fun v => HP.ex fun xa => HP.ex fun xc => HP.and (v = .tuple #[.agg #[.int .i64 (readR pgs epoch at').1.what, .slice xa (readR pgs epoch at').1.data.length xc], .int .i64 (readR pgs epoch at').2] ∧ (readR pgs epoch at').1.data.length ≤ 140737488355328) (HP.sep (RoB xa (readR pgs epoch at').1.data.length (readR pgs epoch at').1.data) (RU rb room pgs))) := by
  refine tri_of_tree (ρ := [.n rb, .p (RU rb room pgs), .i epoch, .i at']) mixed Try.func62 tree_qRead9 ?_
  unfold t_qRead9
  simp only [T.den, E.prop, E.den, RX.look, F1.app, F2.app, Uni.int_i, Uni.nat_n, Uni.bool_c, Uni.str_s, Uni.adr_a, Uni.val_v, Uni.hp_p, hden, cden, V.den, W.den, A.den, BR.den, SA.den, FV.den, capV, exs, exP, allP, Cur.app, List.map_cons, List.map_nil, List.cons_append, List.nil_append, List.drop_succ_cons, List.drop_zero, List.length_cons, List.length_nil, Nat.zero_add, Nat.reduceAdd, Int.neg_neg, Bool.not_not, List.append_nil, Nat.add_zero, List.getElem?_cons_zero, List.getElem?_cons_succ, Decidable.not_not, semW_eq, semW_load, semW_store, semW_storeC, semW_append, semW_lookup, semW_lookupC, semW_update, semW_updateC, semW_updateK, semW_delete, semW_range, semW_next, semW_entry, semW_nil, ne_eq, Nat.reduceEqDiff, not_false_eq_true]
  intro _
  refine (qAsk_ok rb room pgs epoch at').weak (fun _ _ h => h) ?_
  rintro v R h ⟨rfl, H⟩
  refine ⟨_, rfl, ⟨fun h1 => .of fun R h H => ?_, fun h1 => ?_⟩, H⟩
  · have e : readR pgs epoch at' = (⟨0, []⟩, askR pgs epoch at') := if_pos h1
    rw [e]
    exact ⟨none, 0, ⟨rfl, by simp⟩, RoC.join (RoB0 none : (RoB none 0 []).p R h) H⟩
  clear H
  refine (qLow_ok rb room pgs).weak (fun _ _ h => h) ?_
  rintro v R h ⟨rfl, H⟩
  refine ⟨_, rfl, ⟨fun h2 => .of fun R h H => ?_, fun h2 => ?_⟩, H⟩
  · have e : readR pgs epoch at' = (⟨0, []⟩, 11) := by unfold readR; rw [if_neg (by simpa using h1), if_pos h2]
    rw [e]
    exact ⟨none, 0, ⟨rfl, by simp⟩, RoC.join (RoB0 none : (RoB none 0 []).p R h) H⟩
  clear H
  refine (qCell_ok rb room pgs at').weak (fun _ _ h => h) ?_
  rintro v R h ⟨xa, xc, ⟨rfl, hb⟩, H⟩
  refine ⟨_, xa, _, xc, RoB xa _ _, rfl, fun _ => ⟨fun h3 => .of fun R h H => ?_, fun h3 => .of fun R h H => ?_⟩, H⟩
  · have e : readR pgs epoch at' = (cellR pgs at', 9) := by unfold readR; rw [if_neg (by simpa using h1), if_neg h2, if_pos h3]
    rw [e]
    exact ⟨xa, xc, ⟨rfl, hb⟩, HP.sep_comm H⟩
  · have e : readR pgs epoch at' = (cellR pgs at', 0) := by unfold readR; rw [if_neg (by simpa using h1), if_neg h2, if_neg h3]
    rw [e]
    exact ⟨xa, xc, ⟨rfl, hb⟩, HP.sep_comm H⟩
theorem take_succ_foldl {α β : Type} (f : β → α → β) (b : β) (l : List α) (k : Nat) (x : α) (h : l[k]? = some x) : (l.take (k + 1)).foldl f b = f ((l.take k).foldl f b) x := by
  rw [List.take_add_one, h, List.foldl_append]; rfl
theorem qPromised_ok (n : Int) : Tri Try.prog 112 #[.pointer (some ⟨rb, 0, none⟩), .int .i64 n] (RU rb room pgs) (fun v => HP.and (v = .agg #[.int .i64 (promU n pgs).1, .int .i64 (promU n pgs).2]) (RU rb room pgs)) := by
  refine RU.tri fun a c es he hb ha => ?_
  refine tri_of_tree (ρ := rRho rb a pgs.length c es room ++ [.i n]) mixed Try.func112 tree_qPromised ?_
  unfold t_qPromised
  simp only [T.den, E.prop, E.den, RX.look, F1.app, F2.app, Uni.int_i, Uni.nat_n, Uni.bool_c, Uni.str_s, Uni.adr_a, Uni.val_v, Uni.hp_p, hden, cden, V.den, W.den, A.den, BR.den, SA.den, FV.den, capV, exs, exP, allP, Cur.app, List.map_cons, List.map_nil, List.cons_append, List.nil_append, List.drop_succ_cons, List.drop_zero, List.length_cons, List.length_nil, Nat.zero_add, Nat.reduceAdd, Int.neg_neg, Bool.not_not, List.append_nil, Nat.add_zero, List.getElem?_cons_zero, List.getElem?_cons_succ, Decidable.not_not, semW_eq, semW_load, semW_store, semW_storeC, semW_append, semW_lookup, semW_lookupC, semW_update, semW_updateC, semW_updateK, semW_delete, semW_range, semW_next, semW_entry, semW_nil, ne_eq, Nat.reduceEqDiff, not_false_eq_true]
  intro _ _
  refine ⟨fun i p q => ∃ k : Nat, i = k ∧ k ≤ pgs.length ∧ (p, q) = promU n (pgs.take k), fun i _ _ => pgs.length - i.toNat, ⟨0, rfl, Nat.zero_le _, rfl⟩, ?_⟩
  rintro _ p q ⟨k, rfl, hk, hpq⟩
  refine ⟨fun h0 => ⟨by omega, fun _ => ⟨ha (by omega), fun _ => ?_⟩⟩, fun h0 => .of fun R h H => ⟨?_, RU.of he hb rfl H⟩⟩
  · obtain ⟨x, hx, hg⟩ := pgAt he (show k < pgs.length by omega)
    have st := take_succ_foldl (fun b (x : RPg) => if 5 ≤ x.kind ∧ x.n = n then (x.r, x.w) else b) (0, 0) pgs k x.pg hg
    have more : ∀ p' q', (p', q') = promU n (pgs.take (k + 1)) → ∃ k' : Nat, (k : Int) + 1 = k' ∧ k' ≤ pgs.length ∧ (p', q') = promU n (pgs.take k') := fun p' q' e => ⟨k + 1, by omega, by omega, e⟩
    refine ⟨_, loadPg1 undIb aggI szI hx (off := 0) rfl, ⟨fun h5 => ⟨_, loadPg1 undIb aggI szI hx (off := 1) rfl, ⟨fun hn => ⟨_, _, loadPgB hx, inI64 _ (by omega) (by omega), fun _ => ⟨more _ _ ?_, by dsimp only; omega⟩⟩, fun hn => ⟨inI64 _ (by omega) (by omega), fun _ => ⟨more _ _ ?_, by dsimp only; omega⟩⟩⟩⟩, fun h5 => ⟨inI64 _ (by omega) (by omega), fun _ => ⟨more _ _ ?_, by dsimp only; omega⟩⟩⟩⟩
    · unfold promU; rw [st, if_pos ⟨h5, hn⟩]
    · unfold promU; rw [st, if_neg (fun e => hn e.2)]; exact hpq
    · unfold promU; rw [st, if_neg (fun e => h5 e.1)]; exact hpq
  · obtain rfl : k = pgs.length := by omega
    rw [List.take_length] at hpq
    rw [← hpq]
end
end Go.Proofs.Ytmibmjehjagmbaa

/- The document's unit: contracts of what adds pages. No condition. -/
namespace Go.Proofs.Ytmibmjehjagmbaa
set_option linter.unusedSimpArgs false
set_option linter.unusedVariables false
open Go.Proofs.Ytmibmjehjagmbaa RX
set_option maxRecDepth 100000

theorem appE (b : Nat) (a : Option Addr) (n c : Nat) (l : List UInt8) (S : HP) (hr : RdL S a n (l.map u8v)) (hl : l.length = n) (ha : n ≠ 0 → a.isSome = true) (hb : n ≤ 140737488355328) :
    OTri Try.prog (appS 30 30 (.slice (some ⟨b, 0, none⟩) 0 0) (.slice a n c)) (HP.sep (HP.one b (.cells #[] 5 (0, 0))) S)
      (fun v => HP.ex fun a' => HP.ex fun c' => HP.and (v = .slice a' n c') (HP.sep (RoB a' n l) S)) := by
  have := append8 (some ⟨b, 0, none⟩) 0 0 [] S a n c l hr hl ha (by omega)
  refine (this.weak (fun R h H => HP.sep_mono H (fun y hy => ⟨rfl, .inr ⟨b, #[], rfl, hy, Nat.le_refl _, by unfold maxLen; omega, rfl, rfl⟩⟩) fun _ h => h) (fun _ _ _ h => h)).post fun v => fun R h d ⟨a', c', e, H⟩ => ?_
  rw [Nat.zero_add, List.nil_append] at H
  rw [Nat.zero_add] at e
  obtain ⟨R1, h1, q1, q2, q3, q4, H1⟩ := (HP.ent.sep (OwC.share _ _ _ _ _ _) S) R h d H
  exact ⟨R1, h1, q1, q2, q3, q4, a', c', e, H1⟩
theorem PL.appK {α : Type} {K : PK α} (t ty : TypeId) {i : TypeInfo} {z : Value} (ht : Try.prog.underlying t = .some (.slice K.e)) (hi : Try.prog.info? K.e = .some i) (hz : i.zero = .some z) (hzs : z.cells.size = i.size) (hs : i.size = K.n) (hby : i.bytes ≤ 1000)
    (a : Option Addr) (n c : Nat) (l : List α) (b : Nat) (x : α) (Q : HP) (hb : n ≤ 1000000000) :
    OTri Try.prog (appS t ty (.slice a n c) (.slice (.some ⟨b, 0, .none⟩) 1 1)) (HP.sep (PL K a n c l) (HP.sep (HP.one b (.cells (K.vals x).toArray K.e (0, 0))) (HP.sep (K.rep x) Q)))
      (fun v => HP.ex fun a' => HP.ex fun c' => HP.and (v = .slice a' (n + 1) c') (HP.sep (PL K a' (n + 1) c' (l ++ [x])) (HP.sep (HP.one b (.cells (K.vals x).toArray K.e (0, 0))) Q))) := by
  have hr := one_rd b (K.vals x).toArray K.e
  have hbn : (n + 1) * i.bytes ≤ 140737488355328 := by
    have := Nat.mul_le_mul (show n + 1 ≤ 1000000001 by omega) hby
    omega
  have := append_ok t ty K.e i z ht hi hz hzs (by rw [hs]; exact K.pos) a n c (l.flatMap K.vals) (HP.one b (.cells (K.vals x).toArray K.e (0, 0))) ⟨b, 0, .none⟩ 1 1 (K.vals x) (by simpa using hr) (by rw [K.len, hs, Nat.one_mul]) (K.one x) (by unfold maxLen; omega) hbn
  rw [hs] at this
  refine OTri.fact (φ := l.length = n) (fun R h H => (HP.sep_left H).1) fun hl => ?_
  refine (this.frame (HP.sep (sepN (l.map K.rep)) (HP.sep (K.rep x) Q))).weak (fun R h H => ?_) ?_
  · have H1 := HP.sep_assoc (HP.sep_mono H (fun _ h => h.2) fun _ h => h)
    exact HP.sep_assoc' (HP.pick [_, _, _, _, _] [0, 2, 1, 3, 4] (by decide) rfl H1)
  · rintro v R h ⟨h1, h2, d, l1, l2, ⟨a', c', rfl, H⟩, HU⟩
    refine ⟨a', c', rfl, ?_⟩
    have H1 := HP.sep_assoc ⟨h1, h2, d, l1, l2, H, HU⟩
    have H2 : (HP.sep (OwC K.e K.n a' (n + 1) c' (l.flatMap K.vals ++ K.vals x)) (HP.sep (sepN (l.map K.rep)) (HP.sep (K.rep x) (HP.sep (HP.one b (.cells (K.vals x).toArray K.e (0, 0))) Q)))).p R h := HP.pick [_, _, _, _, _] [0, 2, 3, 1, 4] (by decide) rfl H1
    have e : (l ++ [x]).map K.rep = l.map K.rep ++ [K.rep x] := by simp
    have H3 : (HP.sep (OwC K.e K.n a' (n + 1) c' (l.flatMap K.vals ++ K.vals x)) (HP.sep (sepN ((l ++ [x]).map K.rep)) (HP.sep (HP.one b (.cells (K.vals x).toArray K.e (0, 0))) Q))).p R h := HP.sep_mono H2 (fun _ h => h) fun y hy => by
      have := HP.sep_assoc' hy
      rw [e]
      exact HP.sep_mono this (fun z hz => (sepN_app (l := l.map K.rep) (m := [K.rep x])).2 hz) fun _ h => h
    have H4 := HP.sep_assoc' H3
    refine HP.sep_mono H4 (fun y hy => ⟨by simp [hl], ?_⟩) fun _ h => h
    have e2 : (l ++ [x]).flatMap K.vals = l.flatMap K.vals ++ K.vals x := by simp
    rw [e2]
    exact hy
/-- A page more. -/
def addR (room : Int) (l : List RPg) (x : RPg) : Int × List RPg := if room ≤ l.length then (4, l) else (0, l ++ [x])
theorem undPgs : Try.prog.underlying 43 = some (.slice 148) := by kernel_rfl
theorem infoPg : (Try.prog.info? 148).map (fun i => (i.zero, i.size, i.bytes)) = some (some (.agg #[.int .i64 0, .int .i64 0, .int .i64 0, .int .i64 0, .slice none 0 0]), 5, 56) := by kernel_rfl
section
variable (rb : Nat) (room : Int) (pgs : List RPg)
theorem qAdd_ok (hroom : room ≤ 1000000) (x : RPg) (xa : Option Addr) (xc : Nat) (hx : x.bytes.length ≤ 140737488355328) :
    Tri Try.prog 108 #[.pointer (some ⟨rb, 0, none⟩), .agg #[.int .i64 x.kind, .int .i64 x.n, .int .i64 x.r, .int .i64 x.w, .slice xa x.bytes.length xc]] (HP.sep (RU rb room pgs) (RoB xa x.bytes.length x.bytes))
    (fun v => HP.and (v = .int .i64 (addR room pgs x).1) (HP.sep (RU rb room (addR room pgs x).2) (RoB xa x.bytes.length x.bytes))) := by
  refine RU.triS fun a c es he hb ha => ?_
  refine tri_of_tree (ρ := rRho rb a pgs.length c es room ++ [.i x.kind, .i x.n, .i x.r, .i x.w, .a xa, .n x.bytes.length, .n xc, .p (RoB xa x.bytes.length x.bytes)]) mixed Try.func108 tree_qAdd ?_
  unfold t_qAdd
  simp only [T.den, E.prop, E.den, RX.look, F1.app, F2.app, Uni.int_i, Uni.nat_n, Uni.bool_c, Uni.str_s, Uni.adr_a, Uni.val_v, Uni.hp_p, hden, cden, V.den, W.den, A.den, BR.den, SA.den, FV.den, capV, exs, exP, allP, Cur.app, List.map_cons, List.map_nil, List.cons_append, List.nil_append, List.drop_succ_cons, List.drop_zero, List.length_cons, List.length_nil, Nat.zero_add, Nat.reduceAdd, Int.neg_neg, Bool.not_not, List.append_nil, Nat.add_zero, List.getElem?_cons_zero, List.getElem?_cons_succ, Decidable.not_not, semW_eq, semW_load, semW_store, semW_storeC, semW_append, semW_lookup, semW_lookupC, semW_update, semW_updateC, semW_updateK, semW_delete, semW_range, semW_next, semW_entry, semW_nil, ne_eq, Nat.reduceEqDiff, not_false_eq_true]
  intro _
  refine ⟨fun hf => .of fun R h H => ?_, fun hf z => ?_⟩
  · have e : addR room pgs x = (4, pgs) := if_pos hf
    rw [e]
    exact ⟨rfl, HP.sep_mono (HP.sep_assoc' H) (fun y hy => RU.of he hb rfl hy) fun _ h => h⟩
  · have e : addR room pgs x = (0, pgs ++ [x]) := if_neg hf
    rw [e]
    obtain ⟨i, hi, h1, h2, h3⟩ := info_parts infoPg
    refine (PL.appK (K := kPg) 43 43 undPgs hi h1 (by rw [h2]; rfl) h2 (by rw [h3]; decide) a pgs.length c es z ⟨x, xa, xc⟩ (RoB xa x.bytes.length x.bytes) (by omega)).weak (fun R h H => ?_) ?_
    · refine HP.sep_mono H (fun _ h => h) fun y hy => HP.sep_mono hy (fun _ h => h) fun w hw => ?_
      exact HP.sep_mono (RoC.join hw hw : (HP.sep (RoB xa x.bytes.length x.bytes) (RoB xa x.bytes.length x.bytes)).p R w) (fun _ h => (⟨hx, h⟩ : (HP.and (x.bytes.length ≤ 140737488355328) (RoB xa x.bytes.length x.bytes)).p _ _)) fun _ h => h
    rintro v R h ⟨a', c', rfl, H⟩
    have hm : (es ++ [(⟨x, xa, xc⟩ : PgE)]).map PgE.pg = pgs ++ [x] := by rw [List.map_append, he]; rfl
    refine ⟨a', pgs.length + 1, c', PL kPg a' (pgs.length + 1) c' (es ++ [⟨x, xa, xc⟩]), rfl, .of fun R h H => ⟨rfl, ?_⟩, H⟩
    exact HP.sep_mono (HP.sep_assoc' H) (fun y hy => RU.of hm (by simp; omega) (by simp) hy) fun _ h => h
theorem qAddN_ok (hroom : room ≤ 1000000) (x : RPg) (hx : x.bytes = []) :
    Tri Try.prog 108 #[.pointer (some ⟨rb, 0, none⟩), .agg #[.int .i64 x.kind, .int .i64 x.n, .int .i64 x.r, .int .i64 x.w, .slice none 0 0]] (RU rb room pgs)
    (fun v => HP.and (v = .int .i64 (addR room pgs x).1) (RU rb room (addR room pgs x).2)) := by
  have := qAdd_ok rb room pgs hroom x none 0 (by rw [hx]; simp)
  rw [hx] at this
  exact this.weak (fun R h H => RoC.joinR (RoB0 none : (RoB none 0 []).p R h) H) fun v R h ⟨e, H⟩ => ⟨e, HP.sep_left H⟩
end
end Go.Proofs.Ytmibmjehjagmbaa
