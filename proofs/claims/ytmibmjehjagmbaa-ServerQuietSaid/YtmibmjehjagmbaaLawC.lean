/- The server's laws over messages as assertions. No condition. -/
import Derived.Test.YtmibmjehjagmbaaLawB
namespace Go.Proofs.Ytmibmjehjagmbaa
set_option linter.unusedSimpArgs false
set_option linter.unusedVariables false
open Go.Proofs.Ytmibmjehjagmbaa RX

/-- A unit without its device. -/
def UN (ub bd : Nat) (s : USt) : HP := HP.ex fun mc => HP.ex fun mi => HP.sep (UOne ub bd mc mi s) (HP.sep (MapE CellV iE mc s.cells) (MapE InstV iE mi s.inst))
theorem UD.split {ub bd : Nat} {room : Int} {s : USt} {ps : List Pg} {R h : PH} (H : (UD ub bd room s ps).p R h) : (HP.sep (DRep bd room ps ps.length) (UN ub bd s)).p R h := by
  obtain ⟨mc, mi, H⟩ := H
  exact HP.sep_mono (HP.swap H) (fun _ h => h) fun y hy => ⟨mc, mi, hy⟩
theorem UD.join {ub bd : Nat} {room : Int} {s : USt} {ps : List Pg} {R h : PH} (H : (HP.sep (DRep bd room ps ps.length) (UN ub bd s)).p R h) : (UD ub bd room s ps).p R h := by
  obtain ⟨h1, h2, d, l1, l2, hD, mc, mi, H⟩ := H
  exact ⟨mc, mi, HP.swap ⟨h1, h2, d, l1, l2, hD, H⟩⟩
theorem dPagesU_ok (ub bd : Nat) (room : Int) (s : USt) (ps : List Pg) : Tri Try.prog 34 #[.pointer (some ⟨bd, 0, none⟩)] (HP.sep HP.tt (UD ub bd room s ps))
    (fun v => HP.ex fun a => HP.ex fun c => HP.and (v = .slice a (wholes ps).length c) (HP.sep (LL a (wholes ps).length c (wholes ps)) (HP.sep HP.tt (UD ub bd room s ps)))) :=
  (dPages_ok bd room ps ps.length).conseq (K := UN ub bd s) (.of fun R h H => UD.split (HP.sep_right H)) fun v => .of fun R h ⟨h1, h2, d, l1, l2, ⟨a, c, ⟨e, _⟩, H⟩, HU⟩ => ⟨a, c, e, by
    have H1 := HP.swap (HP.sep_assoc ⟨h1, h2, d, l1, l2, H, HU⟩)
    exact HP.sep_mono H1 (fun _ h => h) fun y hy => HP.tt_sep (UD.join hy)⟩
theorem RoB0 (a : Option Addr) {R h : PH} : (RoB a 0 []).p R h := RoC.nil 1 a R h
/-- An answer to a message without bytes. -/
theorem answer0_ok (ub bd : Nat) (room : Int) (s : USt) (ps : List Pg) (m : MS) (h1 : m.cell.data = []) (h2 : m.val = []) :
    Tri Try.prog 45 #[.pointer (some ⟨ub, 0, none⟩), .agg (m.raw none 0 none 0).vals] (UD ub bd room s ps)
    (fun v => HP.ex fun rca => HP.ex fun rcc => HP.ex fun rva => HP.ex fun rvc => HP.and (v = .tuple #[.agg ((answerS room s ps m).2.1.raw rca rcc rva rvc).vals, .bool (answerS room s ps m).1])
      (HP.sep ((answerS room s ps m).2.1.Dro rca) (HP.sep ((answerS room s ps m).2.1.Vro rva) (UD ub bd room (answerS room s ps m).2.2.1 (answerS room s ps m).2.2.2)))) := by
  refine (answer_ok ub bd room s ps m none 0 none 0).weak (fun R h H => ?_) fun v R h ⟨rca, rcc, rva, rvc, e, H⟩ => ⟨rca, rcc, rva, rvc, e, HP.pick [_, _, _, _, _] [3, 4, 0] (by decide) rfl H⟩
  have e1 : (m.Dro none).p R h := by unfold MS.Dro; rw [h1]; exact RoB0 none
  have e2 : (m.Vro none).p R h := by unfold MS.Vro; rw [h2]; exact RoB0 none
  exact HP.sep_assoc (RoC.joinR e2 (RoC.joinR e1 H))
theorem same12z_ok (m : MS) (ca : Option Addr) (cc : Nat) (va : Option Addr) (vc : Nat) (hn : m.cell.data.length ≤ 140737488355328) (hv : m.val.length ≤ 140737488355328) :
    Tri Try.prog 46 #[.agg (m.raw ca cc va vc).vals, .agg (zMS.raw none 0 none 0).vals] (HP.sep (m.Dro ca) (m.Vro va)) (fun v => HP.ex fun b => HP.and (v = .bool b ∧ (m = zMS → b = true)) (HP.sep (m.Dro ca) (m.Vro va))) := by
  refine (same12_ok m zMS ca cc va vc none 0 none 0 hn hv).weak (fun R h H => ?_) fun v R h ⟨b, e, H⟩ => ⟨b, e, HP.pick [_, _, _, _] [0, 1] (by decide) rfl H⟩
  exact HP.sep_mono H (fun _ h => h) fun y hy => HP.sep_assoc (RoC.joinR (RoB0 none : (zMS.Vro none).p R y) (RoC.joinR (RoB0 none : (zMS.Dro none).p R y) hy))
/-- An answer to one of the messages that came in. -/
theorem answerM_ok (ub bd : Nat) (room : Int) (s : USt) (ps : List Pg) (a : Option Addr) (n : Nat) (l : List RM) (k : Nat) (x : RM) (hk : l[k]? = some x) :
    Tri Try.prog 45 #[.pointer (some ⟨ub, 0, none⟩), .agg x.vals] (HP.sep (UD ub bd room s ps) (ListM a n l))
    (fun v => HP.ex fun rca => HP.ex fun rcc => HP.ex fun rva => HP.ex fun rvc => HP.and (v = .tuple #[.agg ((answerS room s ps x.ms).2.1.raw rca rcc rva rvc).vals, .bool (answerS room s ps x.ms).1])
      (HP.sep ((answerS room s ps x.ms).2.1.Dro rca) (HP.sep ((answerS room s ps x.ms).2.1.Vro rva) (HP.sep (UD ub bd room (answerS room s ps x.ms).2.2.1 (answerS room s ps x.ms).2.2.2) (ListM a n l))))) := by
  refine (answer_ok ub bd room s ps x.ms x.ca x.cc x.va x.vc).conseq (K := ListM a n l) (.of fun R h H => ?_) fun v => .of fun R h ⟨h1, h2, d, l1, l2, ⟨rca, rcc, rva, rvc, e, H⟩, HL⟩ => ⟨rca, rcc, rva, rvc, e, ?_⟩
  · have hx := (HP.sep_right H).2.2 x (List.mem_of_getElem? hk)
    have e1 := hx.2.1
    have e2 := hx.2.2
    exact HP.sep_mono H (fun y hy => HP.sep_assoc (RoC.joinR e2 (RoC.joinR e1 hy))) fun _ h => h
  · exact HP.pick [_, _, _, _, _, _] [3, 4, 0, 5] (by decide) rfl ((sepN_app (l := [_, _, _, _, _]) (m := [_])).2 ⟨h1, h2, d, l1, l2, H, HL⟩)
set_option maxRecDepth 100000 in
theorem speaks14_ok : Tri Try.prog 42 #[] HP.tt (fun v => HP.pure (v = .bool true)) := by
  refine tri_of_tree (ρ := []) mixed Try.func42 tree_speaks14 ?_
  unfold t_speaks14
  simp only [T.den, E.prop, E.den, RX.look, F1.app, F2.app, Uni.int_i, Uni.nat_n, Uni.bool_c, Uni.str_s, Uni.adr_a, Uni.val_v, Uni.hp_p, hden, cden, V.den, W.den, A.den, BR.den, SA.den, FV.den, capV, exs, exP, allP, Cur.app, List.map_cons, List.map_nil, List.cons_append, List.nil_append, List.drop_succ_cons, List.drop_zero, List.length_cons, List.length_nil, Nat.zero_add, Nat.reduceAdd, Int.neg_neg, Bool.not_not, List.append_nil, Nat.add_zero, List.getElem?_cons_zero, List.getElem?_cons_succ, Decidable.not_not]
  refine (laid14_ok 9 (by decide) (by decide)).weak (fun _ _ h => h) ?_
  rintro v R h ⟨bd, ub, rfl, H⟩
  refine ⟨bd, HP.tt, ub, UD ub bd 9 s0 [], rfl, fun x => ?_, H⟩
  clear H
  let m : MS := ⟨1, 0, 0, false, 4, 3, 0, ⟨0, []⟩, 0, 0, [], 0, 0, 0, 0⟩
  refine (answer0_ok ub bd 9 s0 [] m rfl rfl).weak (fun _ _ h => h) ?_
  rintro v R h ⟨rca, rcc, rva, rvc, rfl, H⟩
  have a1 : (answerS 9 s0 [] m).2 = (⟨0, 1, 0, true, 4, 3, 0, zC, 0, 0, [], 0, 0, 0, 3⟩, { s0 with epoch := 3 }, [⟨1, pageL 4 [3]⟩]) := by
    simp [answerS, m, deedS, s0, sealS, lastS, finS, repS]
  have a0 : (answerS 9 s0 [] m).1 = true := by simp [answerS, m]
  rw [a1] at H
  rw [a1, a0]
  refine ⟨_, _, _, _, _, _, _, _, rca, _, rcc, _, _, _, rva, _, rvc, _, _, _, _, _, true, UD ub bd 9 { s0 with epoch := 3 } [⟨1, pageL 4 [3]⟩], rfl, fun y => ?_, H⟩
  clear H
  refine (answer0_ok ub bd 9 { s0 with epoch := 3 } [⟨1, pageL 4 [3]⟩] m rfl rfl).weak (fun _ _ h => h) ?_
  rintro v R h ⟨rca2, rcc2, rva2, rvc2, rfl, H⟩
  have b1 : (answerS 9 { s0 with epoch := 3 } [⟨1, pageL 4 [3]⟩] m).2 = (⟨0, 1, 0, true, 4, 3, 0, zC, 0, 0, [], 0, 0, 0, 3⟩, { s0 with epoch := 3 }, [⟨1, pageL 4 [3]⟩]) := by
    simp [answerS, m, deedS, s0, finS, repS]
  have b0 : (answerS 9 { s0 with epoch := 3 } [⟨1, pageL 4 [3]⟩] m).1 = true := by simp [answerS, m]
  rw [b1] at H
  rw [b1, b0]
  refine ⟨_, _, _, _, _, _, _, _, rca2, _, rcc2, _, _, _, rva2, _, rvc2, _, _, _, _, _, true, UD ub bd 9 { s0 with epoch := 3 } [⟨1, pageL 4 [3]⟩], rfl, fun z => ?_, H⟩
  refine ⟨fun _ => ⟨fun _ => ⟨fun _ => ⟨fun _ => ⟨fun _ => .of fun R h H => ?_, fun h => absurd rfl h⟩, fun h => absurd rfl h⟩, fun h => absurd rfl h⟩, fun h => absurd rfl h⟩, fun h => absurd rfl h⟩
  rfl
end Go.Proofs.Ytmibmjehjagmbaa
