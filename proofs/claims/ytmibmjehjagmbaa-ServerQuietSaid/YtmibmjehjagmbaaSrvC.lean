/- Contracts of the server: its answer. No condition. -/
import Derived.Test.YtmibmjehjagmbaaSrvB
import Derived.Test.YtmibmjehjagmbaaPick
namespace Go.Proofs.Ytmibmjehjagmbaa
set_option linter.unusedSimpArgs false
set_option linter.unusedVariables false
open Go.Proofs.Ytmibmjehjagmbaa RX

def repS (m : MS) : MS := ⟨m.to, m.fr, m.num, true, m.kind, m.ep, m.at', zC, 0, 0, [], 0, 0, 0, 0⟩
def zMS : MS := ⟨0, 0, 0, false, 0, 0, 0, zC, 0, 0, [], 0, 0, 0, 0⟩
def finS (e : Int) (r : MS) (s : USt) : MS :=
  if e = 0 then { r with err := e, low := s.low, back := s.epoch }
  else { r with err := e, br := 0, bw := 0, val := [], tail := 0, cell := if e = 10 then r.cell else zC, low := s.low, back := s.epoch }
/-- What a unit replies to a message, if it does; and what is there then. -/
def answerS (room : Int) (s : USt) (ps : List Pg) (m : MS) : Bool × MS × USt × List Pg :=
  if m.rep = true ∨ ¬ (1 ≤ m.kind ∧ m.kind ≤ 7) then (false, zMS, s, ps)
  else (true, finS (deedS room s ps m (repS m)).1 (deedS room s ps m (repS m)).2.1 (deedS room s ps m (repS m)).2.2.1, (deedS room s ps m (repS m)).2.2)
theorem infoF : (Try.prog.info? 150).map (fun i => (i.zero, i.size, i.bytes)) = some (some .nilFunc, 1, 8) := by kernel_rfl
theorem fgo1 : Fgo Try.prog 119 := ⟨_, Try.func119, by kernel_rfl, by kernel_rfl⟩
theorem fgo2 : Fgo Try.prog 120 := ⟨_, Try.func120, by kernel_rfl, by kernel_rfl⟩
theorem fgo3 : Fgo Try.prog 121 := ⟨_, Try.func121, by kernel_rfl, by kernel_rfl⟩
theorem fgo4 : Fgo Try.prog 122 := ⟨_, Try.func122, by kernel_rfl, by kernel_rfl⟩
theorem fgo5 : Fgo Try.prog 123 := ⟨_, Try.func123, by kernel_rfl, by kernel_rfl⟩
theorem fgo6 : Fgo Try.prog 124 := ⟨_, Try.func124, by kernel_rfl, by kernel_rfl⟩
theorem fgo7 : Fgo Try.prog 125 := ⟨_, Try.func125, by kernel_rfl, by kernel_rfl⟩
section
variable (ub bd bu bm br rb : Nat) (room : Int) (s : USt) (ps : List Pg) (m : MS) (ca : Option Addr) (cc : Nat) (va : Option Addr) (vc : Nat)
/-- What stands for a kind of request. -/
theorem deed_look (hk : 1 ≤ m.kind ∧ m.kind ≤ 7) : ∃ f, (alFind m.kind (deedsAL bu bm br)) = some f ∧ oneC f = f ∧
    VTri Try.prog f #[] (PreD ub bd bu bm br rb room s ps m (repS m) ca cc va vc none 0 none 0) (PostD ub bd bu bm br rb room m ca cc va vc (deedS room s ps m (repS m))) := by
  have small : ∀ {f : FuncId}, Fgo Try.prog f → Tri Try.prog f #[.pointer (some ⟨bu, 0, none⟩), .pointer (some ⟨bm, 0, none⟩)] (PreD' ub bd bu bm room s ps m ca cc va vc)
    (fun v => HP.and (v = .int .i64 (deedS room s ps m (repS m)).1 ∧ (deedS room s ps m (repS m)).2.1 = repS m) (PreD' ub bd bu bm room (deedS room s ps m (repS m)).2.2.1 (deedS room s ps m (repS m)).2.2.2 m ca cc va vc)) →
    VTri Try.prog (fv2 f bu bm) #[] (PreD ub bd bu bm br rb room s ps m (repS m) ca cc va vc none 0 none 0) (PostD ub bd bu bm br rb room m ca cc va vc (deedS room s ps m (repS m))) := fun g t =>
    .inl ⟨_, _, rfl, g, t.conseq (K := HP.sep (BoxR br rb) (HP.sep (MOne rb ((repS m).raw none 0 none 0)) (HP.sep ((repS m).Dro none) ((repS m).Vro none))))
      (.of fun R h H => HP.sep_assoc' (HP.sep_mono H (fun _ h => h) fun y H => HP.sep_assoc' (HP.sep_mono H (fun _ h => h) fun y H => HP.sep_assoc' (HP.sep_mono H (fun _ h => h) fun y H => HP.sep_assoc' H))))
      fun v => .of fun R h ⟨h1, h2, d, l1, l2, ⟨⟨e1, e2⟩, H⟩, HK⟩ => ⟨none, 0, none, 0, e1, by
        rw [e2]
        exact HP.sep_mono (HP.sep_assoc ⟨h1, h2, d, l1, l2, H, HK⟩) (fun _ h => h) fun y H => HP.sep_mono (HP.sep_assoc H) (fun _ h => h) fun y H => HP.sep_mono (HP.sep_assoc H) (fun _ h => h) fun y H => HP.sep_assoc H⟩⟩
  have hc : m.kind = 1 ∨ m.kind = 2 ∨ m.kind = 3 ∨ m.kind = 4 ∨ m.kind = 5 ∨ m.kind = 6 ∨ m.kind = 7 := by omega
  rcases hc with hk | hk | hk | hk | hk | hk | hk
  · exact ⟨fv3 119 bu bm br, by rw [hk]; rfl, rfl, .inl ⟨_, _, rfl, fgo1, deed1_ok ub bd bu bm br rb room s ps m (repS m) ca cc va vc none 0 none 0 hk⟩⟩
  · exact ⟨fv3 120 bu bm br, by rw [hk]; rfl, rfl, .inl ⟨_, _, rfl, fgo2, deed2_ok ub bd bu bm br rb room s ps m (repS m) ca cc va vc none 0 none 0 hk⟩⟩
  · exact ⟨fv2 121 bu bm, by rw [hk]; rfl, rfl, small fgo3 (deed3_ok ub bd bu bm room s ps m (repS m) ca cc va vc hk)⟩
  · exact ⟨fv3 122 bu bm br, by rw [hk]; rfl, rfl, .inl ⟨_, _, rfl, fgo4, deed4_ok ub bd bu bm br rb room s ps m (repS m) ca cc va vc none 0 none 0 hk⟩⟩
  · exact ⟨fv3 123 bu bm br, by rw [hk]; rfl, rfl, .inl ⟨_, _, rfl, fgo5, deed5_ok ub bd bu bm br rb room s ps m (repS m) ca cc va vc none 0 none 0 hk⟩⟩
  · exact ⟨fv3 124 bu bm br, by rw [hk]; rfl, rfl, .inl ⟨_, _, rfl, fgo6, deed6_ok ub bd bu bm br rb room s ps m (repS m) ca cc va vc none 0 none 0 hk⟩⟩
  · exact ⟨fv2 125 bu bm, by rw [hk]; rfl, rfl, small fgo7 (deed7_ok ub bd bu bm room s ps m (repS m) ca cc va vc hk)⟩
theorem deed_none (hk : ¬ (1 ≤ m.kind ∧ m.kind ≤ 7)) : alFind m.kind (deedsAL bu bm br) = none := by
  simp only [deedsAL, alFind]
  repeat rw [if_neg (by omega)]
end
set_option maxRecDepth 100000 in
theorem answer_ok (ub bd : Nat) (room : Int) (s : USt) (ps : List Pg) (m : MS) (ca : Option Addr) (cc : Nat) (va : Option Addr) (vc : Nat) :
    Tri Try.prog 45 #[.pointer (some ⟨ub, 0, none⟩), .agg (m.raw ca cc va vc).vals] (HP.sep (UD ub bd room s ps) (HP.sep (m.Dro ca) (m.Vro va)))
    (fun v => HP.ex fun rca => HP.ex fun rcc => HP.ex fun rva => HP.ex fun rvc => HP.and (v = .tuple #[.agg ((answerS room s ps m).2.1.raw rca rcc rva rvc).vals, .bool (answerS room s ps m).1])
      (HP.sep (UD ub bd room (answerS room s ps m).2.2.1 (answerS room s ps m).2.2.2) (HP.sep (m.Dro ca) (HP.sep (m.Vro va) (HP.sep ((answerS room s ps m).2.1.Dro rca) ((answerS room s ps m).2.1.Vro rva)))))) := by
  refine tri_of_tree (ρ := [.n ub, .p (UD ub bd room s ps), .i m.fr, .i m.to, .i m.num, .c m.rep, .i m.kind, .i m.ep, .i m.at', .i m.cell.what, .a ca, .n m.cell.data.length, .n cc, .p (m.Dro ca), .i m.br, .i m.bw, .a va, .n m.val.length, .n vc, .p (m.Vro va), .i m.err, .i m.tail, .i m.low, .i m.back]) mixed Try.func45 tree_answer ?_
  unfold t_answer
  simp only [T.den, E.prop, E.den, RX.look, F1.app, F2.app, Uni.int_i, Uni.nat_n, Uni.bool_c, Uni.str_s, Uni.adr_a, Uni.val_v, Uni.hp_p, hden, cden, V.den, W.den, A.den, BR.den, SA.den, FV.den, capV, exs, exP, allP, Cur.app, List.map_cons, List.map_nil, List.cons_append, List.nil_append, List.drop_succ_cons, List.drop_zero, List.length_cons, List.length_nil, Nat.zero_add, Nat.reduceAdd, Int.neg_neg, Bool.not_not, List.append_nil, Nat.add_zero, List.getElem?_cons_zero, List.getElem?_cons_succ, Decidable.not_not]
  intro x y
  refine (reply_ok (m.raw ca cc va vc) 0 (m.Dro ca) (m.Vro va)).weak (fun _ _ h => h) ?_
  rintro v R h ⟨rfl, H⟩
  refine ⟨m.to, m.fr, m.num, true, m.kind, m.ep, m.at', 0, none, 0, 0, HP.tt, 0, 0, none, 0, 0, HP.tt, 0, 0, 0, 0, rfl, fun rb => ?_, HP.tt_sep (HP.tt_sep H)⟩
  clear H
  refine (deeds_ok ub (UD ub bd room s ps) (m.raw ca cc va vc) (m.Dro ca) (m.Vro va) rb _).weak (fun _ _ h => h) ?_
  rintro v R h ⟨mp, bu, bm, br, rfl, H⟩
  have hD := HP.sep_left (HP.sep_right (HP.sep_right (HP.sep_right (HP.sep_right H))))
  have hV := HP.sep_left (HP.sep_right (HP.sep_right (HP.sep_right (HP.sep_right (HP.sep_right H)))))
  let P0 : HP := sepN [HP.one mp (mapObj iE (deedsAL bu bm br) 7), BoxU bu ub, MOne bm (m.raw ca cc va vc), m.Dro ca, m.Vro va, BoxR br rb]
  have hP0 : ∀ y, (sepN [HP.one mp (mapObj iE (deedsAL bu bm br) 7), BoxU bu ub, MOne bm (m.raw ca cc va vc), BoxR br rb]).p R y → P0.p R y := fun y hy =>
    HP.pick [m.Dro ca, m.Vro va, HP.one mp (mapObj iE (deedsAL bu bm br) 7), BoxU bu ub, MOne bm (m.raw ca cc va vc), BoxR br rb] [2, 3, 4, 0, 1, 5] (by decide) rfl (RoC.join hD (RoC.join hV hy))
  have H2 := HP.pick [HP.one mp (mapObj iE (deedsAL bu bm br) 7), BoxU bu ub, UD ub bd room s ps, MOne bm (m.raw ca cc va vc), m.Dro ca, m.Vro va, BoxR br rb, MOne rb (repR (m.raw ca cc va vc) 0), HP.tt, HP.tt] [0, 1, 3, 6, 2, 4, 5, 7, 8, 9] (by decide) rfl H
  have H3 := HP.sep_mono (sepN_app (l := [HP.one mp (mapObj iE (deedsAL bu bm br) 7), BoxU bu ub, MOne bm (m.raw ca cc va vc), BoxR br rb]) (m := [UD ub bd room s ps, m.Dro ca, m.Vro va, MOne rb (repR (m.raw ca cc va vc) 0), HP.tt, HP.tt]).1 H2) hP0 fun _ h => h
  refine ⟨mp, P0, UD ub bd room s ps, m.Dro ca, m.Vro va, m.to, m.fr, m.num, true, m.kind, m.ep, m.at', 0, none, 0, 0, HP.tt, 0, 0, none, 0, 0, HP.tt, 0, 0, 0, 0, rfl, ?_, H3⟩
  clear H H2 H3 hP0 hD hV
  obtain ⟨i, hi, z1, _⟩ := info_parts infoF
  have hlook := look_ok (r := mp) (l := deedsAL bu bm br) (c := 7) iK undMf hi z1 m.kind true (A := P0) (fun R h H => HP.sep_left H)
  rw [if_pos rfl] at hlook
  have nothing : (m.rep = true ∨ ¬ (1 ≤ m.kind ∧ m.kind ≤ 7)) → HP.ent (HP.sep (UD ub bd room s ps) (HP.sep (m.Dro ca) (m.Vro va))) (HP.ex fun rca => HP.ex fun rcc => HP.ex fun rva => HP.ex fun rvc => HP.and (Value.tuple #[.agg #[.int .i64 0, .int .i64 0, .int .i64 0, .bool false, .int .i64 0, .int .i64 0, .int .i64 0, .int .i64 0, .slice none 0 0, .int .i64 0, .int .i64 0, .slice none 0 0, .int .i64 0, .int .i64 0, .int .i64 0, .int .i64 0], .bool false] = .tuple #[.agg ((answerS room s ps m).2.1.raw rca rcc rva rvc).vals, .bool (answerS room s ps m).1])
      (HP.sep (UD ub bd room (answerS room s ps m).2.2.1 (answerS room s ps m).2.2.2) (HP.sep (m.Dro ca) (HP.sep (m.Vro va) (HP.sep ((answerS room s ps m).2.1.Dro rca) ((answerS room s ps m).2.1.Vro rva)))))) := fun hn => by
    have e : answerS room s ps m = (false, zMS, s, ps) := if_pos hn
    rw [e]
    exact .of fun R h H => ⟨none, 0, none, 0, rfl, HP.sep_mono H (fun _ h => h) fun y H => HP.sep_mono H (fun _ h => h) fun z H => HP.sep_assoc (RoC.joinR (RoC.nil 1 none R z) (RoC.joinR (RoC.nil 1 none R z) H))⟩
  by_cases hk : 1 ≤ m.kind ∧ m.kind ≤ 7
  · obtain ⟨f, hf, hf1, hv⟩ := deed_look ub bd bu bm br rb room s ps m ca cc va vc hk
    rw [hf] at hlook
    simp only [Option.getD_some, Option.isSome_some] at hlook
    refine ⟨f, true, by rw [hf1]; exact hlook, fun hr => nothing (.inl hr), fun hr => ⟨fun h => absurd rfl h, fun _ => ?_⟩⟩
    have ea : answerS room s ps m = (true, finS (deedS room s ps m (repS m)).1 (deedS room s ps m (repS m)).2.1 (deedS room s ps m (repS m)).2.2.1, (deedS room s ps m (repS m)).2.2) := if_neg (fun h => h.elim hr fun h => h hk)
    rw [ea]
    generalize hd : deedS room s ps m (repS m) = d at hv
    obtain ⟨e, r', s', ps'⟩ := d
    refine hv.conseq (K := HP.one mp (mapObj iE (deedsAL bu bm br) 7)) (.of fun R h H => ?_) fun v => .of fun R h H => ?_
    · have H1 := (sepN_app (l := [HP.one mp (mapObj iE (deedsAL bu bm br) 7), BoxU bu ub, MOne bm (m.raw ca cc va vc), m.Dro ca, m.Vro va, BoxR br rb]) (m := [UD ub bd room s ps, MOne rb (repR (m.raw ca cc va vc) 0), HP.tt, HP.tt])).2 H
      have H2 := RoC.join (RoC.nil 1 none R h : ((repS m).Dro none).p R h) (RoC.join (RoC.nil 1 none R h : ((repS m).Vro none).p R h) H1)
      have H3 := HP.pick [(repS m).Dro none, (repS m).Vro none, HP.one mp (mapObj iE (deedsAL bu bm br) 7), BoxU bu ub, MOne bm (m.raw ca cc va vc), m.Dro ca, m.Vro va, BoxR br rb, UD ub bd room s ps, MOne rb (repR (m.raw ca cc va vc) 0), HP.tt, HP.tt] [3, 8, 4, 5, 6, 7, 9, 0, 1, 2] (by decide) rfl H2
      exact (sepN_app (l := [BoxU bu ub, UD ub bd room s ps, MOne bm (m.raw ca cc va vc), m.Dro ca, m.Vro va, BoxR br rb, MOne rb (repR (m.raw ca cc va vc) 0), (repS m).Dro none, (repS m).Vro none]) (m := [HP.one mp (mapObj iE (deedsAL bu bm br) 7)])).1 H3
    · obtain ⟨h1, h2, dj, l1, l2, ⟨rca, rcc, rva, rvc, rfl, HP1⟩, HM⟩ := H
      have H1 := (sepN_app (l := [BoxU bu ub, UD ub bd room s' ps', MOne bm (m.raw ca cc va vc), m.Dro ca, m.Vro va, BoxR br rb, MOne rb (r'.raw rca rcc rva rvc), r'.Dro rca, r'.Vro rva]) (m := [HP.one mp (mapObj iE (deedsAL bu bm br) 7)])).2 ⟨h1, h2, dj, l1, l2, HP1, HM⟩
      have H2 := HP.pick [BoxU bu ub, UD ub bd room s' ps', MOne bm (m.raw ca cc va vc), m.Dro ca, m.Vro va, BoxR br rb, MOne rb (r'.raw rca rcc rva rvc), r'.Dro rca, r'.Vro rva, HP.one mp (mapObj iE (deedsAL bu bm br) 7)] [1, 6, 7, 8, 9, 0, 2, 3, 4, 5] (by decide) rfl H1
      have H3 := (sepN_app (l := [UD ub bd room s' ps', MOne rb (r'.raw rca rcc rva rvc), r'.Dro rca, r'.Vro rva]) (m := [P0, HP.tt, HP.tt])).2 (HP.sep_mono ((sepN_app (l := [UD ub bd room s' ps', MOne rb (r'.raw rca rcc rva rvc), r'.Dro rca, r'.Vro rva]) (m := [HP.one mp (mapObj iE (deedsAL bu bm br) 7), BoxU bu ub, MOne bm (m.raw ca cc va vc), m.Dro ca, m.Vro va, BoxR br rb])).1 H2) (fun _ h => h) fun _ h => HP.sep_tt (HP.sep_comm (HP.tt_sep h) |> HP.sep_left) |> fun h => HP.sep_mono h (fun _ h => h) fun _ _ => HP.sep_tt trivial)
      refine ⟨e, UD ub bd room s' ps', r'.fr, r'.to, r'.num, r'.rep, r'.kind, r'.ep, r'.at', r'.cell.what, rca, r'.cell.data.length, rcc, r'.Dro rca, r'.br, r'.bw, rva, r'.val.length, rvc, r'.Vro rva, r'.err, r'.tail, r'.low, r'.back, rfl, ?_, H3⟩
      clear H1 H2 H3 HP1 HM dj l1 l2
      refine ⟨fun h0 => ⟨fun h10 => ?_, fun h10 => ?_⟩, fun h0 => ?_⟩
      · refine (uLow_ok ub bd _ s').weak (fun _ _ h => h) ?_
        rintro v R h ⟨rfl, H⟩
        refine ⟨_, rfl, ?_, H⟩
        refine (uEpoch_ok ub bd _ s').weak (fun _ _ h => h) ?_
        rintro v R h ⟨rfl, H⟩
        refine ⟨_, rfl, .of fun R h H => ⟨none, 0, none, 0, ?_, ?_⟩, H⟩
        · simp only [finS, if_neg h0, if_neg h10]; rfl
        · simp only [finS, if_neg h0, if_neg h10]
          exact HP.sep_mono H (fun _ h => h) fun y H => HP.sep_mono H (fun _ h => h) fun z H => HP.sep_assoc (RoC.joinR (RoC.nil 1 none R z) (RoC.joinR (RoC.nil 1 none R z) H))
      · refine (uLow_ok ub bd _ s').weak (fun _ _ h => h) ?_
        rintro v R h ⟨rfl, H⟩
        refine ⟨_, rfl, ?_, H⟩
        refine (uEpoch_ok ub bd _ s').weak (fun _ _ h => h) ?_
        rintro v R h ⟨rfl, H⟩
        refine ⟨_, rfl, .of fun R h H => ⟨rca, rcc, none, 0, ?_, ?_⟩, H⟩
        · simp only [finS, if_neg h0, if_pos h10]; rfl
        · simp only [finS, if_neg h0, if_pos h10]
          exact HP.sep_mono H (fun _ h => h) fun y H => HP.sep_mono H (fun _ h => h) fun z H => HP.sep_mono H (fun _ h => h) fun u H => RoC.joinR (RoC.nil 1 none R u) H
      · refine (uLow_ok ub bd _ s').weak (fun _ _ h => h) ?_
        rintro v R h ⟨rfl, H⟩
        refine ⟨_, rfl, ?_, H⟩
        refine (uEpoch_ok ub bd _ s').weak (fun _ _ h => h) ?_
        rintro v R h ⟨rfl, H⟩
        refine ⟨_, rfl, .of fun R h H => ⟨rca, rcc, rva, rvc, ?_, ?_⟩, H⟩
        · simp only [finS, if_pos h0]
        · simp only [finS, if_pos h0]; exact H
  · rw [deed_none bu bm br m hk] at hlook
    refine ⟨.nilFunc, false, hlook, fun hr => nothing (.inl hr), fun hr => ⟨fun _ => nothing (.inr hk), fun h => by cases h⟩⟩
end Go.Proofs.Ytmibmjehjagmbaa
