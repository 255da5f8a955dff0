/- Texts of this claim, joined. No condition. -/
import Derived.Test.YtbmajijnjkicmaaGreatDoorAEJ1
import Derived.Test.YtbmajijnjkicmaaGreatDoorAEJ3
import Derived.Test.YtbmajijnjkicmaaGreatDoorAEJ4
import Derived.Test.YtbmajijnjkicmaaGreatDoorAEJ5
import Derived.Laws.Cover1
import Derived.KernelRfl
set_option linter.unusedSimpArgs false
set_option linter.unusedVariables false

namespace Go.Proofs.YtbmajijnjkicmaaGreatDoor
set_option linter.unusedSimpArgs false
set_option linter.unusedVariables false
open Go.Proofs.YtbmajijnjkicmaaGreatDoor RX
set_option maxRecDepth 100000

section
variable {b : Nat} {g : AdvS} {r : ARw}
theorem aStRep {k : Nat} (hk : k < 7) {x : Bool} : OTri Tryz.prog (storeS 4 (.pointer (some ⟨b, 5 + k, none⟩)) (.bool x)) (ARepR b g r) (fun v => HP.and (v = .tuple #[]) (ARepR b { g with rep := put7 g.rep k x } r)) :=
  aStB (g := g) (r := r) (by omega) (advL_set_rep g r hk x) rfl rfl rfl rfl
theorem aStThere {k : Nat} (hk : k < 7) {x : Bool} : OTri Tryz.prog (storeS 4 (.pointer (some ⟨b, 12 + k, none⟩)) (.bool x)) (ARepR b g r) (fun v => HP.and (v = .tuple #[]) (ARepR b { g with there := put7 g.there k x } r)) :=
  aStB (g := g) (r := r) (by omega) (advL_set_there g r hk x) rfl rfl rfl rfl
theorem aStSt {x : Int} : OTri Tryz.prog (storeS 3 (.pointer (some ⟨b, 4, none⟩)) (.int .i64 x)) (ARepR b g r) (fun v => HP.and (v = .tuple #[]) (ARepR b { g with st := x } r)) :=
  aStI (g := g) (r := r) (k := 4) (by decide) rfl rfl rfl rfl rfl
theorem aStTail {x : Int} : OTri Tryz.prog (storeS 3 (.pointer (some ⟨b, 23, none⟩)) (.int .i64 x)) (ARepR b g r) (fun v => HP.and (v = .tuple #[]) (ARepR b { g with tail := x } r)) :=
  aStI (g := g) (r := r) (k := 23) (by decide) rfl rfl rfl rfl rfl
theorem aSealed_ok (m : MS) (ca : Option Addr) (cc : Nat) (va : Option Addr) (vc : Nat) (f : Nat) (hf : m.fr = f) (hf7 : f < 7) (hs : ASafe g) (hr : rightB g.old = true) (hu : g.units ≤ 10000) (D V0 : HP) :
    Tri Tryz.prog 34 #[.pointer (some ⟨b, 0, none⟩), .agg (m.raw ca cc va vc).vals] (HP.sep (ARepR b g r) (HP.sep D V0)) (fun v => HP.and (v = .tuple #[]) (ARep b (sealA g f m.err))) := by
  refine tri_of_tree (ρ := [.n b, .p (ARepR b g r), .i m.fr, .i m.to, .i m.num, .c m.rep, .i m.kind, .i m.ep, .i m.at', .i m.cell.what, .a ca, .n m.cell.data.length, .n cc, .p D, .i m.br, .i m.bw, .a va, .n m.val.length, .n vc, .p V0, .i m.err, .i m.tail, .i m.low, .i m.back]) mixed Tryz.func34 tree_aSealed ?_
  unfold t_aSealed
  simp only [T.den, E.prop, E.den, RX.look, F1.app, F2.app, Uni.int_i, Uni.nat_n, Uni.bool_c, Uni.str_s, Uni.adr_a, Uni.val_v, Uni.hp_p, hden, cden, V.den, W.den, A.den, BR.den, SA.den, FV.den, capV, exs, exP, allP, Cur.app, List.map_cons, List.map_nil, List.cons_append, List.nil_append, List.drop_succ_cons, List.drop_zero, List.length_cons, List.length_nil, Nat.zero_add, Nat.reduceAdd, Int.neg_neg, Bool.not_not, List.append_nil, Nat.add_zero, List.getElem?_cons_zero, List.getElem?_cons_succ, Decidable.not_not, semW_eq, semW_store, semW_storeC, ne_eq, Nat.reduceEqDiff, not_false_eq_true, semW_ixS]
  intro _
  refine ⟨.pointer (some ⟨b, 5 + f, none⟩), ixAt undA7 infBo szBo hf hf7, ?_⟩
  refine (aStRep hf7).weak (fun _ _ h => h) ?_
  rintro v R h ⟨rfl, H⟩
  refine ⟨ARepR b { g with rep := put7 g.rep f true } r, rfl, ⟨.pointer (some ⟨b, 12 + f, none⟩), ixAt undA7 infBo szBo hf hf7, ?_⟩, H⟩
  clear H
  refine (aStThere (g := { g with rep := put7 g.rep f true }) hf7).weak (fun _ _ h => h) ?_
  rintro v R h ⟨rfl, H⟩
  refine ⟨ARepR b { g with rep := put7 g.rep f true, there := put7 g.there f (decide (m.err = 0)) } r, rfl, ?_, H⟩
  clear H
  refine (aDone_ok (g := { g with rep := put7 g.rep f true, there := put7 g.there f (decide (m.err = 0)) }) ⟨hs.e0, hs.e1, hs.p2, hs.vl⟩).weak (fun _ _ h => h) ?_
  rintro v R h ⟨rfl, H⟩
  refine ⟨_, rfl, ⟨fun h1 => ?_, fun h1 => .of fun R h H => ⟨trivial, ?_⟩⟩, H⟩
  · clear H
    have h1' := of_decide_eq_true h1
    refine (aChoose_ok (g := { g with rep := put7 g.rep f true, there := put7 g.there f (decide (m.err = 0)) }) hr hu).weak (fun _ _ h => h) ?_
    rintro v R h ⟨rfl, H⟩
    refine ⟨_, rfl, .of fun R h H => ⟨trivial, ?_⟩, H⟩
    unfold sealA
    rw [if_pos h1']
    exact HP.sep_left H
  · have h1' : ¬ asksL { g with rep := put7 g.rep f true, there := put7 g.there f (decide (m.err = 0)) } = [] := fun e => h1 (decide_eq_true e)
    unfold sealA
    rw [if_neg h1']
    exact ⟨r, HP.sep_left H⟩
def tellA (g : AdvS) (m : MS) (f : Nat) : AdvS :=
  if m.err = 0 then (if asksL { g with tail := max (max g.tail m.tail) m.low, rep := put7 g.rep f true } = [] then { g with tail := max (max g.tail m.tail) m.low, rep := put7 g.rep f true, st := 4 } else { g with tail := max (max g.tail m.tail) m.low, rep := put7 g.rep f true })
  else if m.err ≠ 8 ∨ m.back ≤ g.old.ep + 1 then { g with st := 6 }
  else (if asksL { g with rep := put7 g.rep f true } = [] then { g with rep := put7 g.rep f true, st := 4 } else { g with rep := put7 g.rep f true })
def mx3S (ty : TypeId) (ts : Array TypeId) (u v x : Value) : Sem Next := do pure (.value (← Builtin.max_ ts ty #[u, v, x]))
theorem semW_mx3 {ty : TypeId} {ts : Array TypeId} {i j k : Nat} {u v x : Value} (h1 : i ≠ j) (h2 : i ≠ k) (h3 : j ≠ k) : semW (.call ⟨.builtin .max, #[.tmp i, .tmp j, .tmp k], ts⟩) ty [(i, u), (j, v), (k, x)] = mx3S ty ts u v x := by
  have e1 : (i == j) = false := by simpa using h1
  have e2 : (i == k) = false := by simpa using h2
  have e3 : (j == k) = false := by simpa using h3
  simp [semW, execOp, resolve, arW, invoke, builtin, e1, e2, e3, mx3S]
theorem mx3_ok {ty : TypeId} {ts : Array TypeId} {x y z : Int} {A : HP} : ORead Tryz.prog (mx3S ty ts (.int .i64 x) (.int .i64 y) (.int .i64 z)) A (.int .i64 (max (max x y) z)) := fun w R h F s _ => by
  have e : (if z > (if y > x then y else x) then z else (if y > x then y else x)) = max (max x y) z := by
    split <;> split at * <;> omega
  unfold mx3S
  rw [Sem.run_bind, run_max_int3, e]; rfl
set_option maxHeartbeats 1000000 in
theorem aTell_ok (m : MS) (ca : Option Addr) (cc : Nat) (va : Option Addr) (vc : Nat) (f : Nat) (hf : m.fr = f) (hf7 : f < 7) (hs : ASafe g) (D V0 : HP) :
    Tri Tryz.prog 36 #[.pointer (some ⟨b, 0, none⟩), .agg (m.raw ca cc va vc).vals] (HP.sep (ARepR b g r) (HP.sep D V0)) (fun v => HP.and (v = .tuple #[]) (ARep b (tellA g m f))) := by
  refine tri_of_tree (ρ := [.n b, .p (ARepR b g r), .i m.fr, .i m.to, .i m.num, .c m.rep, .i m.kind, .i m.ep, .i m.at', .i m.cell.what, .a ca, .n m.cell.data.length, .n cc, .p D, .i m.br, .i m.bw, .a va, .n m.val.length, .n vc, .p V0, .i m.err, .i m.tail, .i m.low, .i m.back]) mixed Tryz.func36 tree_aTell ?_
  unfold t_aTell
  simp only [T.den, E.prop, E.den, RX.look, F1.app, F2.app, Uni.int_i, Uni.nat_n, Uni.bool_c, Uni.str_s, Uni.adr_a, Uni.val_v, Uni.hp_p, hden, cden, V.den, W.den, A.den, BR.den, SA.den, FV.den, capV, exs, exP, allP, Cur.app, List.map_cons, List.map_nil, List.cons_append, List.nil_append, List.drop_succ_cons, List.drop_zero, List.length_cons, List.length_nil, Nat.zero_add, Nat.reduceAdd, Int.neg_neg, Bool.not_not, List.append_nil, Nat.add_zero, List.getElem?_cons_zero, List.getElem?_cons_succ, Decidable.not_not, semW_eq, semW_load, semW_store, semW_storeC, ne_eq, Nat.reduceEqDiff, not_false_eq_true, semW_ixS, semW_mx3]
  intro _
  refine ⟨fun h0 => ⟨g.tail, aLdI rfl, max (max g.tail m.tail) m.low, mx3_ok, ?_⟩, fun h0 => ?_⟩
  · refine (aStTail (b := b) (g := g) (r := r)).weak (fun _ _ h => h) ?_
    rintro v R h ⟨rfl, H⟩
    refine ⟨ARepR b { g with tail := max (max g.tail m.tail) m.low } r, rfl, ⟨.pointer (some ⟨b, 5 + f, none⟩), ixAt undA7 infBo szBo hf hf7, ?_⟩, H⟩
    clear H
    refine (aStRep (g := { g with tail := max (max g.tail m.tail) m.low }) hf7).weak (fun _ _ h => h) ?_
    rintro v R h ⟨rfl, H⟩
    refine ⟨ARepR b { g with tail := max (max g.tail m.tail) m.low, rep := put7 g.rep f true } r, rfl, ?_, H⟩
    clear H
    refine (aDone_ok (g := { g with tail := max (max g.tail m.tail) m.low, rep := put7 g.rep f true }) ⟨hs.e0, hs.e1, hs.p2, hs.vl⟩).weak (fun _ _ h => h) ?_
    rintro v R h ⟨rfl, H⟩
    refine ⟨_, rfl, ⟨fun h1 => ?_, fun h1 => .of fun R h H => ⟨trivial, ?_⟩⟩, H⟩
    · clear H
      refine (aStSt (b := b) (g := { g with tail := max (max g.tail m.tail) m.low, rep := put7 g.rep f true }) (r := r)).weak (fun _ _ h => h) ?_
      rintro v R h ⟨rfl, H⟩
      refine ⟨_, rfl, .of fun R h H => ⟨trivial, r, ?_⟩, H⟩
      unfold tellA
      rw [if_pos h0, if_pos (of_decide_eq_true h1)]
      exact HP.sep_left H
    · unfold tellA
      rw [if_pos h0, if_neg (fun e => h1 (decide_eq_true e))]
      exact ⟨r, HP.sep_left H⟩
  · have rest : ¬ (m.err ≠ 8 ∨ m.back ≤ g.old.ep + 1) → tellA g m f = (if asksL { g with rep := put7 g.rep f true } = [] then { g with rep := put7 g.rep f true, st := 4 } else { g with rep := put7 g.rep f true }) := fun h => by unfold tellA; rw [if_neg h0, if_neg h]
    refine ⟨fun c => c = decide (m.err ≠ 8 ∨ m.back ≤ g.old.ep + 1), ⟨fun h8 => ?_, fun h8 => ?_⟩, ?_⟩
    · exact (decide_eq_true (.inl h8)).symm
    · refine (aEpoch_ok hs.e0 hs.e1).weak (fun _ _ h => h) ?_
      rintro v R h ⟨rfl, H⟩
      refine ⟨_, rfl, ?_, H⟩
      show decide (m.back ≤ g.old.ep + 1) = _
      have : m.err = 8 := h8
      by_cases hb : m.back ≤ g.old.ep + 1
      · rw [decide_eq_true hb, decide_eq_true (.inr hb)]
      · rw [decide_eq_false hb, decide_eq_false (fun h => h.elim (fun h => h this) hb)]
    · rintro _ rfl
      refine ⟨fun h1 => ?_, fun h1 => ?_⟩
      · refine (aStSt (b := b) (g := g) (r := r)).weak (fun _ _ h => h) ?_
        rintro v R h ⟨rfl, H⟩
        refine ⟨_, rfl, .of fun R h H => ⟨trivial, r, ?_⟩, H⟩
        unfold tellA
        rw [if_neg h0, if_pos (of_decide_eq_true h1)]
        exact HP.sep_left H
      · have hrest := rest (fun h => h1 (decide_eq_true h))
        refine ⟨.pointer (some ⟨b, 5 + f, none⟩), ixAt undA7 infBo szBo hf hf7, ?_⟩
        refine (aStRep (g := g) hf7).weak (fun _ _ h => h) ?_
        rintro v R h ⟨rfl, H⟩
        refine ⟨ARepR b { g with rep := put7 g.rep f true } r, rfl, ?_, H⟩
        clear H
        refine (aDone_ok (g := { g with rep := put7 g.rep f true }) ⟨hs.e0, hs.e1, hs.p2, hs.vl⟩).weak (fun _ _ h => h) ?_
        rintro v R h ⟨rfl, H⟩
        refine ⟨_, rfl, ⟨fun h1 => ?_, fun h1 => .of fun R h H => ⟨trivial, ?_⟩⟩, H⟩
        · clear H
          refine (aStSt (b := b) (g := { g with rep := put7 g.rep f true }) (r := r)).weak (fun _ _ h => h) ?_
          rintro v R h ⟨rfl, H⟩
          refine ⟨_, rfl, .of fun R h H => ⟨trivial, r, ?_⟩, H⟩
          rw [hrest, if_pos (of_decide_eq_true h1)]
          exact HP.sep_left H
        · rw [hrest, if_neg (fun e => h1 (decide_eq_true e))]
          exact ⟨r, HP.sep_left H⟩
end
end Go.Proofs.YtbmajijnjkicmaaGreatDoor



namespace Go.Proofs.YtbmajijnjkicmaaGreatDoor
set_option linter.unusedSimpArgs false
set_option linter.unusedVariables false
open Go.Proofs.YtbmajijnjkicmaaGreatDoor RX
set_option maxRecDepth 100000

theorem aAbove_ok (rnd w who : Int) (hr : rnd + 1 ≤ 9223372036854775807 ∧ 0 ≤ rnd) : Tri Tryz.prog 66 #[.agg #[.int .i64 rnd, .int .i64 w], .int .i64 who] HP.tt (fun v => HP.pure (v = .agg #[.int .i64 (rnd + 1), .int .i64 who])) := by
  refine tri_of_tree (ρ := [.i rnd, .i w, .i who]) mixed Tryz.func66 tree_aAbove ?_
  unfold t_aAbove
  simp only [T.den, E.prop, E.den, RX.look, F1.app, F2.app, Uni.int_i, Uni.nat_n, Uni.bool_c, Uni.str_s, Uni.adr_a, Uni.val_v, Uni.hp_p, hden, cden, V.den, W.den, A.den, BR.den, SA.den, FV.den, capV, exs, exP, allP, Cur.app, List.map_cons, List.map_nil, List.cons_append, List.nil_append, List.drop_succ_cons, List.drop_zero, List.length_cons, List.length_nil, Nat.zero_add, Nat.reduceAdd, Int.neg_neg, Bool.not_not, List.append_nil, Nat.add_zero, List.getElem?_cons_zero, List.getElem?_cons_succ, Decidable.not_not, semW_eq, ne_eq, Nat.reduceEqDiff, not_false_eq_true]
  exact fun _ _ => ⟨inI64 _ (by omega) (by omega), fun _ => .of fun R h H => trivial⟩
theorem cloneRc_ok (S : HP) (a : Option Addr) (n c : Nat) (l : List UInt8) (hr : RdL S a n (l.map u8v)) (hl : l.length = n) (hb : n ≤ 140737488355328) :
    Tri Tryz.prog 74 #[.slice a n c] S (fun v => HP.ex fun a' => HP.ex fun c' => HP.and (v = .slice a' n c' ∧ n ≤ c') (HP.sep (RoB a' n l) S)) :=
  (clone8_ok S a n c l hr hl hb).post fun v => fun R h d ⟨a', c', e, H⟩ => by
    have hle := OwC.le (HP.sep_left H)
    obtain ⟨R1, h1, q1, q2, q3, q4, H1⟩ := (HP.ent.sep (OwC.share _ _ _ _ _ _) S) R h d H
    exact ⟨R1, h1, q1, q2, q3, q4, a', c', ⟨e, hle⟩, H1⟩
theorem bValueC_ok (b : Nat) (g : BSt) : Tri Tryz.prog 69 #[.pointer (some ⟨b, 0, none⟩)] (BRep b g) (fun v => HP.ex fun a => HP.ex fun c => HP.and (v = .slice a g.val.length c ∧ g.val.length ≤ c) (HP.sep (RoB a g.val.length g.val) (BRep b g))) := by
  refine (BRep.tri (K := HP.tt) fun va vc mp hB => ?_).weak (fun R h H => HP.sep_tt H) fun _ _ _ h => h
  refine tri_of_tree (ρ := [.n b, .i g.acc, .i g.rnd, .i g.who, .a va, .n g.val.length, .n vc, .p (RoB va g.val.length g.val), .i g.phase, .n mp, .p (HP.sep (MapA mp g.ans) HP.tt), .i g.agreed]) mixed Tryz.func69 tree_bValue ?_
  unfold t_bValue
  simp only [T.den, E.prop, E.den, RX.look, F1.app, F2.app, Uni.int_i, Uni.nat_n, Uni.bool_c, Uni.str_s, Uni.adr_a, Uni.val_v, Uni.hp_p, hden, cden, V.den, W.den, A.den, BR.den, SA.den, FV.den, capV, exs, exP, allP, Cur.app, List.map_cons, List.map_nil, List.cons_append, List.nil_append, List.drop_succ_cons, List.drop_zero, List.length_cons, List.length_nil, Nat.zero_add, Nat.reduceAdd, Int.neg_neg, Bool.not_not, List.append_nil, Nat.add_zero, List.getElem?_cons_zero, List.getElem?_cons_succ, Decidable.not_not, semW_eq, ne_eq, Nat.reduceEqDiff, not_false_eq_true]
  refine (cloneRc_ok (RoB va g.val.length g.val) va g.val.length vc g.val (RdL.ro _ _ _ _) rfl hB.2.2.2.2).weak (fun _ _ h => h) ?_
  rintro v R h ⟨a, c, ⟨rfl, hc⟩, H⟩
  refine ⟨a, _, c, RoB a g.val.length g.val, rfl, .of fun R h H => ⟨a, c, ⟨rfl, hc⟩, ?_⟩, H⟩
  have H2 := HP.pick [_, _, _, _] [3, 0, 1, 2] (by decide) rfl H
  exact HP.sep_mono H2 (fun _ h => h) fun y hy => ⟨va, vc, mp, hB, HP.sep_mono hy (fun _ h => h) fun z hz => HP.sep_mono hz (fun _ h => h) fun w hw => HP.sep_left hw⟩
theorem decP_right {l : List UInt8} (h : (decP l).2 = 0) : rightB (decP l).1 = true := by
  unfold decP at h ⊢
  split at h
  · exact absurd h (by decide)
  · rename_i i hu
    split at h
    · exact absurd h (by decide)
    · rename_i hn
      rw [if_neg hn]
      cases hq : rightB (rawP i).1 with
      | true => rfl
      | false => exact absurd (.inr (.inr hq)) hn
def outA (g : AdvS) (s' : BSt) : AdvS :=
  if s'.phase = 4 then { g with prop := some (startB g.units (s'.rnd + 1) g.who g.own) }
  else if s'.phase = 3 then (if (decP s'.val).2 ≠ 0 ∨ (decP s'.val).1.ep ≠ g.old.ep + 1 then { g with prop := some s', st := 6 } else { g with prop := some s', plan := (decP s'.val).1, st := 3, rep := fun _ => false })
  else { g with prop := some s' }
def stepB (s : BSt) (m : MS) (s' : BSt) : Prop := if m.kind = 6 then PromB s m.fr m.br m.bw m.val m.err s' else s' = accB s m.fr m.err
structure BSafe (s : BSt) : Prop where
  few : s.ans.length ≤ 100000
  av : ∀ x ∈ s.ans, x.2.val.length ≤ 100000000
  val : s.val.length ≤ 100000000
  rnd : 0 ≤ s.rnd ∧ s.rnd ≤ 1000000000
theorem takeB_ans (s : BSt) (f : Int) (x : BA) : (takeB s f x).1.ans = s.ans ++ [(f, x)] ∧ (takeB s f x).1.rnd = s.rnd := by
  unfold takeB
  split
  · exact ⟨rfl, rfl⟩
  · split <;> exact ⟨rfl, rfl⟩
theorem ChoseB.le' {L : List (Int × BA)} {v0 v : List UInt8} {B : Nat} (h : ChoseB (ansF L 0) v0 v) (h0 : v0.length ≤ B) (hL : ∀ x ∈ L, x.2.val.length ≤ B) : v.length ≤ B := by
  have aux : ∀ (L : List (Int × BA)) (i k : Int) (x : AnB), ansF L i k = some x → ∃ y ∈ L, y.2.val = x.val := fun L => by
    induction L with
    | nil => intro i k x h; cases h
    | cons y L ih =>
      intro i k x h
      simp only [ansF] at h
      split at h
      · cases h; exact ⟨y, by simp, rfl⟩
      · obtain ⟨z, hz, e⟩ := ih (i + 1) k x h; exact ⟨z, List.mem_cons_of_mem _ hz, e⟩
  rcases h with ⟨_, rfl⟩ | ⟨k, x, hx, _, rfl, _⟩
  · exact h0
  · obtain ⟨y, hy, e⟩ := aux L 0 k x hx
    rw [← e]; exact hL y hy
theorem BSafe.step {s s' : BSt} {m : MS} (h : BSafe s) (hm : m.val.length ≤ 100000000) (hf : s.ans.length ≤ 99999) (hp : stepB s m s') : BSafe s' := by
  have tk : ∀ (x : BA), x.val.length ≤ 100000000 → BSafe (takeB s m.fr x).1 := fun x hx => by
    obtain ⟨e1, e2⟩ := takeB_ans s m.fr x
    refine ⟨by rw [e1]; simp; omega, fun y hy => ?_, by rw [takeB_val]; exact h.val, by rw [e2]; exact h.rnd⟩
    rw [e1] at hy
    rcases List.mem_append.1 hy with hy | hy
    · exact h.av y hy
    · obtain rfl := List.mem_singleton.1 hy; exact hx
  unfold stepB at hp
  split at hp
  · unfold PromB at hp
    split at hp
    · have hx : (promA m.br m.bw m.val m.err).val.length ≤ 100000000 := by unfold promA; split <;> simp [hm]
      have ht := tk _ hx
      split at hp
      · obtain ⟨val, hch, rfl⟩ := hp
        refine ⟨by simp, (fun x hx => by cases hx), hch.le' h.val ht.av, ht.rnd⟩
      · subst hp; exact ht
    · subst hp; exact h
  · subst hp
    unfold accB
    split
    · have ht := tk ⟨decide (m.err = 0), 0, 0, []⟩ (by simp)
      split
      · exact ⟨ht.few, ht.av, ht.val, ht.rnd⟩
      · exact ht
    · exact h
section
variable {b : Nat} {g : AdvS} {r : ARw}
theorem aValueC_ok {s : BSt} (hp : g.prop = some s) : Tri Tryz.prog 69 #[oneC (.pointer r.pv)] (ARepR b g r) (fun v => HP.ex fun a => HP.ex fun c => HP.and (v = .slice a s.val.length c ∧ s.val.length ≤ c) (HP.sep (RoB a s.val.length s.val) (ARepR b g r))) :=
  (prop_tri (args := fun p => #[p]) (B := fun v => HP.ex fun a => HP.ex fun c => HP.and (v = .slice a s.val.length c ∧ s.val.length ≤ c) (RoB a s.val.length s.val)) (K := HP.tt) hp fun pb => (bValueC_ok pb s).weak (fun R h H => HP.sep_left H) fun v R h ⟨a, c, e, H⟩ => HP.sep_mono H (fun _ h => ⟨a, c, e, h⟩) fun _ h => h).weak (fun R h H => HP.sep_tt H) fun v R h ⟨h1, h2, d, l1, l2, ⟨a, c, e, H1⟩, H2⟩ => ⟨a, c, e, h1, h2, d, l1, l2, H1, H2⟩
theorem prop_chg {f : FuncId} {args : Value → Array Value} {s : BSt} {φ : Value → BSt → Prop} {K : HP} (hp : g.prop = some s) (t : ∀ pb, Tri Tryz.prog f (args (.pointer (some ⟨pb, 0, none⟩))) (HP.sep (BRep pb s) K) (fun v => HP.ex fun s' => HP.and (φ v s') (BRep pb s'))) :
    Tri Tryz.prog f (args (oneC (.pointer r.pv))) (HP.sep (ARepR b g r) K) (fun v => HP.ex fun s' => HP.and (φ v s') (ARepR b { g with prop := some s' } r)) := by
  refine (Tri.ex (A := fun pb => HP.and (r.pv = some ⟨pb, 0, none⟩ ∧ ROk g r) (HP.sep (HP.sep (BRep pb s) K) (HP.sep (AOne b g r) (ARo g r)))) fun pb => Tri.pure fun ⟨e, hok⟩ => ?_).weak (fun R h H => ?_) fun _ _ _ h => h
  · rw [e]
    refine ((t pb).frame (HP.sep (AOne b g r) (ARo g r))).weak (fun _ _ h => h) fun v R h ⟨h1, h2, d, l1, l2, ⟨s', hf, H1⟩, H2⟩ => ⟨s', hf, ⟨hok.o, hok.p, hok.ob, hok.pb, hok.wb⟩, ?_⟩
    have H3 : (HP.sep (BRep pb s') (HP.sep (AOne b g r) (ARo g r))).p R h := ⟨h1, h2, d, l1, l2, H1, H2⟩
    refine HP.sep_mono (HP.pick [BRep pb s', AOne b g r, ARo g r] [1, 0, 2] (by decide) rfl H3) (fun _ h => h) fun z hz => HP.sep_mono hz (fun w hw => ?_) fun _ h => h
    rw [e]
    exact ⟨pb, rfl, hw⟩
  · obtain ⟨h1, h2, d, l1, l2, ⟨hok, H⟩, HK⟩ := H
    rw [hp] at H
    obtain ⟨h3, h4, d2, l3, l4, HO, h5, h6, d3, l5, l6, ⟨pb, e, HB⟩, HR⟩ := H
    refine ⟨pb, ⟨e, hok⟩, ?_⟩
    have H9 : (HP.sep (HP.sep (AOne b g r) (HP.sep (BRep pb s) (ARo g r))) K).p R h := ⟨h1, h2, d, l1, l2, ⟨h3, h4, d2, l3, l4, HO, h5, h6, d3, l5, l6, HB, HR⟩, HK⟩
    have H10 := HP.sep_mono (HP.sep_assoc H9) (fun _ h => h) fun y hy => HP.sep_assoc hy
    exact HP.sep_assoc' (HP.pick [AOne b g r, BRep pb s, ARo g r, K] [1, 3, 0, 2] (by decide) rfl H10)
theorem aStPl {p : PlP} {a : Option Addr} {c : Nat} {es : List ChE} (hr : rightB p = true) (he : es.map (·.l) = p.ch) : OTri Tryz.prog (storeS 25 (.pointer (some ⟨b, 21, none⟩)) (.agg #[.int .i64 p.ep, .slice a es.length c])) (HP.sep (ARepR b g r) (Ls kCh a es.length es))
    (fun v => HP.and (v = .tuple #[]) (HP.sep (ARepR b { g with plan := p } { r with pa := a, pc := c, pes := es }) (Ls kCh a es.length es))) := by
  refine OTri.fact (φ := ROk g r) (fun R h H => (HP.sep_left H).1) fun hok => ?_
  obtain ⟨i, hi, hz⟩ := Option.map_eq_some_iff.1 (show (Tryz.prog.info? 25).map (fun i => i.size) = some 2 by kernel_rfl)
  have hR := rightP hr
  refine (stBN (e := 76) (b := b) (k := 21) (cs := (advL g r).toArray) (cs' := (advL { g with plan := p } { r with pa := a, pc := c, pes := es }).toArray) (vs := [.int .i64 p.ep, .slice a es.length c]) hi rfl hz (by simp) (fun v hv => by
    rcases List.mem_cons.1 hv with h | h
    · subst h; rfl
    · obtain rfl := List.mem_singleton.1 h; rfl) (by simp [advL_len]) rfl (HP.sep (HP.sep (PropR r.pv g.prop) (ARo g r)) (Ls kCh a es.length es))).weak (fun R h H => HP.sep_assoc (HP.sep_mono H (fun _ h => h.2) fun _ h => h)) ?_
  rintro v R h ⟨e, H⟩
  refine ⟨e, ?_⟩
  have hl : (Ls kCh a es.length es).p R h := HP.sep_right (HP.sep_right H)
  have hro : (ARo g r).p R h := HP.sep_right (HP.sep_left (HP.sep_right H))
  refine HP.sep_comm ⟨PH.none', h, PH.none_dj _, PH.none_le _, PH.le.refl _, Ls.pers _ hl, ⟨hok.o, he, hok.ob, ⟨?_, fun x hx => ?_⟩, hok.wb⟩, HP.sep_mono H (fun _ h => h) fun y hy => HP.sep_mono (HP.sep_left hy) (fun _ h => h) fun z _ => ⟨Ls.pers z hro.1, hro.2.1, Ls.pers z hl⟩⟩
  · have := hR.len7
    rw [← he, List.length_map] at this; show es.length ≤ 1000; omega
  · have := (hR.chain (show x.l ∈ p.ch by rw [← he]; exact List.mem_map.2 ⟨x, hx, rfl⟩)).2.2
    omega
theorem aSt7 : OTri Tryz.prog (storeS 73 (.pointer (some ⟨b, 5, none⟩)) (.agg #[.bool false, .bool false, .bool false, .bool false, .bool false, .bool false, .bool false])) (ARepR b g r)
    (fun v => HP.and (v = .tuple #[]) (ARepR b { g with rep := fun _ => false } r)) := by
  refine OTri.fact (φ := ROk g r) (fun R h H => H.1) fun hok => ?_
  obtain ⟨i, hi, hz⟩ := Option.map_eq_some_iff.1 (show (Tryz.prog.info? 73).map (fun i => i.size) = some 7 by kernel_rfl)
  refine (stBN (e := 76) (b := b) (k := 5) (cs := (advL g r).toArray) (cs' := (advL { g with rep := fun _ => false } r).toArray) (vs := bl7 fun _ => false) hi rfl (by rw [hz, bl7_len]) (by rw [bl7_len]; decide) (fun v hv => by
    obtain ⟨_, _, rfl⟩ := List.mem_map.1 hv; rfl) (by rw [bl7_len]; simp [advL_len]) rfl (HP.sep (PropR r.pv g.prop) (ARo g r))).weak (fun R h H => H.2) ?_
  rintro v R h ⟨e, H⟩
  exact ⟨e, ⟨hok.o, hok.p, hok.ob, hok.pb, hok.wb⟩, H⟩
set_option maxHeartbeats 4000000 in
theorem aChose_ok (m : MS) (ca : Option Addr) (cc : Nat) (va : Option Addr) (vc : Nat) (s : BSt) (hp : g.prop = some s) (hs : ASafe g) (hB : BSafe s) (hf : s.ans.length ≤ 99999) (hmv : m.val.length ≤ 100000000) (hu : g.units ≤ 10000) (hown : g.own.length ≤ 1000000) (D : HP) :
    Tri Tryz.prog 35 #[.pointer (some ⟨b, 0, none⟩), .agg (m.raw ca cc va vc).vals] (HP.sep (ARepR b g r) (HP.sep D (m.Vro va))) (fun v => HP.ex fun s' => HP.and (v = .tuple #[] ∧ stepB s m s') (ARep b (outA g s'))) := by
  refine tri_of_tree (ρ := [.n b, .p (ARepR b g r), .i m.fr, .i m.to, .i m.num, .c m.rep, .i m.kind, .i m.ep, .i m.at', .i m.cell.what, .a ca, .n m.cell.data.length, .n cc, .p D, .i m.br, .i m.bw, .a va, .n m.val.length, .n vc, .p (m.Vro va), .i m.err, .i m.tail, .i m.low, .i m.back]) mixed Tryz.func35 tree_aChose ?_
  unfold t_aChose
  simp only [T.den, E.prop, E.den, RX.look, F1.app, F2.app, Uni.int_i, Uni.nat_n, Uni.bool_c, Uni.str_s, Uni.adr_a, Uni.val_v, Uni.hp_p, hden, cden, V.den, W.den, A.den, BR.den, SA.den, FV.den, capV, exs, exP, allP, Cur.app, List.map_cons, List.map_nil, List.cons_append, List.nil_append, List.drop_succ_cons, List.drop_zero, List.length_cons, List.length_nil, Nat.zero_add, Nat.reduceAdd, Int.neg_neg, Bool.not_not, List.append_nil, Nat.add_zero, List.getElem?_cons_zero, List.getElem?_cons_succ, Decidable.not_not, semW_eq, semW_load, semW_store, semW_storeC, ne_eq, Nat.reduceEqDiff, not_false_eq_true]
  intro _
  refine ⟨fun h6 => ⟨.pointer r.pv, aLdP, ?_⟩, fun h6 => ⟨.pointer r.pv, aLdP, ?_⟩⟩
  · refine (prop_chg (args := fun p => #[p, .int .i64 m.fr, .agg #[.int .i64 m.br, .int .i64 m.bw], .slice va m.val.length vc, .int .i64 m.err]) (φ := fun v s' => v = .tuple #[] ∧ PromB s m.fr m.br m.bw m.val m.err s') (K := m.Vro va) hp fun pb => bPromised_ok pb s m.fr m.br m.bw m.err va vc m.val (by omega) (fun x hx => by have := hB.av x hx; omega) (by omega)).weak (fun _ _ h => h) ?_
    rintro v R h ⟨s', ⟨rfl, hP⟩, H⟩
    have hs' : stepB s m s' := by unfold stepB; rw [if_pos h6]; exact hP
    have hb' := hB.step hmv hf hs'
    refine ⟨ARepR b { g with prop := some s' } r, HP.tt, rfl, ?_, HP.sep_tt H⟩
    clear H
    refine ⟨.pointer r.pv, aLdP, ?_⟩
    refine (aPhase_ok (g := { g with prop := some s' }) rfl).weak (fun _ _ h => h) ?_
    rintro v R h ⟨rfl, H⟩
    refine ⟨_, rfl, ⟨fun h4 => ?_, fun h4 => ⟨fun h3 => ?_, fun h3 => .of fun R h H => ⟨s', ⟨trivial, hs'⟩, ?_⟩⟩⟩, H⟩
    · clear H
      refine ⟨g.units, aLdI rfl, .pointer r.pv, aLdP, g.who, aLdI rfl, r.wa, g.own.length, r.wc, aLdW, ?_⟩
      refine (aBallot_ok (g := { g with prop := some s' }) rfl).weak (fun _ _ h => h) ?_
      rintro v R h ⟨rfl, H⟩
      refine ⟨_, _, rfl, ?_, H⟩
      clear H
      refine (aAbove_ok s'.rnd s'.who g.who (by have := hb'.rnd; omega)).weak (fun _ _ _ => trivial) ?_
      rintro v R h rfl
      refine ⟨_, _, rfl, ?_, trivial⟩
      refine (bStart_ok g.units (s'.rnd + 1) g.who hu (ARepR b { g with prop := some s' } r) r.wa g.own.length r.wc g.own ⟨Rd.impR (RoC.rd _ _ _ _) fun R h H => (ARepR.ro H).2.1, fun R h H e => (RdL.ro _ _ _ _).none R h (ARepR.ro H).2.1 e⟩ rfl (by omega)).weak (fun _ _ h => h) ?_
      rintro v R h ⟨pb, rfl, H⟩
      refine ⟨.pointer (some ⟨pb, 0, none⟩), BRep pb (startB g.units (s'.rnd + 1) g.who g.own), _, rfl, ?_, HP.sep_comm H⟩
      clear H
      refine (aStP (b := b) (g := { g with prop := some s' }) (r := r)).weak (fun _ _ h => h) ?_
      rintro v R h ⟨rfl, H⟩
      refine ⟨_, rfl, .of fun R h H => ⟨s', ⟨trivial, hs'⟩, { r with pv := some ⟨pb, 0, none⟩ }, ?_⟩, H⟩
      unfold outA
      rw [if_pos h4]
      exact HP.sep_left H
    · clear H
      have hout : outA g s' = if (decP s'.val).2 ≠ 0 ∨ (decP s'.val).1.ep ≠ g.old.ep + 1 then { g with prop := some s', st := 6 } else { g with prop := some s', plan := (decP s'.val).1, st := 3, rep := fun _ => false } := by
        unfold outA; rw [if_neg h4, if_pos h3]
      refine ⟨.pointer r.pv, aLdP, ?_⟩
      refine (aValueC_ok (g := { g with prop := some s' }) rfl).weak (fun _ _ h => h) ?_
      rintro v R h ⟨a1, c1, ⟨rfl, hc1⟩, H⟩
      refine ⟨a1, _, c1, RoB a1 s'.val.length s'.val, rfl, ?_, H⟩
      clear H
      refine (plDec_ok a1 s'.val.length c1 s'.val (RoB a1 s'.val.length s'.val) (RdL.ro _ _ _ _) rfl hc1 hb'.val).weak (fun _ _ h => h) ?_
      rintro v R h ⟨a2, c2, es, ⟨rfl, hes⟩, H⟩
      refine ⟨(decP s'.val).1.ep, a2, es.length, c2, Ls kCh a2 es.length es, (decP s'.val).2, _, rfl, fun _ => ?_, H⟩
      clear H
      refine ⟨fun c => c = decide ((decP s'.val).2 ≠ 0 ∨ (decP s'.val).1.ep ≠ g.old.ep + 1), ⟨fun h5 => ?_, fun h5 => ?_⟩, ?_⟩
      · exact (decide_eq_true (.inl h5)).symm
      · refine (aEpoch_ok (g := { g with prop := some s' }) hs.e0 hs.e1).weak (fun _ _ h => h) ?_
        rintro v R h ⟨rfl, H⟩
        refine ⟨_, rfl, ?_, H⟩
        show (!decide ((decP s'.val).1.ep = g.old.ep + 1)) = _
        have h5' : (decP s'.val).2 = 0 := h5
        by_cases hb : (decP s'.val).1.ep = g.old.ep + 1
        · rw [decide_eq_true hb, decide_eq_false (fun h => h.elim (fun h => h h5') (fun h => h hb))]; rfl
        · rw [decide_eq_false hb, decide_eq_true (.inr hb)]; rfl
      · rintro _ rfl
        refine ⟨fun h6 => ?_, fun h6 => ?_⟩
        · refine (aStSt (b := b) (g := { g with prop := some s' }) (r := r)).weak (fun _ _ h => h) ?_
          rintro v R h ⟨rfl, H⟩
          refine ⟨_, rfl, .of fun R h H => ⟨s', ⟨trivial, hs'⟩, r, ?_⟩, H⟩
          rw [hout, if_pos (of_decide_eq_true h6)]
          exact HP.sep_left H
        · have h6' : ¬ ((decP s'.val).2 ≠ 0 ∨ (decP s'.val).1.ep ≠ g.old.ep + 1) := fun h => h6 (decide_eq_true h)
          have h0' : (decP s'.val).2 = 0 := Classical.byContradiction fun h => h6' (.inl h)
          refine (aStPl (b := b) (g := { g with prop := some s' }) (r := r) (p := (decP s'.val).1) (a := a2) (c := c2) (es := es) (decP_right h0') hes).weak (fun _ _ h => h) ?_
          rintro v R h ⟨rfl, H⟩
          refine ⟨ARepR b { g with prop := some s', plan := (decP s'.val).1 } { r with pa := a2, pc := c2, pes := es }, rfl, ?_, H⟩
          clear H
          refine (aStSt (b := b) (g := { g with prop := some s', plan := (decP s'.val).1 }) (r := { r with pa := a2, pc := c2, pes := es })).weak (fun _ _ h => h) ?_
          rintro v R h ⟨rfl, H⟩
          refine ⟨ARepR b { g with prop := some s', plan := (decP s'.val).1, st := 3 } { r with pa := a2, pc := c2, pes := es }, rfl, ?_, H⟩
          clear H
          refine (aSt7 (b := b) (g := { g with prop := some s', plan := (decP s'.val).1, st := 3 }) (r := { r with pa := a2, pc := c2, pes := es })).weak (fun _ _ h => h) ?_
          rintro v R h ⟨rfl, H⟩
          refine ⟨_, rfl, .of fun R h H => ⟨s', ⟨trivial, hs'⟩, { r with pa := a2, pc := c2, pes := es }, ?_⟩, H⟩
          rw [hout, if_neg h6']
          exact HP.sep_left H
    · unfold outA
      rw [if_neg h4, if_neg h3]
      exact ⟨r, HP.sep_left H⟩
  · refine (prop_chg (args := fun p => #[p, .int .i64 m.fr, .int .i64 m.err]) (φ := fun v s' => v = .tuple #[] ∧ s' = accB s m.fr m.err) (K := HP.tt) hp fun pb => (bAccepted_ok pb s m.fr m.err (by omega)).weak (fun R h H => HP.sep_left H) fun v R h ⟨e, H⟩ => ⟨_, ⟨e, rfl⟩, H⟩).weak (fun R h H => HP.sep_tt H) ?_
    rintro v R h ⟨s', ⟨rfl, hP⟩, H⟩
    have hs' : stepB s m s' := by unfold stepB; rw [if_neg h6]; exact hP
    have hb' := hB.step hmv hf hs'
    refine ⟨ARepR b { g with prop := some s' } r, rfl, ?_, H⟩
    clear H
    refine ⟨.pointer r.pv, aLdP, ?_⟩
    refine (aPhase_ok (g := { g with prop := some s' }) rfl).weak (fun _ _ h => h) ?_
    rintro v R h ⟨rfl, H⟩
    refine ⟨_, rfl, ⟨fun h4 => ?_, fun h4 => ⟨fun h3 => ?_, fun h3 => .of fun R h H => ⟨s', ⟨trivial, hs'⟩, ?_⟩⟩⟩, H⟩
    · clear H
      refine ⟨g.units, aLdI rfl, .pointer r.pv, aLdP, g.who, aLdI rfl, r.wa, g.own.length, r.wc, aLdW, ?_⟩
      refine (aBallot_ok (g := { g with prop := some s' }) rfl).weak (fun _ _ h => h) ?_
      rintro v R h ⟨rfl, H⟩
      refine ⟨_, _, rfl, ?_, H⟩
      clear H
      refine (aAbove_ok s'.rnd s'.who g.who (by have := hb'.rnd; omega)).weak (fun _ _ _ => trivial) ?_
      rintro v R h rfl
      refine ⟨_, _, rfl, ?_, trivial⟩
      refine (bStart_ok g.units (s'.rnd + 1) g.who hu (ARepR b { g with prop := some s' } r) r.wa g.own.length r.wc g.own ⟨Rd.impR (RoC.rd _ _ _ _) fun R h H => (ARepR.ro H).2.1, fun R h H e => (RdL.ro _ _ _ _).none R h (ARepR.ro H).2.1 e⟩ rfl (by omega)).weak (fun _ _ h => h) ?_
      rintro v R h ⟨pb, rfl, H⟩
      refine ⟨.pointer (some ⟨pb, 0, none⟩), BRep pb (startB g.units (s'.rnd + 1) g.who g.own), _, rfl, ?_, HP.sep_comm H⟩
      clear H
      refine (aStP (b := b) (g := { g with prop := some s' }) (r := r)).weak (fun _ _ h => h) ?_
      rintro v R h ⟨rfl, H⟩
      refine ⟨_, rfl, .of fun R h H => ⟨s', ⟨trivial, hs'⟩, { r with pv := some ⟨pb, 0, none⟩ }, ?_⟩, H⟩
      unfold outA
      rw [if_pos h4]
      exact HP.sep_left H
    · clear H
      have hout : outA g s' = if (decP s'.val).2 ≠ 0 ∨ (decP s'.val).1.ep ≠ g.old.ep + 1 then { g with prop := some s', st := 6 } else { g with prop := some s', plan := (decP s'.val).1, st := 3, rep := fun _ => false } := by
        unfold outA; rw [if_neg h4, if_pos h3]
      refine ⟨.pointer r.pv, aLdP, ?_⟩
      refine (aValueC_ok (g := { g with prop := some s' }) rfl).weak (fun _ _ h => h) ?_
      rintro v R h ⟨a1, c1, ⟨rfl, hc1⟩, H⟩
      refine ⟨a1, _, c1, RoB a1 s'.val.length s'.val, rfl, ?_, H⟩
      clear H
      refine (plDec_ok a1 s'.val.length c1 s'.val (RoB a1 s'.val.length s'.val) (RdL.ro _ _ _ _) rfl hc1 hb'.val).weak (fun _ _ h => h) ?_
      rintro v R h ⟨a2, c2, es, ⟨rfl, hes⟩, H⟩
      refine ⟨(decP s'.val).1.ep, a2, es.length, c2, Ls kCh a2 es.length es, (decP s'.val).2, _, rfl, fun _ => ?_, H⟩
      clear H
      refine ⟨fun c => c = decide ((decP s'.val).2 ≠ 0 ∨ (decP s'.val).1.ep ≠ g.old.ep + 1), ⟨fun h5 => ?_, fun h5 => ?_⟩, ?_⟩
      · exact (decide_eq_true (.inl h5)).symm
      · refine (aEpoch_ok (g := { g with prop := some s' }) hs.e0 hs.e1).weak (fun _ _ h => h) ?_
        rintro v R h ⟨rfl, H⟩
        refine ⟨_, rfl, ?_, H⟩
        show (!decide ((decP s'.val).1.ep = g.old.ep + 1)) = _
        have h5' : (decP s'.val).2 = 0 := h5
        by_cases hb : (decP s'.val).1.ep = g.old.ep + 1
        · rw [decide_eq_true hb, decide_eq_false (fun h => h.elim (fun h => h h5') (fun h => h hb))]; rfl
        · rw [decide_eq_false hb, decide_eq_true (.inr hb)]; rfl
      · rintro _ rfl
        refine ⟨fun h6 => ?_, fun h6 => ?_⟩
        · refine (aStSt (b := b) (g := { g with prop := some s' }) (r := r)).weak (fun _ _ h => h) ?_
          rintro v R h ⟨rfl, H⟩
          refine ⟨_, rfl, .of fun R h H => ⟨s', ⟨trivial, hs'⟩, r, ?_⟩, H⟩
          rw [hout, if_pos (of_decide_eq_true h6)]
          exact HP.sep_left H
        · have h6' : ¬ ((decP s'.val).2 ≠ 0 ∨ (decP s'.val).1.ep ≠ g.old.ep + 1) := fun h => h6 (decide_eq_true h)
          have h0' : (decP s'.val).2 = 0 := Classical.byContradiction fun h => h6' (.inl h)
          refine (aStPl (b := b) (g := { g with prop := some s' }) (r := r) (p := (decP s'.val).1) (a := a2) (c := c2) (es := es) (decP_right h0') hes).weak (fun _ _ h => h) ?_
          rintro v R h ⟨rfl, H⟩
          refine ⟨ARepR b { g with prop := some s', plan := (decP s'.val).1 } { r with pa := a2, pc := c2, pes := es }, rfl, ?_, H⟩
          clear H
          refine (aStSt (b := b) (g := { g with prop := some s', plan := (decP s'.val).1 }) (r := { r with pa := a2, pc := c2, pes := es })).weak (fun _ _ h => h) ?_
          rintro v R h ⟨rfl, H⟩
          refine ⟨ARepR b { g with prop := some s', plan := (decP s'.val).1, st := 3 } { r with pa := a2, pc := c2, pes := es }, rfl, ?_, H⟩
          clear H
          refine (aSt7 (b := b) (g := { g with prop := some s', plan := (decP s'.val).1, st := 3 }) (r := { r with pa := a2, pc := c2, pes := es })).weak (fun _ _ h => h) ?_
          rintro v R h ⟨rfl, H⟩
          refine ⟨_, rfl, .of fun R h H => ⟨s', ⟨trivial, hs'⟩, { r with pa := a2, pc := c2, pes := es }, ?_⟩, H⟩
          rw [hout, if_neg h6']
          exact HP.sep_left H
    · unfold outA
      rw [if_neg h4, if_neg h3]
      exact ⟨r, HP.sep_left H⟩
end
end Go.Proofs.YtbmajijnjkicmaaGreatDoor



namespace Go.Proofs.YtbmajijnjkicmaaGreatDoor
set_option linter.unusedSimpArgs false
set_option linter.unusedVariables false
open Go.Proofs.YtbmajijnjkicmaaGreatDoor RX
set_option maxRecDepth 100000


def nowP (m x : MS) : Bool := decide (x.to = m.fr) && (decide (x.kind = m.kind) && (decide (x.ep = m.ep) && decide (x.at' = m.at')))
def nowB (g : AdvS) (m : MS) : Bool := (asksL g).any (nowP m)
def tolR (g : AdvS) (m : MS) (g' : AdvS) : Prop :=
  if m.rep = true ∧ nowB g m = true then
    (g.st = 1 → g' = sealA g m.fr.toNat m.err) ∧ (g.st = 2 → ∃ s s', g.prop = some s ∧ stepB s m s' ∧ g' = outA g s') ∧ (g.st = 3 → g' = tellA g m m.fr.toNat) ∧ (g.st = 4 → g' = { g with st := if m.err = 0 ∨ m.err = 8 then 5 else 6 }) ∧ (g.st ≠ 1 → g.st ≠ 2 → g.st ≠ 3 → g.st ≠ 4 → g' = g)
  else g' = g
structure TSafe (g : AdvS) : Prop where
  s : ASafe g
  r : g.st = 1 → rightB g.old = true
  u : g.units ≤ 10000
  w : g.own.length ≤ 1000000
  b : ∀ s, g.prop = some s → BSafe s ∧ s.ans.length ≤ 99999
theorem askA_to (g : AdvS) (u : Nat) : (askA g u).to = u := by
  unfold askA
  split
  · split <;> rfl
  · rfl
theorem nowB_fr {g : AdvS} {m : MS} (h : nowB g m = true) (h4 : g.st ≠ 4) : ∃ f : Nat, m.fr = f ∧ f < 7 ∧ askedA g f = true := by
  obtain ⟨x, hx, hp⟩ := List.any_eq_true.1 h
  unfold asksL at hx
  rw [if_neg h4] at hx
  obtain ⟨u, hu, rfl⟩ := List.mem_map.1 hx
  obtain ⟨hu1, hu2⟩ := List.mem_filter.1 hu
  have := of_decide_eq_true (Bool.and_eq_true_iff.1 hp).1
  rw [askA_to] at this
  exact ⟨u, this.symm, List.mem_range.1 hu1, hu2⟩
section
variable {b : Nat} {g : AdvS} {r : ARw}
theorem aAsksS_ok (hs : ASafe g) : Tri Tryz.prog 11 #[.pointer (some ⟨b, 0, none⟩)] (ARepR b g r) (fun v => HP.ex fun a => HP.ex fun c => HP.ex fun es : List MsE => HP.and (v = .slice a es.length c ∧ es.map (·.m) = asksL g) (HP.sep (Ls kMs a es.length es) (ARepR b g r))) :=
  (aAsksL_ok hs).post fun v => fun R h d ⟨a, c, es, e, H⟩ => by
    obtain ⟨R1, h1, q1, q2, q3, q4, H1⟩ := (HP.ent.sep (PL.share (K := kMs) (e := 41) (one := kMs_one) _ _ _ _) (ARepR b g r)) R h d H
    exact ⟨R1, h1, q1, q2, q3, q4, a, c, es, e, H1⟩
theorem fgoTo : Fgo Tryz.prog 33 := ⟨_, Tryz.func33, by kernel_rfl, by kernel_rfl⟩
abbrev MBox (x : Nat) (m : MS) (ca : Option Addr) (cc : Nat) (va : Option Addr) (vc : Nat) : HP := HP.one x (.cells (m.raw ca cc va vc).vals 41 (0, 0))
theorem told1_tri (x : Nat) (m : MS) (ca : Option Addr) (cc : Nat) (va : Option Addr) (vc : Nat) (S D V0 : HP) (y : MsE) :
    Tri Tryz.prog 33 #[.agg (y.m.raw y.ca y.cc y.va y.vc).vals, .pointer (some ⟨x, 0, none⟩)] (HP.sep S (HP.sep HP.tt (HP.sep (MBox x m ca cc va vc) (HP.sep D V0)))) fun v => HP.and (v = .bool (nowP m y.m)) (HP.sep S (HP.sep HP.tt (HP.sep (MBox x m ca cc va vc) (HP.sep D V0)))) := by
  refine tri_of_tree (ρ := [.i y.m.fr, .i y.m.to, .i y.m.num, .c y.m.rep, .i y.m.kind, .i y.m.ep, .i y.m.at', .i y.m.cell.what, .a y.ca, .n y.m.cell.data.length, .n y.cc, .p S, .i y.m.br, .i y.m.bw, .a y.va, .n y.m.val.length, .n y.vc, .p HP.tt, .i y.m.err, .i y.m.tail, .i y.m.low, .i y.m.back,
      .n x, .i m.fr, .i m.to, .i m.num, .c m.rep, .i m.kind, .i m.ep, .i m.at', .i m.cell.what, .a ca, .n m.cell.data.length, .n cc, .p D, .i m.br, .i m.bw, .a va, .n m.val.length, .n vc, .p V0, .i m.err, .i m.tail, .i m.low, .i m.back]) mixed Tryz.func33 tree_aTold1 ?_
  unfold t_aTold1
  simp only [T.den, E.prop, E.den, RX.look, F1.app, F2.app, Uni.int_i, Uni.nat_n, Uni.bool_c, Uni.str_s, Uni.adr_a, Uni.val_v, Uni.hp_p, hden, cden, V.den, W.den, A.den, BR.den, SA.den, FV.den, capV, exs, exP, allP, Cur.app, List.map_cons, List.map_nil, List.cons_append, List.nil_append, List.drop_succ_cons, List.drop_zero, List.length_cons, List.length_nil, Nat.zero_add, Nat.reduceAdd, Int.neg_neg, Bool.not_not, List.append_nil, Nat.add_zero, List.getElem?_cons_zero, List.getElem?_cons_succ, Decidable.not_not, semW_eq, ne_eq, Nat.reduceEqDiff, not_false_eq_true]
  intro _
  refine ⟨fun h1 => ⟨fun h2 => ⟨fun h3 => .of fun R h H => ⟨?_, H⟩, fun h3 => .of fun R h H => ⟨?_, H⟩⟩, fun h2 => .of fun R h H => ⟨?_, H⟩⟩, fun h1 => .of fun R h H => ⟨?_, H⟩⟩
  · unfold nowP; rw [decide_eq_true h1, decide_eq_true h2, decide_eq_true h3, Bool.true_and, Bool.true_and, Bool.true_and]
  · unfold nowP; rw [decide_eq_false h3, Bool.false_and, Bool.and_false, Bool.and_false]
  · unfold nowP; rw [decide_eq_false h2, Bool.false_and, Bool.and_false]
  · unfold nowP; rw [decide_eq_false h1, Bool.false_and]
theorem told1_ok (x : Nat) (m : MS) (ca : Option Addr) (cc : Nat) (va : Option Addr) (vc : Nat) (S D V0 : HP) (y : MsE) :
    VTri Tryz.prog (.func (.func 33) #[] #[.pointer (some ⟨x, 0, none⟩)]) #[.agg y.vals] (HP.sep (HP.sep (MBox x m ca cc va vc) (HP.sep D V0)) S) fun v => HP.and (v = .bool (nowP m y.m)) (HP.sep (HP.sep (MBox x m ca cc va vc) (HP.sep D V0)) S) :=
  .inl ⟨_, _, rfl, fgoTo, (told1_tri x m ca cc va vc S D V0 y).weak (fun R h H => HP.sep_mono (HP.sep_comm H) (fun _ h => h) fun z hz => HP.tt_sep hz) fun v R h ⟨e, H⟩ => ⟨e, HP.sep_comm (HP.sep_mono H (fun _ h => h) fun z hz => HP.sep_right hz)⟩⟩
set_option maxHeartbeats 2000000 in
theorem aTold_ok (m : MS) (ca : Option Addr) (cc : Nat) (va : Option Addr) (vc : Nat) (hs : TSafe g) (hmv : m.val.length ≤ 100000000) (D : HP) :
    Tri Tryz.prog 13 #[.pointer (some ⟨b, 0, none⟩), .agg (m.raw ca cc va vc).vals] (HP.sep (ARepR b g r) (HP.sep D (m.Vro va))) (fun v => HP.ex fun g' => HP.and (v = .tuple #[] ∧ tolR g m g') (ARep b g')) := by
  refine tri_of_tree (ρ := [.n b, .p (ARepR b g r), .i m.fr, .i m.to, .i m.num, .c m.rep, .i m.kind, .i m.ep, .i m.at', .i m.cell.what, .a ca, .n m.cell.data.length, .n cc, .p D, .i m.br, .i m.bw, .a va, .n m.val.length, .n vc, .p (m.Vro va), .i m.err, .i m.tail, .i m.low, .i m.back]) mixed Tryz.func13 tree_aTold ?_
  unfold t_aTold
  simp only [T.den, E.prop, E.den, RX.look, F1.app, F2.app, Uni.int_i, Uni.nat_n, Uni.bool_c, Uni.str_s, Uni.adr_a, Uni.val_v, Uni.hp_p, hden, cden, V.den, W.den, A.den, BR.den, SA.den, FV.den, capV, exs, exP, allP, Cur.app, List.map_cons, List.map_nil, List.cons_append, List.nil_append, List.drop_succ_cons, List.drop_zero, List.length_cons, List.length_nil, Nat.zero_add, Nat.reduceAdd, Int.neg_neg, Bool.not_not, List.append_nil, Nat.add_zero, List.getElem?_cons_zero, List.getElem?_cons_succ, Decidable.not_not, semW_eq, semW_load, semW_store, semW_storeC, ne_eq, Nat.reduceEqDiff, not_false_eq_true]
  intro x
  refine (aAsksS_ok hs.s).weak (fun _ _ h => h) ?_
  rintro v R h ⟨a, c, es, ⟨rfl, he⟩, H⟩
  refine ⟨a, es.length, c, Ls kMs a es.length es, rfl, ?_, H⟩
  clear H
  have hany : es.any (fun y => nowP m y.m) = nowB g m := by
    unfold nowB; rw [← he, List.any_map]; rfl
  have h7 := asksL_len g
  rw [← he, List.length_map] at h7
  refine (mContainsF_ok (Ls kMs a es.length es) (HP.sep (MBox x m ca cc va vc) (HP.sep D (m.Vro va))) a es.length c es (fun _ _ h => h) (by omega) (.func (.func 33) #[] #[.pointer (some ⟨x, 0, none⟩)]) rfl (fun y => nowP m y.m) fun y _ => told1_ok x m ca cc va vc _ _ _ y).weak (fun _ _ h => h) ?_
  rintro v R h ⟨rfl, H⟩
  rw [hany]
  refine ⟨_, rfl, ⟨fun h0 => .of fun R h H => ⟨g, ⟨trivial, ?_⟩, r, ?_⟩, fun h0 => ⟨fun h1 => .of fun R h H => ⟨g, ⟨trivial, ?_⟩, r, ?_⟩, fun h1 => ?_⟩⟩, H⟩
  all_goals first | exact HP.sep_left H | skip
  · unfold tolR; rw [if_neg (fun e => h0 e.1)]
  · unfold tolR; rw [if_neg (fun e => h1 e.2)]
  clear H
  have h1' : nowB g m = true := by simpa using h1
  have h0' : m.rep = true := by simpa using h0
  have key : ∀ g', ((g.st = 1 → g' = sealA g m.fr.toNat m.err) ∧ (g.st = 2 → ∃ s s', g.prop = some s ∧ stepB s m s' ∧ g' = outA g s') ∧ (g.st = 3 → g' = tellA g m m.fr.toNat) ∧ (g.st = 4 → g' = { g with st := if m.err = 0 ∨ m.err = 8 then 5 else 6 }) ∧ (g.st ≠ 1 → g.st ≠ 2 → g.st ≠ 3 → g.st ≠ 4 → g' = g)) → tolR g m g' := fun g' h => by
    unfold tolR; rw [if_pos ⟨h0', h1'⟩]; exact h
  refine ⟨g.st, aLdI rfl, fun s1 => ?_, fun s1 => ⟨fun s2 => ?_, fun s2 => ⟨fun s3 => ?_, fun s3 => ⟨fun s4 => ?_, fun s4 => .of fun R h H => ⟨g, ⟨trivial, key g ⟨fun h => absurd h s1, fun h => absurd h s2, fun h => absurd h s3, fun h => absurd h s4, fun _ _ _ _ => rfl⟩⟩, r, HP.sep_left H⟩⟩⟩⟩⟩
  · have s1' : g.st = 1 := s1
    obtain ⟨f, hf, hf7, _⟩ := nowB_fr h1' (by omega)
    refine (aSealed_ok m ca cc va vc f hf hf7 hs.s (hs.r s1') hs.u D (m.Vro va)).weak (fun _ _ h => h) ?_
    rintro v R h ⟨rfl, H⟩
    refine ⟨ARep b (sealA g f m.err), HP.tt, HP.tt, rfl, .of fun R h H => ⟨sealA g f m.err, ⟨trivial, key _ ⟨fun _ => by rw [hf, Int.toNat_natCast], by omega, by omega, by omega, by omega⟩⟩, HP.sep_left H⟩, HP.sep_tt (HP.sep_tt H) |> HP.sep_assoc⟩
  · have s2' : g.st = 2 := s2
    obtain ⟨s, hsp⟩ := Option.isSome_iff_exists.1 (hs.s.p2 s2')
    obtain ⟨hB, hf⟩ := hs.b s hsp
    refine (aChose_ok m ca cc va vc s hsp hs.s hB hf hmv hs.u hs.w D).weak (fun _ _ h => h) ?_
    rintro v R h ⟨s', ⟨rfl, hst⟩, H⟩
    refine ⟨ARep b (outA g s'), HP.tt, HP.tt, rfl, .of fun R h H => ⟨outA g s', ⟨trivial, key _ ⟨by omega, fun _ => ⟨s, s', hsp, hst, rfl⟩, by omega, by omega, by omega⟩⟩, HP.sep_left H⟩, HP.sep_tt (HP.sep_tt H) |> HP.sep_assoc⟩
  · have s3' : g.st = 3 := s3
    obtain ⟨f, hf, hf7, _⟩ := nowB_fr h1' (by omega)
    refine (aTell_ok m ca cc va vc f hf hf7 hs.s D (m.Vro va)).weak (fun _ _ h => h) ?_
    rintro v R h ⟨rfl, H⟩
    refine ⟨ARep b (tellA g m f), HP.tt, HP.tt, rfl, .of fun R h H => ⟨tellA g m f, ⟨trivial, key _ ⟨by omega, by omega, fun _ => by rw [hf, Int.toNat_natCast], by omega, by omega⟩⟩, HP.sep_left H⟩, HP.sep_tt (HP.sep_tt H) |> HP.sep_assoc⟩
  · have s4' : g.st = 4 := s4
    have k5 : (m.err = 0 ∨ m.err = 8) → tolR g m { g with st := 5 } := fun h => key _ ⟨by omega, by omega, by omega, fun _ => by rw [if_pos h], by omega⟩
    have k6 : ¬ (m.err = 0 ∨ m.err = 8) → tolR g m { g with st := 6 } := fun h => key _ ⟨by omega, by omega, by omega, fun _ => by rw [if_neg h], by omega⟩
    refine (aStSt (b := b) (g := g) (r := r)).weak (fun _ _ h => h) ?_
    rintro v R h ⟨rfl, H⟩
    refine ⟨ARepR b { g with st := 6 } r, rfl, ⟨fun e0 => ?_, fun e0 => ⟨fun e8 => ?_, fun e8 => .of fun R h H => ⟨_, ⟨trivial, k6 (fun h => h.elim e0 e8)⟩, r, HP.sep_left H⟩⟩⟩, H⟩
    · refine (aStSt (b := b) (g := { g with st := 6 }) (r := r)).weak (fun _ _ h => h) ?_
      rintro v R h ⟨rfl, H⟩
      exact ⟨ARepR b { g with st := 5 } r, rfl, .of fun R h H => ⟨_, ⟨trivial, k5 (.inl e0)⟩, r, HP.sep_left H⟩, H⟩
    · refine (aStSt (b := b) (g := { g with st := 6 }) (r := r)).weak (fun _ _ h => h) ?_
      rintro v R h ⟨rfl, H⟩
      exact ⟨ARepR b { g with st := 5 } r, rfl, .of fun R h H => ⟨_, ⟨trivial, k5 (.inr e8)⟩, r, HP.sep_left H⟩, H⟩
end

theorem ldPC {a : Option Addr} {n c : Nat} {es : List ChE} {k : Nat} {x : ChE} (hk : es[k]? = some x) :
    ORead Tryz.prog (loadS 60 (.pointer (a.map fun y => (y.add ((k : Int).toNat * 1)).add 0))) (PL pkC a n c es) (.slice x.a x.l.length x.c) := by
  refine load1_ok undI aggIs szIs (PL.rd (K := pkC) a n c es) (k := (k : Int).toNat * 1) (off := 0) ?_
  have := flat_getL kCh.vals 1 kCh.len es k 0 x hk (by omega)
  exact this
set_option maxHeartbeats 1000000 in
theorem aTwin_ok (S : HP) (ep : Int) (a : Option Addr) (n c : Nat) (es : List ChE) (hS : ∀ R h, S.p R h → (Ls kCh a n es).p R h) (hb : n ≤ 1000000000) (hx : ∀ x ∈ es, x.l.length ≤ 1000000000) :
    Tri Tryz.prog 28 #[.agg #[.int .i64 ep, .slice a n c]] S (fun v => HP.ex fun a' => HP.ex fun c' => HP.ex fun es' : List ChE => HP.and (v = .agg #[.int .i64 ep, .slice a' n c'] ∧ es'.map (·.l) = es.map (·.l)) (HP.sep (Ls kCh a' n es') S)) := by
  refine Tri.fact (φ := es.length = n) (fun R h H => (hS R h H).1) fun hl => ?_
  refine Tri.post (B := fun v => HP.ex fun a' => HP.ex fun c' => HP.ex fun es' : List ChE => HP.and (v = .agg #[.int .i64 ep, .slice a' n c'] ∧ es'.map (·.l) = es.map (·.l)) (HP.sep (PL pkC a' n c' es') S)) ?_ fun v => fun R h d ⟨a', c', es', e, H⟩ => by
    obtain ⟨R1, h1, q1, q2, q3, q4, H1⟩ := (HP.ent.sep (PL.share (K := kCh) (e := 60) (one := kCh_one) _ _ _ _) S) R h d H
    exact ⟨R1, h1, q1, q2, q3, q4, a', c', es', e, H1⟩
  refine tri_of_tree (ρ := [.i ep, .a a, .n n, .n c, .p S]) mixed Tryz.func28 tree_aTwin ?_
  unfold t_aTwin
  simp only [T.den, E.prop, E.den, RX.look, F1.app, F2.app, Uni.int_i, Uni.nat_n, Uni.bool_c, Uni.str_s, Uni.adr_a, Uni.val_v, Uni.hp_p, hden, cden, V.den, W.den, A.den, BR.den, SA.den, FV.den, capV, exs, exP, allP, Cur.app, List.map_cons, List.map_nil, List.cons_append, List.nil_append, List.drop_succ_cons, List.drop_zero, List.length_cons, List.length_nil, Nat.zero_add, Nat.reduceAdd, Int.neg_neg, Bool.not_not, List.append_nil, Nat.add_zero, List.getElem?_cons_zero, List.getElem?_cons_succ, Decidable.not_not, semW_eq, semW_load, semW_store, semW_storeC, ne_eq, Nat.reduceEqDiff, not_false_eq_true]
  intro _ _
  refine (cClone_ok S a n c es hS hb).weak (fun _ _ h => h) ?_
  rintro v R h ⟨a', c', rfl, H⟩
  have hsm : n ≠ 0 → a'.isSome = true := fun hn => PL.isAt (HP.sep_left H) hn
  refine ⟨a', n, c', PL pkC a' n c' es, S, rfl, ?_, H⟩
  clear H
  refine ⟨fun i P => ∃ k : Nat, ∃ es' : List ChE, i = k ∧ k ≤ n ∧ P = PL pkC a' n c' es' ∧ es'.map (·.l) = es.map (·.l), fun i _ => n - i.toNat, ⟨0, es, rfl, Nat.zero_le _, rfl, rfl⟩, ?_⟩
  rintro _ _ ⟨k, es', rfl, hk, rfl, he⟩
  have hl' : es'.length = n := by
    have := congrArg List.length he
    simp at this; omega
  refine ⟨fun hlt => ⟨by omega, fun _ => ⟨hsm (by omega), fun _ => ?_⟩⟩, fun hge => .of fun R h H => ⟨a', c', es', ⟨rfl, he⟩, HP.sep_comm H⟩⟩
  have hkl : k < es'.length := by omega
  have hg : es'[k]? = some es'[k] := List.getElem?_eq_getElem hkl
  have hm : es'[k] ∈ es' := List.getElem_mem hkl
  have hxl : es'[k].l.length ≤ 1000000000 := by
    have : es'[k].l ∈ es.map (·.l) := by rw [← he]; exact List.mem_map.2 ⟨_, hm, rfl⟩
    obtain ⟨y, hy, e⟩ := List.mem_map.1 this
    rw [← e]; exact hx y hy
  refine ⟨es'[k].a, es'[k].l.length, es'[k].c, ldPC hg, ?_⟩
  refine (iCloneR_ok (PL pkC a' n c' es') es'[k].a es'[k].l.length es'[k].c es'[k].l (.of fun R h H => sepN_all (HP.sep_right H.2) (kCh.hp es'[k]) (List.mem_map.2 ⟨_, hm, rfl⟩)) rfl hxl).weak (fun _ _ h => h) ?_
  rintro v R h ⟨a2, c2, rfl, H⟩
  refine ⟨a2, es'[k].l.length, c2, RoI a2 es'[k].l.length es'[k].l, PL pkC a' n c' es', rfl, ?_, H⟩
  clear H
  obtain ⟨i, hi, _, hz, _⟩ := info_parts infoIs
  refine (PL.set (K := pkC) hi hz (a := a') (n := n) (c := c') (l := es') (k := k) (by omega) ⟨a2, c2, es'[k].l⟩ rfl HP.tt).weak (fun R h H => HP.sep_mono H (fun _ h => h) fun z hz => HP.sep_tt hz) ?_
  rintro v R h ⟨rfl, H⟩
  refine ⟨PL pkC a' n c' (es'.set k ⟨a2, c2, es'[k].l⟩), rfl, ⟨inI64 _ (by omega) (by omega), fun _ => ⟨⟨k + 1, es'.set k ⟨a2, c2, es'[k].l⟩, by omega, by omega, rfl, ?_⟩, by dsimp only; omega⟩⟩, HP.sep_left H⟩
  have e : (es'.set k es'[k]).map (·.l) = es'.map (·.l) := by rw [List.set_getElem_self]
  rw [List.map_set] at e ⊢
  exact e.trans he
end Go.Proofs.YtbmajijnjkicmaaGreatDoor



namespace Go.Proofs.YtbmajijnjkicmaaGreatDoor
set_option linter.unusedSimpArgs false
set_option linter.unusedVariables false
open Go.Proofs.YtbmajijnjkicmaaGreatDoor RX
set_option maxRecDepth 100000

section
variable {b : Nat} {g : AdvS} {r : ARw}
theorem aPlan_ok : Tri Tryz.prog 16 #[.pointer (some ⟨b, 0, none⟩)] (ARepR b g r) (fun v => HP.ex fun a => HP.ex fun c => HP.ex fun es : List ChE => HP.and (v = .agg #[.int .i64 g.plan.ep, .slice a es.length c] ∧ es.map (·.l) = g.plan.ch) (HP.sep (Ls kCh a es.length es) (ARepR b g r))) := by
  refine Tri.fact (φ := ROk g r) (fun R h H => H.1) fun hok => ?_
  refine tri_of_tree (ρ := [.n b, .p (ARepR b g r)]) mixed Tryz.func16 tree_aPlan ?_
  unfold t_aPlan
  simp only [T.den, E.prop, E.den, RX.look, F1.app, F2.app, Uni.int_i, Uni.nat_n, Uni.bool_c, Uni.str_s, Uni.adr_a, Uni.val_v, Uni.hp_p, hden, cden, V.den, W.den, A.den, BR.den, SA.den, FV.den, capV, exs, exP, allP, Cur.app, List.map_cons, List.map_nil, List.cons_append, List.nil_append, List.drop_succ_cons, List.drop_zero, List.length_cons, List.length_nil, Nat.zero_add, Nat.reduceAdd, Int.neg_neg, Bool.not_not, List.append_nil, Nat.add_zero, List.getElem?_cons_zero, List.getElem?_cons_succ, Decidable.not_not, semW_eq, semW_load, ne_eq, Nat.reduceEqDiff, not_false_eq_true]
  intro _
  refine ⟨g.plan.ep, r.pa, r.pes.length, r.pc, aLdPl rfl rfl, ?_⟩
  refine (aTwin_ok (ARepR b g r) g.plan.ep r.pa r.pes.length r.pc r.pes (fun R h H => (ARepR.ro H).2.2) (by have := hok.pb.1; omega) fun x hx => by have := hok.pb.2 x hx; omega).weak (fun _ _ h => h) ?_
  rintro v R h ⟨a', c', es', ⟨rfl, he⟩, H⟩
  have hl : es'.length = r.pes.length := by
    have := congrArg List.length he
    simpa using this
  rw [← hl] at H ⊢
  exact ⟨g.plan.ep, a', es'.length, c', Ls kCh a' es'.length es', ARepR b g r, rfl, .of fun R h H => ⟨a', c', es', ⟨rfl, he.trans hok.p⟩, HP.sep_comm H⟩, H⟩

def pushA (g : AdvS) : AdvS := if g.st = 1 ∧ (g.old.ch.all fun c => c.any fun u => g.there u.toNat) = true then chooseA g else g
theorem fgoPu : Fgo Tryz.prog 38 := ⟨_, Tryz.func38, by kernel_rfl, by kernel_rfl⟩
theorem push1_ok (x : Nat) (u : Int) (h0 : 0 ≤ u) (h7 : u < 7) :
    VTri Tryz.prog (.func (.func 38) #[] #[.pointer (some ⟨x, 0, none⟩)]) #[.int .i64 u] (HP.sep (ABox x b) (ARepR b g r)) fun v => HP.and (v = .bool (g.there u.toNat)) (HP.sep (ABox x b) (ARepR b g r)) := by
  refine .inl ⟨_, _, rfl, fgoPu, ?_⟩
  refine tri_of_tree (ρ := [.i u, .n x, .n b, .p (ARepR b g r)]) mixed Tryz.func38 tree_aPush1 ?_
  unfold t_aPush1
  simp only [T.den, E.prop, E.den, RX.look, F1.app, F2.app, Uni.int_i, Uni.nat_n, Uni.bool_c, Uni.str_s, Uni.adr_a, Uni.val_v, Uni.hp_p, hden, cden, V.den, W.den, A.den, BR.den, SA.den, FV.den, capV, exs, exP, allP, Cur.app, List.map_cons, List.map_nil, List.cons_append, List.nil_append, List.drop_succ_cons, List.drop_zero, List.length_cons, List.length_nil, Nat.zero_add, Nat.reduceAdd, Int.neg_neg, Bool.not_not, List.append_nil, Nat.add_zero, List.getElem?_cons_zero, List.getElem?_cons_succ, Decidable.not_not, semW_eq, semW_load, ne_eq, Nat.reduceEqDiff, not_false_eq_true, semW_ixS]
  obtain ⟨k, rfl⟩ := Int.eq_ofNat_of_zero_le h0
  refine ⟨.pointer (some ⟨b, 12 + k, none⟩), ixAt undA7 infBo szBo rfl (by omega), g.there k, aLdThere (by omega), .of fun R h H => ⟨?_, H⟩⟩
  rw [Int.toNat_natCast]
set_option maxHeartbeats 1000000 in
theorem aPush_ok (hr : g.st = 1 → rightB g.old = true) (hu : g.units ≤ 10000) : Tri Tryz.prog 18 #[.pointer (some ⟨b, 0, none⟩)] (ARepR b g r) (fun v => HP.and (v = .tuple #[]) (ARep b (pushA g))) := by
  refine Tri.fact (φ := ROk g r ∧ (r.oes.length ≠ 0 → r.oa.isSome = true)) (fun R h H => ⟨H.1, fun hn => RoC.some (ARepR.ro H).1.2.1 (by omega)⟩) fun ⟨hok, hsm⟩ => ?_
  refine tri_of_tree (ρ := [.n b, .p (ARepR b g r)]) mixed Tryz.func18 tree_aPush ?_
  unfold t_aPush
  simp only [T.den, E.prop, E.den, RX.look, F1.app, F2.app, Uni.int_i, Uni.nat_n, Uni.bool_c, Uni.str_s, Uni.adr_a, Uni.val_v, Uni.hp_p, hden, cden, V.den, W.den, A.den, BR.den, SA.den, FV.den, capV, exs, exP, allP, Cur.app, List.map_cons, List.map_nil, List.cons_append, List.nil_append, List.drop_succ_cons, List.drop_zero, List.length_cons, List.length_nil, Nat.zero_add, Nat.reduceAdd, Int.neg_neg, Bool.not_not, List.append_nil, Nat.add_zero, List.getElem?_cons_zero, List.getElem?_cons_succ, Decidable.not_not, semW_eq, semW_load, ne_eq, Nat.reduceEqDiff, not_false_eq_true]
  intro x
  refine ⟨g.st, aLdI rfl, fun s1 => .of fun R h H => ⟨trivial, r, ?_⟩, fun s1 => ⟨r.oa, r.oes.length, r.oc, aLdC rfl, ?_⟩⟩
  · unfold pushA; rw [if_neg (fun e => s1 e.1)]
    exact H
  have s1' : g.st = 1 := by simpa using s1
  have hR := rightP (hr s1')
  have hol : r.oes.length = g.old.ch.length := by rw [← hok.o, List.length_map]
  refine ⟨fun i => ∃ k : Nat, i = k ∧ k ≤ r.oes.length ∧ ∀ c ∈ g.old.ch.take k, (c.any fun u => g.there u.toNat) = true, fun i => r.oes.length - i.toNat, ⟨0, rfl, Nat.zero_le _, by simp⟩, ?_⟩
  rintro _ ⟨k, rfl, hk, hall⟩
  refine ⟨fun hlt => ⟨by omega, fun _ => ⟨hsm (by omega), fun _ => ?_⟩⟩, fun hge => ?_⟩
  · have hkl : k < r.oes.length := by omega
    have hg : r.oes[k]? = some r.oes[k] := List.getElem?_eq_getElem hkl
    have hm : r.oes[k] ∈ r.oes := List.getElem_mem hkl
    have hch : r.oes[k].l ∈ g.old.ch := by rw [← hok.o]; exact List.mem_map.2 ⟨_, hm, rfl⟩
    have hkc : g.old.ch[k]'(by omega) = r.oes[k].l := by
      have : g.old.ch[k]? = some r.oes[k].l := by rw [← hok.o, List.getElem?_map, hg]; rfl
      rw [List.getElem?_eq_getElem (by omega)] at this; exact Option.some.inj this
    refine ⟨r.oes[k].a, r.oes[k].l.length, r.oes[k].c, ldC (fun R h H => (ARepR.ro H).1) hg, ?_⟩
    refine (iContainsF_ok (RoI r.oes[k].a r.oes[k].l.length r.oes[k].l) (HP.sep (ABox x b) (ARepR b g r)) r.oes[k].a r.oes[k].l.length r.oes[k].c r.oes[k].l (.of fun _ _ h => h) rfl (by have := hok.ob.2 _ hm; omega) (.func (.func 38) #[] #[.pointer (some ⟨x, 0, none⟩)]) rfl (fun u => g.there u.toNat) fun u hu => push1_ok x u ((hR.chain hch).2.1 u hu).1 ((hR.chain hch).2.1 u hu).2).weak (fun R h H => ?_) ?_
    · have hro : (RoI r.oes[k].a r.oes[k].l.length r.oes[k].l).p R h := (ARepR.ro (HP.sep_left H)).1.2.2 _ hm
      exact ⟨PH.none', h, PH.none_dj _, PH.none_le _, PH.le.refl _, hro, HP.sep_comm H⟩
    · rintro v R h ⟨rfl, H⟩
      have H2 := HP.sep_comm (HP.sep_right H)
      refine ⟨_, rfl, ⟨fun e => .of fun R h H => ⟨trivial, r, ?_⟩, fun e => ⟨inI64 _ (by omega) (by have := hok.ob.1; omega), fun _ => ⟨⟨k + 1, by omega, by omega, fun c hc => ?_⟩, by dsimp only; omega⟩⟩⟩, H2⟩
      · have : pushA g = g := by
          unfold pushA
          rw [if_neg]
          rintro ⟨_, ha⟩
          have := List.all_eq_true.1 ha _ hch
          exact absurd this (by simpa using e)
        rw [this]; exact H
      · rw [List.take_succ_eq_append_getElem (by omega)] at hc
        rcases List.mem_append.1 hc with hc | hc
        · exact hall c hc
        · obtain rfl := List.mem_singleton.1 hc
          rw [hkc]; simpa using e
  · have hka : ∀ c ∈ g.old.ch, (c.any fun u => g.there u.toNat) = true := by
      have : g.old.ch.take k = g.old.ch := List.take_of_length_le (by omega)
      rw [this] at hall; exact hall
    refine (aChoose_ok (hr s1') hu).weak (fun _ _ h => h) ?_
    rintro v R h ⟨rfl, H⟩
    refine ⟨ARep b (chooseA g), rfl, .of fun R h H => ⟨trivial, ?_⟩, H⟩
    unfold pushA
    rw [if_pos ⟨s1', List.all_eq_true.2 hka⟩]
    exact H
end

def zAdv : AdvS := ⟨⟨0, []⟩, 0, 0, 6, fun _ => false, fun _ => false, [], none, ⟨0, []⟩, 0⟩
def beginA (p : PlP) (u w : Int) : AdvS :=
  if rightB p = true ∧ p.ep ≠ 2147483647 ∧ 1 ≤ u ∧ u ≤ 7 ∧ 0 ≤ w ∧ w ≤ 2147483647 then ⟨p, u, w, 1, fun _ => false, fun _ => false, [], none, ⟨0, []⟩, 0⟩ else zAdv
theorem ls_nil {R h : PH} : (Ls kCh none 0 []).p R h := ⟨rfl, RoC.nil _ _ _ _, fun x hx => by cases hx⟩
theorem zAdv_rep (x : Nat) {R h : PH} (H : (HP.one x (.cells (advL zAdv ⟨none, 0, [], none, 0, none, none, 0, []⟩).toArray 76 (0, 0))).p R h) : (ARep x zAdv).p R h :=
  ⟨⟨none, 0, [], none, 0, none, none, 0, []⟩, ⟨rfl, rfl, ⟨by simp, fun x hx => by cases hx⟩, ⟨by simp, fun x hx => by cases hx⟩, by simp [zAdv]⟩, HP.sep_mono (HP.sep_tt H) (fun _ h => h) fun y _ => HP.sep_mono (HP.sep_tt (show (PropR none none).p R y from rfl)) (fun _ h => h) fun z _ => ⟨ls_nil, RoB0 _, ls_nil⟩⟩
set_option maxHeartbeats 1000000 in
theorem aBegin_ok (S : HP) (ep : Int) (a : Option Addr) (n c : Nat) (es : List ChE) (u w : Int) (hS : ∀ R h, S.p R h → (Ls kCh a n es).p R h) (hb : ∀ x ∈ es, x.l.length ≤ 1000000000) (hn : n ≤ 1000000000) :
    Tri Tryz.prog 10 #[.agg #[.int .i64 ep, .slice a n c], .int .i64 u, .int .i64 w] S (fun v => HP.ex fun b => HP.and (v = .pointer (some ⟨b, 0, none⟩)) (HP.sep (ARep b (beginA ⟨ep, es.map (·.l)⟩ u w)) S)) := by
  refine tri_of_tree (ρ := [.i ep, .a a, .n n, .n c, .p S, .i u, .i w]) mixed Tryz.func10 tree_aBegin ?_
  unfold t_aBegin
  simp only [T.den, E.prop, E.den, RX.look, F1.app, F2.app, Uni.int_i, Uni.nat_n, Uni.bool_c, Uni.str_s, Uni.adr_a, Uni.val_v, Uni.hp_p, hden, cden, V.den, W.den, A.den, BR.den, SA.den, FV.den, capV, exs, exP, allP, Cur.app, List.map_cons, List.map_nil, List.cons_append, List.nil_append, List.drop_succ_cons, List.drop_zero, List.length_cons, List.length_nil, Nat.zero_add, Nat.reduceAdd, Int.neg_neg, Bool.not_not, List.append_nil, Nat.add_zero, List.getElem?_cons_zero, List.getElem?_cons_succ, Decidable.not_not, semW_eq, ne_eq, Nat.reduceEqDiff, not_false_eq_true]
  intro _
  refine (right_ok S ep a n c es hS hb).weak (fun _ _ h => h) ?_
  rintro v R h ⟨rfl, H⟩
  have bad : ¬ (rightB ⟨ep, es.map (·.l)⟩ = true ∧ ep ≠ 2147483647 ∧ 1 ≤ u ∧ u ≤ 7 ∧ 0 ≤ w ∧ w ≤ 2147483647) → beginA ⟨ep, es.map (·.l)⟩ u w = zAdv := fun h => by unfold beginA; rw [if_neg h]
  refine ⟨_, rfl, ⟨fun h1 x => .of fun R h H => ⟨x, rfl, ?_⟩, fun h1 => ⟨fun h2 x => .of fun R h H => ⟨x, rfl, ?_⟩, fun h2 => ⟨fun h3 x => .of fun R h H => ⟨x, rfl, ?_⟩, fun h3 => ⟨fun h4 x => .of fun R h H => ⟨x, rfl, ?_⟩, fun h4 => ⟨fun h5 x => .of fun R h H => ⟨x, rfl, ?_⟩, fun h5 => ⟨fun h6 x => .of fun R h H => ⟨x, rfl, ?_⟩, fun h6 => ?_⟩⟩⟩⟩⟩⟩, H⟩
  · rw [bad (fun h => h1 h.1)]; exact HP.sep_mono (HP.sep_comm H) (fun _ h => zAdv_rep x h) fun _ h => h
  · rw [bad (fun h => h.2.1 h2)]; exact HP.sep_mono (HP.sep_comm H) (fun _ h => zAdv_rep x h) fun _ h => h
  · rw [bad (fun h => by omega)]; exact HP.sep_mono (HP.sep_comm H) (fun _ h => zAdv_rep x h) fun _ h => h
  · rw [bad (fun h => by omega)]; exact HP.sep_mono (HP.sep_comm H) (fun _ h => zAdv_rep x h) fun _ h => h
  · rw [bad (fun h => by omega)]; exact HP.sep_mono (HP.sep_comm H) (fun _ h => zAdv_rep x h) fun _ h => h
  · rw [bad (fun h => by omega)]; exact HP.sep_mono (HP.sep_comm H) (fun _ h => zAdv_rep x h) fun _ h => h
  have hr : rightB ⟨ep, es.map (·.l)⟩ = true := by simpa using h1
  have hR := rightP hr
  have good : beginA ⟨ep, es.map (·.l)⟩ u w = ⟨⟨ep, es.map (·.l)⟩, u, w, 1, fun _ => false, fun _ => false, [], none, ⟨0, []⟩, 0⟩ := by
    unfold beginA; rw [if_pos ⟨hr, h2, by omega, by omega, by omega, by omega⟩]
  clear H
  refine (aTwin_ok S ep a n c es hS hn hb).weak (fun _ _ h => h) ?_
  rintro v R h ⟨a', c', es', ⟨rfl, he⟩, H⟩
  have hl : es'.length = n := (HP.sep_left H).1
  refine ⟨ep, a', n, c', Ls kCh a' n es', S, rfl, fun x => .of fun R h H => ⟨x, rfl, ?_⟩, H⟩
  have h7 := hR.len7
  rw [← he, List.length_map] at h7
  rw [good, ← he]
  obtain ⟨h1, h2, d, l1, l2, HS, HR⟩ := H
  subst hl
  refine HP.sep_comm ⟨h1, h2, d, l1, l2, HS, ⟨a', c', es', none, 0, none, none, 0, []⟩, ⟨rfl, rfl, ⟨by simp; omega, fun x hx => ?_⟩, ⟨by simp, fun x hx => by cases hx⟩, by simp⟩, HP.sep_mono HR (fun _ h => h) fun y hy => HP.sep_mono (HP.tt_sep hy) (fun z _ => rfl) fun z hz => ⟨hz, RoB0 _, ls_nil⟩⟩
  have : x.l ∈ es.map (·.l) := by rw [← he]; exact List.mem_map.2 ⟨x, hx, rfl⟩
  have := (hR.chain this).2.2
  omega
end Go.Proofs.YtbmajijnjkicmaaGreatDoor



namespace Go.Proofs.YtbmajijnjkicmaaGreatDoor.RX
set_option maxRecDepth 100000
-- tideline/tidelineref11.SameInts: ρ := [.a aa, .n al, .n ac, .p aP, .a ba, .n bl, .n bc, .p bP]
def t_speaks18 : T :=
(.call 7 [.a (.int .i64 (.i 1)), .a (.int .i64 (.i 1))] [] [.i, .a, .n, .n, .p, .i] (.tup [.agg [.int .i64 (.v 0), .sl (.v 1) (.v 2) (.v 3)], .a (.int .i64 (.v 5))]) [(.a 1, .prop 4)]
(.new
(.call 10 [.agg [.int .i64 (.v 0), .sl (.v 1) (.v 2) (.v 3)], .a (.int .i64 (.i 1)), .a (.int .i64 (.i 3))] [(.a 1, .prop 4)] [.n, .p] (.w (.a (.ptr (.v 7) 0))) [(.b (.v 7), .prop 8), (.a 1, .prop 4)]
(.new
(.join [.a, .n, .n, .p, .p]
(.loop [.a, .n, .n, .p, .p] [.a (.b (.v 9) 0), .e (.o2 .nadd (.n 0) (.n 0)), .e (.o2 .nadd (.n 0) (.n 0)), .p [(.b (.v 9), .cells [] 3)], .p [(.b (.v 7), .prop 8)]]
(.br (.o2 .lt (.o1 .ofNat (.v 11)) (.i 9))
(.call 11 [.a (.ptr (.v 7) 0)] [(.b (.v 7), .prop 14)] [.a, .n, .n, .p] (.w (.a (.sl (.v 15) (.v 16) (.v 17)))) [(.a 15, .prop 18), (.b (.v 7), .prop 14)]
(.join [.c]
(.br (.o1 .not (.o2 .eq (.v 5) (.i 0)))
(.again 0 [.e (.o1 .not (.o1 .not (.c true)))])
(.again 0 [.e (.o1 .not (.o1 .not (.o1 .not (.o2 .eq (.o1 .ofNat (.v 16)) (.i 1)))))]))
(.br (.v 19)
(.again 1 [.a (.v 10), .e (.o2 .nadd (.v 11) (.n 0)), .e (.o2 .nadd (.v 12) (.n 0)), .p [(.b (.v 7), .prop 14)], .p [(.a 10, .prop 13)]])
(.need (.o2 .lt (.i 0) (.o1 .ofNat (.v 16)))
(.need (.o1 .isSome (.v 15))
(.read (.load 3 (.tmp 28)) 3 [(28, .w (.a (.eptr 15 (.i 0) 16 4)))] [(.a 15, .prop 18)] [.i] (.w (.a (.int .i64 (.v 20))))
(.new
(.op (.call ⟨.builtin .append, #[.tmp 25, .tmp 30], #[60, 60]⟩) 60 [(25, .w (.a (.sl (.v 10) (.v 11) (.v 12)))), (30, .w (.a (.sl (.b (.v 21) 0) (.n 1) (.n 1))))] [(.a 10, .prop 13), (.b (.v 21), .cells [.int .i64 (.v 20)] 3)] [.a, .n, .n, .p] (.w (.a (.sl (.v 22) (.v 23) (.v 24)))) [(.a 22, .prop 25), (.b (.v 21), .cells [.int .i64 (.v 20)] 3)]
(.read (.load 3 (.tmp 35)) 3 [(35, .w (.a (.eptr 15 (.i 0) 16 1)))] [(.a 15, .prop 18)] [.i] (.w (.a (.int .i64 (.v 26))))
(.read (.load 3 (.tmp 39)) 3 [(39, .w (.a (.eptr 15 (.i 0) 16 4)))] [(.a 15, .prop 18)] [.i] (.w (.a (.int .i64 (.v 27))))
(.read (.load 3 (.tmp 43)) 3 [(43, .w (.a (.eptr 15 (.i 0) 16 5)))] [(.a 15, .prop 18)] [.i] (.w (.a (.int .i64 (.v 28))))
(.read (.load 3 (.tmp 47)) 3 [(47, .w (.a (.eptr 15 (.i 0) 16 6)))] [(.a 15, .prop 18)] [.i] (.w (.a (.int .i64 (.v 29))))
(.call 13 [.a (.ptr (.v 7) 0), .agg [.int .i64 (.v 26), .int .i64 (.i 0), .int .i64 (.i 0), .bool (.c true), .int .i64 (.v 27), .int .i64 (.v 28), .int .i64 (.v 29), .int .i64 (.i 0), .sl .nil (.n 0) (.n 0), .int .i64 (.i 0), .int .i64 (.i 0), .sl .nil (.n 0) (.n 0), .int .i64 (.i 0), .int .i64 (.i 4), .int .i64 (.i 0), .int .i64 (.i 0)]] [(.b (.v 7), .prop 14)] [.p] (.tup []) [(.b (.v 7), .prop 30)]
(.again 0 [.a (.v 22), .e (.o2 .nadd (.v 23) (.n 0)), .e (.o2 .nadd (.v 24) (.n 0)), .p [(.a 22, .prop 25)], .p [(.b (.v 7), .prop 30)]]))))))))))))))
(.again 1 [.a (.v 10), .e (.o2 .nadd (.v 11) (.n 0)), .e (.o2 .nadd (.v 12) (.n 0)), .p [(.b (.v 7), .prop 14)], .p [(.a 10, .prop 13)]])))
(.join [.c]
(.new
(.call 24 [.a (.sl (.v 10) (.v 11) (.v 12)), .a (.sl (.b (.v 15) 0) (.n 5) (.n 5))] [(.a 10, .prop 14), (.b (.v 15), .cells [.int .i64 (.i 4), .int .i64 (.i 6), .int .i64 (.i 7), .int .i64 (.i 4), .int .i64 (.i 9)] 3)] [.c] (.w (.a (.bool (.v 16)))) [(.a 10, .prop 14), (.b (.v 15), .cells [.int .i64 (.i 4), .int .i64 (.i 6), .int .i64 (.i 7), .int .i64 (.i 4), .int .i64 (.i 9)] 3)]
(.br (.v 16)
(.call 14 [.a (.ptr (.v 7) 0)] [(.b (.v 7), .prop 13)] [.i] (.w (.a (.int .i64 (.v 17)))) [(.b (.v 7), .prop 13)]
(.br (.o2 .eq (.v 17) (.i 5))
(.call 21 [.a (.ptr (.v 7) 0)] [(.b (.v 7), .prop 13)] [.i] (.w (.a (.int .i64 (.v 18)))) [(.b (.v 7), .prop 13)]
(.br (.o2 .eq (.v 18) (.i 4))
(.call 16 [.a (.ptr (.v 7) 0)] [(.b (.v 7), .prop 13)] [.i, .a, .n, .n, .p] (.w (.agg [.int .i64 (.v 19), .sl (.v 20) (.v 21) (.v 22)])) [(.a 20, .prop 23), (.b (.v 7), .prop 13)]
(.again 0 [.e (.o1 .not (.o1 .not (.o2 .eq (.v 19) (.i 1))))]))
(.again 0 [.e (.o1 .not (.o1 .not (.c false)))])))
(.again 0 [.e (.o1 .not (.o1 .not (.c false)))])))
(.again 0 [.e (.o1 .not (.o1 .not (.c false)))]))))
(.ret (.w (.a (.bool (.v 15)))) [])))))))
theorem tree_speaks18 : tree Tryz.prog { hv := [(0, [.b (.v 9), .b (.v 7)])], keep := [14, 16, 21, 11, 7, 24, 10, 15, 19, 17, 23, 22], link := [(27, 0)], turn := [(13, [0]), (18, [0]), (31, [0]), (20, [0]), (30, [0]), (12, [0])], outl := true, rdf := true, jn := [((3000018, 19), some { ss := [.c], n := 20, tv := [(18, none), (19, none), (20, none), (21, none), (22, none), (23, none), (24, some (.w (.a (.bool (.v 19)))))], h := [(.a 15, .prop 18), (.b (.v 7), .prop 14), (.a 10, .prop 13), (.a 1, .prop 4), (.b (.v 6), .cells [.int .i64 (.v 0), .sl (.v 1) (.v 2) (.v 3)] 25)], lk := [] }), ((1000000, 10), some { ss := [.a, .n, .n, .p, .p], n := 15, tv := [(13, none), (14, none), (15, none), (16, none), (17, none), (5, none), (18, none), (19, none), (20, none), (21, none), (22, none), (23, none), (24, none), (25, none), (26, none), (27, none), (28, none), (29, none), (30, none), (31, none), (4, some (.w (.a (.sl (.v 10) (.v 11) (.v 12))))), (32, none), (33, none), (34, none), (35, none), (36, none), (37, none), (38, none), (39, none), (40, none), (41, none), (42, none), (43, none), (44, none), (45, none), (46, none), (47, none), (48, none), (49, none), (50, none)], h := [(.b (.v 7), .prop 13), (.a 10, .prop 14), (.a 1, .prop 4), (.b (.v 6), .cells [.int .i64 (.v 0), .sl (.v 1) (.v 2) (.v 3)] 25)], lk := [] }), ((3000051, 15), some { ss := [.c], n := 16, tv := [(51, none), (52, none), (53, none), (54, none), (55, none), (56, none), (57, none), (58, none), (59, none), (60, none), (61, none), (62, none), (63, none), (64, none), (65, none), (66, none), (67, none), (68, none), (69, none), (0, some (.w (.a (.bool (.v 15)))))], h := [(.b (.v 7), .prop 13), (.a 10, .prop 14), (.a 1, .prop 4), (.b (.v 6), .cells [.int .i64 (.v 0), .sl (.v 1) (.v 2) (.v 3)] 25)], lk := [] })] } Tryz.f6 [] [] 0 = t_speaks18 := by kernel_rfl
def t_laid18 : T :=
(.call 25 [] [] [.n, .p] (.w (.a (.ptr (.v 1) 0))) [(.b (.v 1), .prop 2)]
(.new
(.loop [.v, .p, .i, .a, .n, .n, .p, .n, .p] [.v .nilp, .p [], .e (.o1 .neg (.o1 .neg (.i 0))), .a .nil, .e (.o2 .nadd (.n 0) (.n 0)), .e (.o2 .nadd (.n 0) (.n 0)), .p [], .n (.v 1), .p [(.b (.v 1), .prop 2)]]
(.br (.o2 .lt (.v 6) (.v 0))
(.call 26 [.a (.int .i64 (.i 900))] [] [.n, .p, .i] (.tup [.a (.ptr (.v 13) 0), .a (.int .i64 (.v 15))]) [(.b (.v 13), .prop 14)]
(.br (.o1 .not (.o2 .eq (.v 15) (.i 0)))
(.ret (.w (.a .nilp)) [])
(.call 27 [.a (.ptr (.v 13) 0)] [(.b (.v 13), .prop 14)] [.n, .p, .i, .p] (.tup [.a (.ptr (.v 16) 0), .a (.int .i64 (.v 18))]) [(.b (.v 16), .prop 17), (.b (.v 13), .prop 19)]
(.br (.o1 .not (.o2 .eq (.v 18) (.i 0)))
(.ret (.w (.a .nilp)) [])
(.new
(.op (.call ⟨.builtin .append, #[.tmp 42, .tmp 44], #[49, 49]⟩) 49 [(42, .w (.a (.sl (.v 7) (.v 8) (.v 9)))), (44, .w (.a (.sl (.b (.v 20) 0) (.n 1) (.n 1))))] [(.a 7, .prop 10), (.b (.v 20), .cells [.ptr (.v 16) 0] 62), (.b (.v 16), .prop 17), (.b (.v 13), .prop 19)] [.a, .n, .n, .p] (.w (.a (.sl (.v 21) (.v 22) (.v 23)))) [(.a 21, .prop 24)]
(.need (.o1 (.inr .i64) (.o2 .add (.v 6) (.i 1)))
(.again 0 [.v (.val 4), .p [(.a 4, .prop 5)], .e (.o1 .neg (.o1 .neg (.o2 .add (.v 6) (.i 1)))), .a (.v 21), .e (.o2 .nadd (.v 22) (.n 0)), .e (.o2 .nadd (.v 23) (.n 0)), .p [(.a 21, .prop 24)], .n (.v 11), .p [(.b (.v 11), .prop 12)]]))))))))
(.ret (.w (.a (.ptr (.v 3) 0))) [(.b (.v 3), .cells [.sl (.v 7) (.v 8) (.v 9), .ptr (.v 11) 0] 52), (.a 7, .prop 10), (.b (.v 11), .prop 12)])))))
theorem tree_laid18 : tree Tryz.prog { hv := [(0, [.b (.v 1), .b (.v 3)])], keep := [14, 16, 21, 11, 7, 24, 10, 15, 19, 17, 23, 22], link := [(27, 0)], turn := [(13, [0]), (18, [0]), (31, [0]), (20, [0]), (30, [0]), (12, [0])], outl := true, rdf := true } Tryz.f8 [.a (.int .i64 (.v 0))] [] 1 = t_laid18 := by kernel_rfl
def t_ask18 : T :=
(.new
(.new
(.br (.o2 .eq (.v 3) (.i 7))
(.read (.load 50 (.tmp 11)) 50 [(11, .w (.a (.ptr (.v 0) 1)))] [(.b (.v 0), .prop 1)] [.v] (.w (.a (.val 26)))
(.call 30 [.a (.val 26), .agg [.int .i64 (.v 2), .int .i64 (.v 3), .int .i64 (.v 4), .bool (.v 5), .int .i64 (.v 6), .int .i64 (.v 7), .int .i64 (.v 8), .int .i64 (.v 9), .sl (.v 10) (.v 11) (.v 12), .int .i64 (.v 14), .int .i64 (.v 15), .sl (.v 16) (.v 17) (.v 18), .int .i64 (.v 20), .int .i64 (.v 21), .int .i64 (.v 22), .int .i64 (.v 23)]] [(.b (.v 0), .prop 1), (.a 10, .prop 13), (.a 16, .prop 19)] [.i, .i, .i, .c, .i, .i, .i, .i, .a, .n, .n, .p, .i, .i, .a, .n, .n, .p, .i, .i, .i, .i, .c, .p, .p, .p] (.tup [.agg [.int .i64 (.v 27), .int .i64 (.v 28), .int .i64 (.v 29), .bool (.v 30), .int .i64 (.v 31), .int .i64 (.v 32), .int .i64 (.v 33), .int .i64 (.v 34), .sl (.v 35) (.v 36) (.v 37), .int .i64 (.v 39), .int .i64 (.v 40), .sl (.v 41) (.v 42) (.v 43), .int .i64 (.v 45), .int .i64 (.v 46), .int .i64 (.v 47), .int .i64 (.v 48)], .a (.bool (.v 49))]) [(.a 35, .prop 38), (.a 41, .prop 44), (.b (.v 0), .prop 50), (.a 10, .prop 51), (.a 16, .prop 52)]
(.ret (.tup [.agg [.int .i64 (.v 27), .int .i64 (.v 28), .int .i64 (.v 29), .bool (.v 30), .int .i64 (.v 31), .int .i64 (.v 32), .int .i64 (.v 33), .int .i64 (.v 34), .sl (.v 35) (.v 36) (.v 37), .int .i64 (.v 39), .int .i64 (.v 40), .sl (.v 41) (.v 42) (.v 43), .int .i64 (.v 45), .int .i64 (.v 46), .int .i64 (.v 47), .int .i64 (.v 48)], .a (.bool (.v 49))]) [(.b (.v 0), .prop 50), (.a 10, .prop 51), (.a 16, .prop 52), (.a 35, .prop 38), (.a 41, .prop 44)])))
(.br (.o2 .lt (.v 3) (.i 0))
(.ret (.tup [.agg [.int .i64 (.i 0), .int .i64 (.i 0), .int .i64 (.i 0), .bool (.c false), .int .i64 (.i 0), .int .i64 (.i 0), .int .i64 (.i 0), .int .i64 (.i 0), .sl .nil (.n 0) (.n 0), .int .i64 (.i 0), .int .i64 (.i 0), .sl .nil (.n 0) (.n 0), .int .i64 (.i 0), .int .i64 (.i 0), .int .i64 (.i 0), .int .i64 (.i 0)], .a (.bool (.c false))]) [(.b (.v 0), .prop 1), (.a 10, .prop 13), (.a 16, .prop 19)])
(.read (.load 49 (.tmp 25)) 49 [(25, .w (.a (.ptr (.v 0) 0)))] [(.b (.v 0), .prop 1)] [.a, .n, .n] (.w (.a (.sl (.v 26) (.v 27) (.v 28))))
(.br (.o2 .le (.o1 .ofNat (.v 27)) (.v 3))
(.ret (.tup [.agg [.int .i64 (.i 0), .int .i64 (.i 0), .int .i64 (.i 0), .bool (.c false), .int .i64 (.i 0), .int .i64 (.i 0), .int .i64 (.i 0), .int .i64 (.i 0), .sl .nil (.n 0) (.n 0), .int .i64 (.i 0), .int .i64 (.i 0), .sl .nil (.n 0) (.n 0), .int .i64 (.i 0), .int .i64 (.i 0), .int .i64 (.i 0), .int .i64 (.i 0)], .a (.bool (.c false))]) [(.b (.v 0), .prop 1), (.a 10, .prop 13), (.a 16, .prop 19)])
(.read (.load 49 (.tmp 33)) 49 [(33, .w (.a (.ptr (.v 0) 0)))] [(.b (.v 0), .prop 1)] [.a, .n, .n] (.w (.a (.sl (.v 29) (.v 30) (.v 31))))
(.need (.o2 .le (.i 0) (.v 3))
(.need (.o2 .lt (.v 3) (.o1 .ofNat (.v 30)))
(.need (.o1 .isSome (.v 29))
(.read (.load 62 (.tmp 37)) 62 [(37, .w (.a (.eptr 29 (.v 3) 1 0)))] [(.b (.v 0), .prop 1)] [.v] (.w (.a (.val 32)))
(.call 31 [.a (.val 32), .agg [.int .i64 (.v 2), .int .i64 (.v 3), .int .i64 (.v 4), .bool (.v 5), .int .i64 (.v 6), .int .i64 (.v 7), .int .i64 (.v 8), .int .i64 (.v 9), .sl (.v 10) (.v 11) (.v 12), .int .i64 (.v 14), .int .i64 (.v 15), .sl (.v 16) (.v 17) (.v 18), .int .i64 (.v 20), .int .i64 (.v 21), .int .i64 (.v 22), .int .i64 (.v 23)]] [(.b (.v 0), .prop 1), (.a 10, .prop 13), (.a 16, .prop 19)] [.i, .i, .i, .c, .i, .i, .i, .i, .a, .n, .n, .p, .i, .i, .a, .n, .n, .p, .i, .i, .i, .i, .c, .p, .p, .p] (.tup [.agg [.int .i64 (.v 33), .int .i64 (.v 34), .int .i64 (.v 35), .bool (.v 36), .int .i64 (.v 37), .int .i64 (.v 38), .int .i64 (.v 39), .int .i64 (.v 40), .sl (.v 41) (.v 42) (.v 43), .int .i64 (.v 45), .int .i64 (.v 46), .sl (.v 47) (.v 48) (.v 49), .int .i64 (.v 51), .int .i64 (.v 52), .int .i64 (.v 53), .int .i64 (.v 54)], .a (.bool (.v 55))]) [(.a 41, .prop 44), (.a 47, .prop 50), (.b (.v 0), .prop 56), (.a 10, .prop 57), (.a 16, .prop 58)]
(.ret (.tup [.agg [.int .i64 (.v 33), .int .i64 (.v 34), .int .i64 (.v 35), .bool (.v 36), .int .i64 (.v 37), .int .i64 (.v 38), .int .i64 (.v 39), .int .i64 (.v 40), .sl (.v 41) (.v 42) (.v 43), .int .i64 (.v 45), .int .i64 (.v 46), .sl (.v 47) (.v 48) (.v 49), .int .i64 (.v 51), .int .i64 (.v 52), .int .i64 (.v 53), .int .i64 (.v 54)], .a (.bool (.v 55))]) [(.b (.v 0), .prop 56), (.a 10, .prop 57), (.a 16, .prop 58), (.a 41, .prop 44), (.a 47, .prop 50)])))))))))))))
theorem tree_ask18 : tree Tryz.prog { opq := [62, 50], keep := [14, 16, 21, 11, 7, 24, 10, 15, 19, 17, 23, 22], link := [(27, 0)], turn := [(13, [0]), (18, [0]), (12, [0])], outl := true, opn := true, rdf := true, peek := [62, 50] } Tryz.f12 [.a (.ptr (.v 0) 0), .agg [.int .i64 (.v 2), .int .i64 (.v 3), .int .i64 (.v 4), .bool (.v 5), .int .i64 (.v 6), .int .i64 (.v 7), .int .i64 (.v 8), .int .i64 (.v 9), .sl (.v 10) (.v 11) (.v 12), .int .i64 (.v 14), .int .i64 (.v 15), .sl (.v 16) (.v 17) (.v 18), .int .i64 (.v 20), .int .i64 (.v 21), .int .i64 (.v 22), .int .i64 (.v 23)]] [(.b (.v 0), .prop 1), (.a 10, .prop 13), (.a 16, .prop 19)] 24 = t_ask18 := by kernel_rfl
def t_advEnds : T :=
(.call 6 [] [] [.c] (.w (.a (.bool (.v 9)))) []
(.br (.o1 .not (.v 9))
(.ret (.w (.a (.bool (.c false)))) [(.a 1, .prop 4), (.a 5, .prop 8)])
(.join [.c]
(.br (.o2 .lt (.i 100) (.o1 .ofNat (.v 2)))
(.again 0 [.e (.o1 .not (.o1 .not (.c true)))])
(.again 0 [.e (.o1 .not (.o1 .not (.o2 .lt (.i 30) (.o1 .ofNat (.v 6)))))]))
(.br (.v 10)
(.ret (.w (.a (.bool (.c true)))) [(.a 1, .prop 4), (.a 5, .prop 8)])
(.need (.o1 (.inr .i64) (.o2 .add (.o2 (.bit .and .i64) (.v 0) (.i 3)) (.i 1)))
(.call 7 [.a (.int .i64 (.o2 .add (.o2 (.bit .and .i64) (.v 0) (.i 3)) (.i 1))), .a (.int .i64 (.i 1))] [] [.i, .a, .n, .n, .p, .i] (.tup [.agg [.int .i64 (.v 11), .sl (.v 12) (.v 13) (.v 14)], .a (.int .i64 (.v 16))]) [(.a 12, .prop 15)]
(.new
(.call 8 [.a (.int .i64 (.o2 .add (.o2 (.bit .and .i64) (.v 0) (.i 3)) (.i 1)))] [] [.n, .p] (.w (.a (.ptr (.v 18) 0))) [(.b (.v 18), .prop 19)]
(.join [.c]
(.br (.o1 .not (.o2 .eq (.v 16) (.i 0)))
(.again 0 [.e (.o1 .not (.o1 .not (.c true)))])
(.again 0 [.e (.o1 .not (.o1 .not (.c false)))]))
(.br (.v 20)
(.ret (.w (.a (.bool (.c false)))) [(.a 1, .prop 4), (.a 5, .prop 8)])
(.loop [.i, .i, .p] [.e (.o1 .neg (.o1 .neg (.i 0))), .e (.o1 .neg (.o1 .neg (.i 0))), .p [(.b (.v 18), .prop 19)]]
(.br (.o2 .lt (.v 22) (.o1 .ofNat (.v 6)))
(.need (.o2 .le (.i 0) (.v 22))
(.need (.o1 .isSome (.v 5))
(.read (.load 3 (.tmp 59)) 3 [(59, .w (.a (.eptr 5 (.v 22) 1 0)))] [(.a 5, .prop 8)] [.i] (.w (.a (.int .i64 (.v 24))))
(.read (.load 49 (.tmp 65)) 49 [(65, .w (.a (.ptr (.v 18) 0)))] [(.b (.v 18), .prop 23)] [.a, .n, .n] (.w (.a (.sl (.v 25) (.v 26) (.v 27))))
(.loop [.i, .p] [.e (.o1 .neg (.o1 .neg (.i 0))), .p [(.b (.v 18), .prop 23)]]
(.br (.o2 .lt (.v 28) (.o1 .ofNat (.v 26)))
(.need (.o2 .le (.i 0) (.v 28))
(.need (.o1 .isSome (.v 25))
(.read (.load 62 (.tmp 70)) 62 [(70, .w (.a (.eptr 25 (.v 28) 1 0)))] [(.b (.v 18), .prop 29)] [.v] (.w (.a (.val 30)))
(.call 20 [.a (.val 30), .a (.int .i64 (.i 0)), .a (.int .i64 (.o2 (.bit .and .i64) (.v 24) (.i 63))), .agg [.int .i64 (.i 2), .sl .nil (.n 0) (.n 0)]] [(.b (.v 18), .prop 29)] [.i, .a, .n, .n, .p, .i, .p] (.tup [.agg [.int .i64 (.v 31), .sl (.v 32) (.v 33) (.v 34)], .a (.int .i64 (.v 36))]) [(.a 32, .prop 35), (.b (.v 18), .prop 37)]
(.need (.o1 (.inr .i64) (.o2 .add (.v 28) (.i 1)))
(.again 0 [.e (.o1 .neg (.o1 .neg (.o2 .add (.v 28) (.i 1)))), .p [(.b (.v 18), .prop 37)]]))))))
(.need (.o1 (.inr .i64) (.o2 .add (.o2 (.bit .and .i64) (.v 24) (.i 63)) (.i 1)))
(.need (.o1 (.inr .i64) (.o2 .add (.v 22) (.i 1)))
(.again 1 [.e (.o1 .neg (.o1 .neg (.o2 .mx (.v 21) (.o2 .add (.o2 (.bit .and .i64) (.v 24) (.i 63)) (.i 1))))), .e (.o1 .neg (.o1 .neg (.o2 .add (.v 22) (.i 1)))), .p [(.b (.v 18), .prop 29)]])))))))))
(.call 10 [.agg [.int .i64 (.v 11), .sl (.v 12) (.v 13) (.v 14)], .a (.int .i64 (.o2 .add (.o2 (.bit .and .i64) (.v 0) (.i 3)) (.i 1))), .a (.int .i64 (.i 1))] [(.a 12, .prop 15)] [.n, .p] (.w (.a (.ptr (.v 24) 0))) [(.b (.v 24), .prop 25), (.a 12, .prop 15)]
(.loop [.i, .p, .p] [.e (.o1 .neg (.o1 .neg (.i 0))), .p [(.b (.v 24), .prop 25)], .p [(.b (.v 18), .prop 23)]]
(.br (.o2 .lt (.v 26) (.o1 .ofNat (.v 2)))
(.need (.o2 .le (.i 0) (.v 26))
(.need (.o1 .isSome (.v 1))
(.read (.load 58 (.tmp 89)) 58 [(89, .w (.a (.eptr 1 (.v 26) 4 0)))] [(.a 1, .prop 4)] [.i, .i, .c, .c] (.w (.agg [.int .i64 (.v 29), .int .i64 (.v 30), .bool (.v 31), .bool (.v 32)]))
(.new
(.join [.p, .p]
(.br (.v 32)
(.call 18 [.a (.ptr (.v 24) 0)] [(.b (.v 24), .prop 27)] [.p] (.tup []) [(.b (.v 24), .prop 34)]
(.again 0 [.p [(.b (.v 24), .prop 34)], .p [(.b (.v 18), .prop 28)]]))
(.call 11 [.a (.ptr (.v 24) 0)] [(.b (.v 24), .prop 27)] [.a, .n, .n, .p] (.w (.a (.sl (.v 34) (.v 35) (.v 36)))) [(.a 34, .prop 37), (.b (.v 24), .prop 27)]
(.join [.p, .p]
(.br (.o2 .lt (.i 0) (.o1 .ofNat (.v 35)))
(.need (.o1 .not (.o2 .eq (.o1 .ofNat (.v 35)) (.i 0)))
(.need (.o2 .le (.i 0) (.o2 .rem (.o2 (.bit .and .i64) (.v 30) (.i 65535)) (.o1 .ofNat (.v 35))))
(.need (.o2 .lt (.o2 .rem (.o2 (.bit .and .i64) (.v 30) (.i 65535)) (.o1 .ofNat (.v 35))) (.o1 .ofNat (.v 35)))
(.need (.o1 .isSome (.v 34))
(.read (.load 41 (.tmp 109)) 41 [(109, .w (.a (.eptr 34 (.o2 .rem (.o2 (.bit .and .i64) (.v 30) (.i 65535)) (.o1 .ofNat (.v 35))) 16 0)))] [(.a 34, .prop 37)] [.i, .i, .i, .c, .i, .i, .i, .i, .a, .n, .n, .i, .i, .a, .n, .n, .i, .i, .i, .i] (.w (.agg [.int .i64 (.v 38), .int .i64 (.v 39), .int .i64 (.v 40), .bool (.v 41), .int .i64 (.v 42), .int .i64 (.v 43), .int .i64 (.v 44), .int .i64 (.v 45), .sl (.v 46) (.v 47) (.v 48), .int .i64 (.v 49), .int .i64 (.v 50), .sl (.v 51) (.v 52) (.v 53), .int .i64 (.v 54), .int .i64 (.v 55), .int .i64 (.v 56), .int .i64 (.v 57)]))
(.call 12 [.a (.ptr (.v 18) 0), .agg [.int .i64 (.v 38), .int .i64 (.v 39), .int .i64 (.v 40), .bool (.v 41), .int .i64 (.v 42), .int .i64 (.v 43), .int .i64 (.v 44), .int .i64 (.v 45), .sl (.v 46) (.v 47) (.v 48), .int .i64 (.v 49), .int .i64 (.v 50), .sl (.v 51) (.v 52) (.v 53), .int .i64 (.v 54), .int .i64 (.v 55), .int .i64 (.v 56), .int .i64 (.v 57)]] [(.b (.v 18), .prop 28), (.a 34, .prop 37)] [.i, .i, .i, .c, .i, .i, .i, .i, .a, .n, .n, .p, .i, .i, .a, .n, .n, .p, .i, .i, .i, .i, .c, .p] (.tup [.agg [.int .i64 (.v 58), .int .i64 (.v 59), .int .i64 (.v 60), .bool (.v 61), .int .i64 (.v 62), .int .i64 (.v 63), .int .i64 (.v 64), .int .i64 (.v 65), .sl (.v 66) (.v 67) (.v 68), .int .i64 (.v 70), .int .i64 (.v 71), .sl (.v 72) (.v 73) (.v 74), .int .i64 (.v 76), .int .i64 (.v 77), .int .i64 (.v 78), .int .i64 (.v 79)], .a (.bool (.v 80))]) [(.a 66, .prop 69), (.a 72, .prop 75), (.b (.v 18), .prop 81), (.a 34, .prop 37)]
(.new
(.join [.c]
(.br (.v 80)
(.again 0 [.e (.o1 .not (.o1 .not (.v 31)))])
(.again 0 [.e (.o1 .not (.o1 .not (.c false)))]))
(.join [.p]
(.br (.v 83)
(.call 13 [.a (.ptr (.v 24) 0), .agg [.int .i64 (.v 58), .int .i64 (.v 59), .int .i64 (.v 60), .bool (.v 61), .int .i64 (.v 62), .int .i64 (.v 63), .int .i64 (.v 64), .int .i64 (.v 65), .sl (.v 66) (.v 67) (.v 68), .int .i64 (.v 70), .int .i64 (.v 71), .sl (.v 72) (.v 73) (.v 74), .int .i64 (.v 76), .int .i64 (.v 77), .int .i64 (.v 78), .int .i64 (.v 79)]] [(.b (.v 24), .prop 27), (.a 66, .prop 69), (.a 72, .prop 75)] [.p] (.tup []) [(.b (.v 24), .prop 84), (.a 66, .prop 69), (.a 72, .prop 75)]
(.again 0 [.p [(.b (.v 24), .prop 84)]]))
(.again 0 [.p [(.b (.v 24), .prop 27)]]))
(.again 0 [.p [(.b (.v 24), .prop 84)], .p [(.b (.v 18), .prop 81)]]))))))))))
(.again 0 [.p [(.b (.v 24), .prop 27)], .p [(.b (.v 18), .prop 28)]]))
(.again 0 [.p [(.b (.v 24), .prop 38)], .p [(.b (.v 18), .prop 39)]]))))
(.need (.o1 (.inr .i64) (.o2 .add (.v 26) (.i 1)))
(.again 0 [.e (.o1 .neg (.o1 .neg (.o2 .add (.v 26) (.i 1)))), .p [(.b (.v 24), .prop 34)], .p [(.b (.v 18), .prop 35)]])))))))
(.call 10 [.agg [.int .i64 (.v 11), .sl (.v 12) (.v 13) (.v 14)], .a (.int .i64 (.o2 .add (.o2 (.bit .and .i64) (.v 0) (.i 3)) (.i 1))), .a (.int .i64 (.i 2))] [(.a 12, .prop 15)] [.n, .p] (.w (.a (.ptr (.v 29) 0))) [(.b (.v 29), .prop 30), (.a 12, .prop 15)]
(.join [.c, .i, .p, .p]
(.loop [.c, .i, .p, .p] [.e (.o1 .not (.o1 .not (.c false))), .e (.o1 .neg (.o1 .neg (.i 0))), .p [(.b (.v 29), .prop 30)], .p [(.b (.v 18), .prop 28)]]
(.need (.o1 (.inr .i64) (.o2 .mul (.i 40) (.o2 .add (.o2 (.bit .and .i64) (.v 0) (.i 3)) (.i 1))))
(.need (.o1 (.inr .i64) (.o2 .add (.o2 .mul (.i 40) (.o2 .add (.o2 (.bit .and .i64) (.v 0) (.i 3)) (.i 1))) (.i 200)))
(.br (.o2 .lt (.v 32) (.o2 .add (.o2 .mul (.i 40) (.o2 .add (.o2 (.bit .and .i64) (.v 0) (.i 3)) (.i 1))) (.i 200)))
(.call 11 [.a (.ptr (.v 29) 0)] [(.b (.v 29), .prop 33)] [.a, .n, .n, .p] (.w (.a (.sl (.v 35) (.v 36) (.v 37)))) [(.a 35, .prop 38), (.b (.v 29), .prop 33)]
(.br (.o2 .eq (.o1 .ofNat (.v 36)) (.i 0))
(.again 1 [.e (.o1 .not (.o1 .not (.v 31))), .e (.o1 .neg (.o1 .neg (.v 32))), .p [(.b (.v 29), .prop 33)], .p [(.b (.v 18), .prop 34)]])
(.need (.o2 .le (.i 0) (.o2 .rem (.v 32) (.o1 .ofNat (.v 36))))
(.need (.o2 .lt (.o2 .rem (.v 32) (.o1 .ofNat (.v 36))) (.o1 .ofNat (.v 36)))
(.need (.o1 .isSome (.v 35))
(.read (.load 41 (.tmp 145)) 41 [(145, .w (.a (.eptr 35 (.o2 .rem (.v 32) (.o1 .ofNat (.v 36))) 16 0)))] [(.a 35, .prop 38)] [.i, .i, .i, .c, .i, .i, .i, .i, .a, .n, .n, .i, .i, .a, .n, .n, .i, .i, .i, .i] (.w (.agg [.int .i64 (.v 39), .int .i64 (.v 40), .int .i64 (.v 41), .bool (.v 42), .int .i64 (.v 43), .int .i64 (.v 44), .int .i64 (.v 45), .int .i64 (.v 46), .sl (.v 47) (.v 48) (.v 49), .int .i64 (.v 50), .int .i64 (.v 51), .sl (.v 52) (.v 53) (.v 54), .int .i64 (.v 55), .int .i64 (.v 56), .int .i64 (.v 57), .int .i64 (.v 58)]))
(.call 12 [.a (.ptr (.v 18) 0), .agg [.int .i64 (.v 39), .int .i64 (.v 40), .int .i64 (.v 41), .bool (.v 42), .int .i64 (.v 43), .int .i64 (.v 44), .int .i64 (.v 45), .int .i64 (.v 46), .sl (.v 47) (.v 48) (.v 49), .int .i64 (.v 50), .int .i64 (.v 51), .sl (.v 52) (.v 53) (.v 54), .int .i64 (.v 55), .int .i64 (.v 56), .int .i64 (.v 57), .int .i64 (.v 58)]] [(.b (.v 18), .prop 34), (.a 35, .prop 38)] [.i, .i, .i, .c, .i, .i, .i, .i, .a, .n, .n, .p, .i, .i, .a, .n, .n, .p, .i, .i, .i, .i, .c, .p] (.tup [.agg [.int .i64 (.v 59), .int .i64 (.v 60), .int .i64 (.v 61), .bool (.v 62), .int .i64 (.v 63), .int .i64 (.v 64), .int .i64 (.v 65), .int .i64 (.v 66), .sl (.v 67) (.v 68) (.v 69), .int .i64 (.v 71), .int .i64 (.v 72), .sl (.v 73) (.v 74) (.v 75), .int .i64 (.v 77), .int .i64 (.v 78), .int .i64 (.v 79), .int .i64 (.v 80)], .a (.bool (.v 81))]) [(.a 67, .prop 70), (.a 73, .prop 76), (.b (.v 18), .prop 82), (.a 35, .prop 38)]
(.new
(.br (.o1 .not (.v 81))
(.ret (.w (.a (.bool (.c false)))) [(.a 1, .prop 4), (.a 5, .prop 8)])
(.call 13 [.a (.ptr (.v 29) 0), .agg [.int .i64 (.v 59), .int .i64 (.v 60), .int .i64 (.v 61), .bool (.v 62), .int .i64 (.v 63), .int .i64 (.v 64), .int .i64 (.v 65), .int .i64 (.v 66), .sl (.v 67) (.v 68) (.v 69), .int .i64 (.v 71), .int .i64 (.v 72), .sl (.v 73) (.v 74) (.v 75), .int .i64 (.v 77), .int .i64 (.v 78), .int .i64 (.v 79), .int .i64 (.v 80)]] [(.b (.v 29), .prop 33), (.a 67, .prop 70), (.a 73, .prop 76)] [.p] (.tup []) [(.b (.v 29), .prop 84), (.a 67, .prop 70), (.a 73, .prop 76)]
(.need (.o1 (.inr .i64) (.o2 .add (.v 32) (.i 1)))
(.again 0 [.e (.o1 .not (.o1 .not (.v 31))), .e (.o1 .neg (.o1 .neg (.o2 .add (.v 32) (.i 1)))), .p [(.b (.v 29), .prop 84)], .p [(.b (.v 18), .prop 82)]]))))))))))))
(.again 1 [.e (.o1 .not (.o1 .not (.v 31))), .e (.o1 .neg (.o1 .neg (.v 32))), .p [(.b (.v 29), .prop 33)], .p [(.b (.v 18), .prop 34)]])))))
(.join [.c]
(.call 14 [.a (.ptr (.v 29) 0)] [(.b (.v 29), .prop 33)] [.i] (.w (.a (.int .i64 (.v 35)))) [(.b (.v 29), .prop 33)]
(.br (.o1 .not (.o2 .eq (.v 35) (.i 5)))
(.again 0 [.e (.o1 .not (.o1 .not (.c true)))])
(.call 16 [.a (.ptr (.v 29) 0)] [(.b (.v 29), .prop 33)] [.i, .a, .n, .n, .p] (.w (.agg [.int .i64 (.v 36), .sl (.v 37) (.v 38) (.v 39)])) [(.a 37, .prop 40), (.b (.v 29), .prop 33)]
(.br (.o1 .not (.o2 .eq (.v 36) (.i 1)))
(.again 0 [.e (.o1 .not (.o1 .not (.c true)))])
(.call 21 [.a (.ptr (.v 29) 0)] [(.b (.v 29), .prop 33)] [.i] (.w (.a (.int .i64 (.v 41)))) [(.b (.v 29), .prop 33)]
(.again 0 [.e (.o1 .not (.o1 .not (.o2 .lt (.v 41) (.v 21))))]))))))
(.br (.v 35)
(.ret (.w (.a (.bool (.c false)))) [(.a 1, .prop 4), (.a 5, .prop 8)])
(.read (.load 49 (.tmp 172)) 49 [(172, .w (.a (.ptr (.v 18) 0)))] [(.b (.v 18), .prop 34)] [.a, .n, .n] (.w (.a (.sl (.v 36) (.v 37) (.v 38))))
(.loop [.c, .i] [.e (.o1 .not (.o1 .not (.v 31))), .e (.o1 .neg (.o1 .neg (.i 0)))]
(.br (.o2 .lt (.v 40) (.o1 .ofNat (.v 37)))
(.need (.o2 .le (.i 0) (.v 40))
(.need (.o1 .isSome (.v 36))
(.read (.load 62 (.tmp 177)) 62 [(177, .w (.a (.eptr 36 (.v 40) 1 0)))] [(.b (.v 18), .prop 34)] [.v] (.w (.a (.val 41)))
(.call 22 [.a (.val 41)] [(.b (.v 18), .prop 34)] [.i] (.w (.a (.int .i64 (.v 42)))) [(.b (.v 18), .prop 34)]
(.br (.o1 .not (.o2 .eq (.v 42) (.i 1)))
(.ret (.w (.a (.bool (.c false)))) [(.a 1, .prop 4), (.a 5, .prop 8)])
(.need (.o1 (.inr .i64) (.o2 .add (.v 40) (.i 1)))
(.again 0 [.e (.o1 .not (.o1 .not (.v 39))), .e (.o1 .neg (.o1 .neg (.o2 .add (.v 40) (.i 1))))])))))))
(.join [.c]
(.read (.load 50 (.tmp 185)) 50 [(185, .w (.a (.ptr (.v 18) 1)))] [(.b (.v 18), .prop 34)] [.v] (.w (.a (.val 41)))
(.call 17 [.a (.val 41)] [(.b (.v 18), .prop 34)] [.i] (.w (.a (.int .i64 (.v 42)))) [(.b (.v 18), .prop 34)]
(.br (.o2 .eq (.v 42) (.i 1))
(.read (.load 50 (.tmp 192)) 50 [(192, .w (.a (.ptr (.v 18) 1)))] [(.b (.v 18), .prop 34)] [.v] (.w (.a (.val 43)))
(.call 23 [.a (.val 43)] [(.b (.v 18), .prop 34)] [.i] (.w (.a (.int .i64 (.v 44)))) [(.b (.v 18), .prop 34)]
(.again 0 [.e (.o1 .not (.o1 .not (.o2 .le (.v 21) (.v 44))))])))
(.again 0 [.e (.o1 .not (.o1 .not (.c false)))]))))
(.ret (.w (.a (.bool (.v 41)))) [(.a 1, .prop 4), (.a 5, .prop 8)]))))))))))))))))))))))))
theorem tree_advEnds : tree Tryz.prog { opq := [62, 50], hv := [(0, [.b (.v 18)]), (2, [.b (.v 18)]), (4, [.b (.v 24), .b (.v 18)]), (6, [.b (.v 29), .b (.v 18)])], keep := [14, 16, 21, 11, 7, 24, 10, 15, 19, 17, 23, 22], link := [(27, 0)], turn := [(13, [0]), (18, [0]), (12, [0])], outl := true, opn := true, rdf := true, peek := [62, 50], jn := [((3000031, 10), some { ss := [.c], n := 11, tv := [(31, none), (32, none), (33, none), (34, none), (35, none), (36, none), (37, none), (38, some (.w (.a (.bool (.v 10)))))], h := [(.a 1, .prop 4), (.a 5, .prop 8)], lk := [] }), ((3000049, 20), some { ss := [.c], n := 21, tv := [(49, none), (50, none), (51, none), (52, none), (53, none), (54, some (.w (.a (.bool (.v 20)))))], h := [(.b (.v 18), .prop 19), (.b (.v 17), .cells [.int .i64 (.v 11), .sl (.v 12) (.v 13) (.v 14)] 25), (.a 12, .prop 15), (.a 1, .prop 4), (.a 5, .prop 8)], lk := [] }), ((3000114, 83), some { ss := [.c], n := 84, tv := [(114, none), (115, none), (116, none), (117, none), (118, some (.w (.a (.bool (.v 83)))))], h := [(.b (.v 82), .cells [.int .i64 (.v 58), .int .i64 (.v 59), .int .i64 (.v 60), .bool (.v 61), .int .i64 (.v 62), .int .i64 (.v 63), .int .i64 (.v 64), .int .i64 (.v 65), .sl (.v 66) (.v 67) (.v 68), .int .i64 (.v 70), .int .i64 (.v 71), .sl (.v 72) (.v 73) (.v 74), .int .i64 (.v 76), .int .i64 (.v 77), .int .i64 (.v 78), .int .i64 (.v 79)] 41), (.a 66, .prop 69), (.a 72, .prop 75), (.b (.v 18), .prop 81), (.a 34, .prop 37), (.b (.v 24), .prop 27), (.b (.v 33), .cells [.int .i64 (.v 29), .int .i64 (.v 30), .bool (.v 31), .bool (.v 32)] 58), (.a 12, .prop 15), (.b (.v 17), .cells [.int .i64 (.v 11), .sl (.v 12) (.v 13) (.v 14)] 25), (.a 1, .prop 4), (.a 5, .prop 8)], lk := [] }), ((2000118, 84), some { ss := [.p], n := 85, tv := [(119, none), (120, none), (121, none)], h := [(.b (.v 24), .prop 84), (.a 66, .prop 69), (.a 72, .prop 75), (.b (.v 82), .cells [.int .i64 (.v 58), .int .i64 (.v 59), .int .i64 (.v 60), .bool (.v 61), .int .i64 (.v 62), .int .i64 (.v 63), .int .i64 (.v 64), .int .i64 (.v 65), .sl (.v 66) (.v 67) (.v 68), .int .i64 (.v 70), .int .i64 (.v 71), .sl (.v 72) (.v 73) (.v 74), .int .i64 (.v 76), .int .i64 (.v 77), .int .i64 (.v 78), .int .i64 (.v 79)] 41), (.b (.v 18), .prop 81), (.a 34, .prop 37), (.b (.v 33), .cells [.int .i64 (.v 29), .int .i64 (.v 30), .bool (.v 31), .bool (.v 32)] 58), (.a 12, .prop 15), (.b (.v 17), .cells [.int .i64 (.v 11), .sl (.v 12) (.v 13) (.v 14)] 25), (.a 1, .prop 4), (.a 5, .prop 8)], lk := [] }), ((2000099, 38), some { ss := [.p, .p], n := 40, tv := [(101, none), (102, none), (103, none), (104, none), (105, none), (106, none), (107, none), (108, none), (109, none), (110, none), (111, none), (100, none), (112, none), (113, none), (20, none), (21, none), (114, none), (115, none), (116, none), (117, none), (118, none), (119, none), (120, none), (121, none)], h := [(.b (.v 24), .prop 38), (.b (.v 18), .prop 39), (.a 34, .prop 37), (.b (.v 33), .cells [.int .i64 (.v 29), .int .i64 (.v 30), .bool (.v 31), .bool (.v 32)] 58), (.a 12, .prop 15), (.b (.v 17), .cells [.int .i64 (.v 11), .sl (.v 12) (.v 13) (.v 14)] 25), (.a 1, .prop 4), (.a 5, .prop 8)], lk := [] }), ((2000092, 34), some { ss := [.p, .p], n := 36, tv := [(93, none), (94, none), (95, none), (96, none), (19, none), (97, none), (98, none), (99, none), (101, none), (102, none), (103, none), (104, none), (105, none), (106, none), (107, none), (108, none), (109, none), (110, none), (111, none), (100, none), (112, none), (113, none), (20, none), (21, none), (114, none), (115, none), (116, none), (117, none), (118, none), (119, none), (120, none), (121, none)], h := [(.b (.v 24), .prop 34), (.b (.v 33), .cells [.int .i64 (.v 29), .int .i64 (.v 30), .bool (.v 31), .bool (.v 32)] 58), (.a 12, .prop 15), (.b (.v 18), .prop 35), (.b (.v 17), .cells [.int .i64 (.v 11), .sl (.v 12) (.v 13) (.v 14)] 25), (.a 1, .prop 4), (.a 5, .prop 8)], lk := [] }), ((1000006, 31), some { ss := [.c, .i, .p, .p], n := 35, tv := [(126, none), (127, none), (128, none), (129, none), (130, none), (133, none), (134, none), (24, none), (135, none), (136, none), (137, none), (139, none), (140, none), (141, none), (142, none), (143, none), (144, none), (145, none), (146, none), (147, none), (138, none), (148, none), (149, none), (25, none), (26, none), (150, none), (151, none), (6, some (.w (.a (.bool (.v 31))))), (152, none), (153, none), (154, none), (131, none), (132, none), (23, some (.w (.a (.int .i64 (.v 32)))))], h := [(.b (.v 29), .prop 33), (.a 12, .prop 15), (.b (.v 24), .prop 27), (.b (.v 18), .prop 34), (.b (.v 17), .cells [.int .i64 (.v 11), .sl (.v 12) (.v 13) (.v 14)] 25), (.a 1, .prop 4), (.a 5, .prop 8)], lk := [] }), ((3000155, 35), some { ss := [.c], n := 36, tv := [(155, none), (156, none), (157, none), (158, none), (159, none), (160, none), (161, none), (162, none), (163, none), (164, none), (165, none), (166, none), (167, none), (168, none), (169, some (.w (.a (.bool (.v 35)))))], h := [(.b (.v 29), .prop 33), (.a 12, .prop 15), (.b (.v 24), .prop 27), (.b (.v 18), .prop 34), (.b (.v 17), .cells [.int .i64 (.v 11), .sl (.v 12) (.v 13) (.v 14)] 25), (.a 1, .prop 4), (.a 5, .prop 8)], lk := [] }), ((3000183, 41), some { ss := [.c], n := 42, tv := [(183, none), (184, none), (185, none), (186, none), (187, none), (188, none), (189, none), (190, none), (191, none), (192, none), (193, none), (194, none), (195, none), (196, none), (197, none), (6, some (.w (.a (.bool (.v 41)))))], h := [(.b (.v 18), .prop 34), (.b (.v 29), .prop 33), (.a 12, .prop 15), (.b (.v 24), .prop 27), (.b (.v 17), .cells [.int .i64 (.v 11), .sl (.v 12) (.v 13) (.v 14)] 25), (.a 1, .prop 4), (.a 5, .prop 8)], lk := [] })] } Tryz.f5 [.a (.int .i64 (.v 0)), .a (.sl (.v 1) (.v 2) (.v 3)), .a (.sl (.v 5) (.v 6) (.v 7))] [(.a 1, .prop 4), (.a 5, .prop 8)] 9 = t_advEnds := by kernel_rfl
end Go.Proofs.YtbmajijnjkicmaaGreatDoor.RX



namespace Go.Proofs.YtbmajijnjkicmaaGreatDoor
set_option linter.unusedSimpArgs false
set_option linter.unusedVariables false
open Go.Proofs.YtbmajijnjkicmaaGreatDoor RX
set_option maxRecDepth 100000

structure UR where
  ub : Nat
  bd : Nat
  s : USt
  ps : List Pg
abbrev UR.hp (u : UR) : HP := UD u.ub u.bd 900 u.s u.ps
abbrev UR.ptr (u : UR) : Value := .pointer (some ⟨u.ub, 0, none⟩)
abbrev OwU (a : Option Addr) (n c : Nat) (l : List UR) : HP := OwC 62 1 a n c (l.map UR.ptr)
def UnL (a : Option Addr) (n c : Nat) (l : List UR) : HP := HP.and (l.length = n) (HP.sep (OwU a n c l) (sepN (l.map UR.hp)))
theorem infoU : (Tryz.prog.info? 62).map (fun i => (i.zero, i.size, i.bytes)) = some (some (.pointer none), 1, 8) := by kernel_rfl
theorem undUs : Tryz.prog.underlying 49 = some (.slice 62) := by kernel_rfl
theorem undU : Tryz.prog.underlying 62 = some (.pointer 94) := by kernel_rfl
theorem aggU : aggT Tryz.prog 62 = false := by kernel_rfl
theorem szU : szT Tryz.prog 62 = 1 := by kernel_rfl
theorem appendU (a : Option Addr) (n c : Nat) (l : List UR) (b : Nat) (u : UR) (K : HP) (hb : n ≤ 1000000000) :
    OTri Tryz.prog (appS 49 49 (.slice a n c) (.slice (some ⟨b, 0, none⟩) 1 1)) (HP.sep (UnL a n c l) (HP.sep (HP.one b (.cells #[u.ptr] 62 (0, 0))) (HP.sep u.hp K)))
      (fun v => HP.ex fun a' => HP.ex fun c' => HP.and (v = .slice a' (n + 1) c') (UnL a' (n + 1) c' (l ++ [u]))) := by
  obtain ⟨i, hi, h1, h2, h3⟩ := info_parts infoU
  have := append_ok 49 49 62 i (.pointer none) undUs hi h1 (by rw [h2]; rfl) (by omega) a n c (l.map UR.ptr) (HP.one b (.cells #[u.ptr] 62 (0, 0))) ⟨b, 0, none⟩ 1 1 [u.ptr] (one_rd b _ _) (by simp [h2]) (fun v hv => by simp at hv; subst hv; rfl) (by unfold maxLen; omega) (by rw [h3]; omega)
  rw [h2] at this
  refine OTri.fact (φ := l.length = n) (fun R h H => (HP.sep_left H).1) fun hl => ?_
  refine (this.frame (HP.sep (sepN (l.map UR.hp)) u.hp)).weak (fun R h H => ?_) ?_
  · have H1 := HP.sep_assoc (HP.sep_mono H (fun _ h => h.2) fun _ h => h)
    exact HP.sep_assoc' (HP.pick [_, _, _, _, _] [0, 2, 1, 3] (by decide) rfl H1)
  · rintro v R h ⟨h1, h2, d, l1, l2, ⟨a', c', rfl, H⟩, HU⟩
    refine ⟨a', c', rfl, by simp [hl], ?_⟩
    have H1 := HP.sep_assoc ⟨h1, h2, d, l1, l2, H, HU⟩
    have H2 := HP.sep_mono H1 (fun _ h => h) fun y hy => HP.sep_right hy
    have e : (l ++ [u]).map UR.hp = l.map UR.hp ++ [u.hp] := by simp
    rw [e]
    exact HP.sep_mono H2 (fun y hy => by unfold OwU; rw [List.map_append]; exact hy) fun y hy => (sepN_app (l := l.map UR.hp) (m := [u.hp])).2 hy
theorem forg0 : forgS s0 = s0 := by
  have h : (forgS s0).cells = s0.cells := funext fun k => by
    show (if k < s0.low then none else s0.cells k) = none
    split <;> rfl
  show ({ s0 with cells := (forgS s0).cells } : USt) = s0
  rw [h]
def newU (ub bd : Nat) : UR := ⟨ub, bd, s0, []⟩

structure NS where
  l : List UR
  e : Int
  n : Int
structure NRw where
  a : Option Addr
  c : Nat
  sq : Nat
def NodR (b : Nat) (w : NS) (r : NRw) : HP := HP.sep (HP.one b (.cells #[.slice r.a w.l.length r.c, .pointer (some ⟨r.sq, 0, none⟩)] 52 (0, 0))) (HP.sep (UnL r.a w.l.length r.c w.l) (SqRep r.sq w.e w.n))
def NodRep (b : Nat) (w : NS) : HP := HP.ex fun r => NodR b w r
section
variable {b : Nat} {w : NS} {r : NRw}
theorem ndLdU : ORead Tryz.prog (loadS 49 (.pointer (some ⟨b, 0, none⟩))) (NodR b w r) (.slice r.a w.l.length r.c) := ldB1 undUs (by kernel_rfl) (by kernel_rfl) rfl
theorem undSq : Tryz.prog.underlying 50 = some (.pointer 86) := by kernel_rfl
theorem ndLdS : ORead Tryz.prog (loadS 50 (.pointer (some ⟨b, 1, none⟩))) (NodR b w r) (.pointer (some ⟨r.sq, 0, none⟩)) := ldB1 undSq (by kernel_rfl) (by kernel_rfl) rfl
theorem UnL.rdU {a : Option Addr} {n c : Nat} {l : List UR} {Q : HP} : Rd (HP.sep (UnL a n c l) Q) a (l.map UR.ptr) := Rd.left (Rd.imp (Rd.left (B := sepN (l.map UR.hp)) (OwC.rd 62 1 a n c (l.map UR.ptr))) fun R h H => H.2)
theorem ndLd1 {k : Nat} {u : UR} (hk : w.l[k]? = some u) : ORead Tryz.prog (loadS 62 (.pointer (r.a.map fun x => (x.add (k * 1)).add 0))) (NodR b w r) u.ptr :=
  load1_ok undU aggU szU (Rd.impR (UnL.rdU (Q := SqRep r.sq w.e w.n)) fun R h H => HP.sep_right H) (k := k * 1) (off := 0) (v := u.ptr) (by simp [hk])
theorem NodR.isSm {R h : PH} (H : (NodR b w r).p R h) (hn : w.l.length ≠ 0) : r.a.isSome = true := OwC.some (HP.sep_left (HP.sep_left (HP.sep_right H)).2) (by omega)
def NodRest (b : Nat) (w : NS) (r : NRw) (k : Nat) : HP := HP.sep (HP.one b (.cells #[.slice r.a w.l.length r.c, .pointer (some ⟨r.sq, 0, none⟩)] 52 (0, 0))) (HP.sep (HP.sep (OwU r.a w.l.length r.c w.l) (sepN ((w.l.map UR.hp).eraseIdx k))) (SqRep r.sq w.e w.n))
theorem NodR.focus {k : Nat} {u : UR} (hk : w.l[k]? = some u) {R h : PH} (H : (NodR b w r).p R h) : (HP.sep u.hp (NodRest b w r k)).p R h := by
  have H1 := HP.sep_mono H (fun _ h => h) fun y hy => HP.sep_assoc (HP.sep_mono hy (fun z hz => HP.sep_mono hz.2 (fun _ h => h) fun x hx => sepN_focus (k := k) (x := u.hp) (by simp [hk]) hx) fun _ h => h)
  have H2 := HP.sep_mono H1 (fun _ h => h) fun y hy => HP.sep_mono hy (fun _ h => h) fun z hz => HP.sep_assoc hz
  have H3 := HP.pick [_, _, _, _, _] [2, 0, 1, 3, 4] (by decide) rfl H2
  exact HP.sep_mono H3 (fun _ h => h) fun y hy => HP.sep_mono hy (fun _ h => h) fun z hz => HP.sep_assoc' hz
def NS.put (w : NS) (k : Nat) (u : UR) : NS := { w with l := w.l.set k u }
theorem NodR.join {k : Nat} {u u' : UR} (hk : w.l[k]? = some u) (hu : u'.ub = u.ub) {R h : PH} (H : (HP.sep u'.hp (NodRest b w r k)).p R h) : (NodR b (w.put k u') r).p R h := by
  have hlt : k < w.l.length := (List.getElem?_eq_some_iff.1 hk).1
  have e : (w.l.set k u').map UR.ptr = w.l.map UR.ptr := by
    rw [List.map_set]
    have : u'.ptr = u.ptr := by simp [UR.ptr, hu]
    rw [this]
    refine List.ext_getElem? fun j => ?_
    rw [List.getElem?_set]
    split
    · rename_i hj; subst hj; rw [if_pos (by simpa using hlt), List.getElem?_map, hk]; rfl
    · rfl
  have H1 := HP.sep_mono H (fun _ h => h) fun y hy => HP.sep_mono hy (fun _ h => h) fun z hz => HP.sep_assoc hz
  have H2 := HP.pick [_, _, _, _, _] [1, 2, 0, 3, 4] (by decide) rfl H1
  unfold NodR NS.put
  simp only [List.length_set]
  refine HP.sep_mono H2 (fun _ h => h) fun y hy => ?_
  have H3 := HP.sep_mono hy (fun _ h => h) fun z hz => HP.sep_assoc' hz
  refine HP.sep_mono (HP.sep_assoc' H3) (fun z hz => ⟨by simp, HP.sep_mono hz (fun x hx => by unfold OwU; rw [e]; exact hx) fun x hx => ?_⟩) fun _ h => h
  rw [List.map_set]
  exact sepN_unfocus (by simpa using hlt) hx
theorem nod_unit {f : FuncId} {args : Array Value} {k : Nat} {u : UR} (hk : w.l[k]? = some u) {B : Value → HP} {s' : USt} {ps' : List Pg} {K : HP} (t : Tri Tryz.prog f args (HP.sep (UD u.ub u.bd 900 u.s u.ps) K) (fun v => HP.sep (UD u.ub u.bd 900 s' ps') (B v))) :
    Tri Tryz.prog f args (HP.sep (NodR b w r) K) (fun v => HP.sep (NodR b (w.put k ⟨u.ub, u.bd, s', ps'⟩) r) (B v)) := by
  refine (t.frame (NodRest b w r k)).weak (fun R h H => ?_) fun v R h H => ?_
  · have H1 := HP.sep_assoc (HP.sep_mono H (fun y hy => NodR.focus hk hy) fun _ h => h)
    exact HP.sep_assoc' (HP.pick [_, _, _] [0, 2, 1] (by decide) rfl H1)
  · have H1 := HP.pick [_, _, _] [0, 2, 1] (by decide) rfl (HP.sep_assoc H)
    exact HP.sep_mono (HP.sep_assoc' H1) (fun y hy => NodR.join (u' := ⟨u.ub, u.bd, s', ps'⟩) hk rfl hy) fun _ h => h
theorem nod_seq {f : FuncId} {args : Array Value} {B : Value → HP} {e' n' : Int} {K : HP} (t : Tri Tryz.prog f args (HP.sep (SqRep r.sq w.e w.n) K) (fun v => HP.sep (SqRep r.sq e' n') (B v))) :
    Tri Tryz.prog f args (HP.sep (NodR b w r) K) (fun v => HP.sep (NodR b { w with e := e', n := n' } r) (B v)) := by
  refine (t.frame (HP.sep (HP.one b (.cells #[.slice r.a w.l.length r.c, .pointer (some ⟨r.sq, 0, none⟩)] 52 (0, 0))) (UnL r.a w.l.length r.c w.l))).weak (fun R h H => ?_) fun v R h H => ?_
  · have H1 := HP.sep_assoc H
    have H2 := HP.sep_mono H1 (fun _ h => h) fun y hy => HP.sep_assoc hy
    exact HP.sep_assoc' (HP.pick [_, _, _, _] [2, 3, 0, 1] (by decide) rfl H2)
  · have H1 := HP.pick [_, _, _, _] [2, 3, 0, 1] (by decide) rfl (HP.sep_assoc H)
    exact HP.sep_assoc' (HP.sep_mono H1 (fun _ h => h) fun y hy => HP.sep_assoc' hy)
end
set_option maxHeartbeats 1000000 in
theorem laid18_ok (n : Nat) (hn : n ≤ 1000) : Tri Tryz.prog 8 #[.int .i64 n] HP.tt
    (fun v => HP.ex fun b => HP.ex fun w : NS => HP.and (v = .pointer (some ⟨b, 0, none⟩) ∧ w.l.length = n ∧ w.e = -1 ∧ w.n = 0 ∧ ∀ u ∈ w.l, u.s = s0 ∧ u.ps = []) (NodRep b w)) := by
  refine tri_of_tree (ρ := [.i n]) mixed Tryz.func8 tree_laid18 ?_
  unfold t_laid18
  simp only [T.den, E.prop, E.den, RX.look, F1.app, F2.app, Uni.int_i, Uni.nat_n, Uni.bool_c, Uni.str_s, Uni.adr_a, Uni.val_v, Uni.hp_p, hden, cden, V.den, W.den, A.den, BR.den, SA.den, FV.den, capV, exs, exP, allP, Cur.app, List.map_cons, List.map_nil, List.cons_append, List.nil_append, List.drop_succ_cons, List.drop_zero, List.length_cons, List.length_nil, Nat.zero_add, Nat.reduceAdd, Int.neg_neg, Bool.not_not, List.append_nil, Nat.add_zero, List.getElem?_cons_zero, List.getElem?_cons_succ, Decidable.not_not, semW_eq, semW_append, ne_eq, Nat.reduceEqDiff, not_false_eq_true]
  refine kNew_ok.weak (fun _ _ h => h) ?_
  rintro v R h ⟨sq, rfl, H⟩
  refine ⟨sq, SqRep sq (-1) 0, rfl, fun x => ?_, H⟩
  clear H
  refine ⟨fun _ _ i a len cap P q Q => ∃ (k : Nat) (l : List UR), i = k ∧ k ≤ n ∧ len = k ∧ (∀ u ∈ l, u.s = s0 ∧ u.ps = []) ∧ HP.ent P (UnL a k cap l) ∧ q = sq ∧ Q = SqRep sq (-1) 0, fun _ _ i _ _ _ _ _ _ => n - i.toNat,
    ⟨0, [], rfl, Nat.zero_le _, rfl, (fun u hu => by cases hu), .of fun R h H => ⟨rfl, HP.sep_tt (OwC.nil _ _ R h)⟩, rfl, rfl⟩, ?_⟩
  rintro _ _ _ a k cap P q Q ⟨_, l, rfl, hk, rfl, hl, hP, rfl, rfl⟩
  refine ⟨fun hlt => ?_, fun hge => ?_⟩
  · refine (dNew_ok 900 (by decide) (by decide)).weak (fun _ _ h => h) ?_
    rintro v R h ⟨bd, rfl, H⟩
    refine ⟨bd, DRep bd 900 [] 0, 0, rfl, ⟨fun h => absurd rfl h, fun _ => ?_⟩, H⟩
    clear H
    refine (uOpen_ok bd 900 [] 0 s0 rfl).weak (fun _ _ h => h) ?_
    rintro v R h ⟨ub, rfl, H⟩
    rw [forg0] at H
    refine ⟨ub, UD ub bd 900 s0 [], 0, HP.tt, rfl, ⟨fun h => absurd rfl h, fun _ y => ?_⟩, HP.sep_tt H⟩
    clear H
    refine (appendU a k cap l y (newU ub bd) HP.tt (by omega)).conseq (K := HP.tt) ((hP.sep _).trans (.of fun R h H => HP.sep_tt H)) fun v => .of fun R h H => ?_
    obtain ⟨a', c', rfl, H2⟩ := HP.sep_left H
    refine ⟨a', k + 1, c', UnL a' (k + 1) c' (l ++ [newU ub bd]), rfl, ⟨inI64 _ (by omega) (by omega), fun _ => ⟨⟨k + 1, l ++ [newU ub bd], by omega, by omega, rfl, fun u hu => ?_, .refl _, rfl, rfl⟩, by dsimp only; omega⟩⟩, H2⟩
    rcases List.mem_append.1 hu with h | h
    · exact hl u h
    · simp at h; subst h; exact ⟨rfl, rfl⟩
  · obtain rfl : k = n := by omega
    refine ((HP.ent.refl _).sep2 (hP.sep _)).trans (.of fun R h H => ?_)
    have hll : l.length = k := (HP.sep_left (HP.sep_right H)).1
    subst hll
    exact ⟨x, ⟨l, -1, 0⟩, ⟨rfl, rfl, rfl, rfl, hl⟩, ⟨a, cap, q⟩, H⟩

def askN (w : NS) (m : MS) : Bool × MS × NS :=
  if m.to = 7 then (true, sqAns w.e w.n m, { w with e := (startT w.e w.n m.ep m.at').2.1, n := (startT w.e w.n m.ep m.at').2.2 })
  else match (if m.to < 0 then none else w.l[m.to.toNat]?) with
    | none => (false, zMS, w)
    | some u => ((answerS 900 u.s u.ps m).1, (answerS 900 u.s u.ps m).2.1, w.put m.to.toNat ⟨u.ub, u.bd, (answerS 900 u.s u.ps m).2.2.1, (answerS 900 u.s u.ps m).2.2.2⟩)
theorem seq_ans {b : Nat} {w : NS} {r : NRw} (m : MS) (ca : Option Addr) (cc : Nat) (va : Option Addr) (vc : Nat) (hk : m.kind = 9) (hr : m.rep = false) :
    Tri Tryz.prog 30 #[.pointer (some ⟨r.sq, 0, none⟩), .agg (m.raw ca cc va vc).vals] (HP.sep (NodR b w r) (HP.sep (m.Dro ca) (m.Vro va)))
      (fun v => HP.sep (NodR b { w with e := (startT w.e w.n m.ep m.at').2.1, n := (startT w.e w.n m.ep m.at').2.2 } r) (HP.and (v = .tuple #[.agg ((sqAns w.e w.n m).raw none 0 none 0).vals, .bool true]) (HP.sep (m.Dro ca) (m.Vro va)))) :=
  nod_seq (B := fun v => HP.and (v = .tuple #[.agg ((sqAns w.e w.n m).raw none 0 none 0).vals, .bool true]) (HP.sep (m.Dro ca) (m.Vro va))) ((kAnswer_ok r.sq w.e w.n m ca cc va vc hk hr).weak (fun _ _ h => h) fun v R h ⟨e, H⟩ => HP.sep_mono H (fun _ h => h) fun y hy => ⟨e, hy⟩)
theorem unit_ans {b : Nat} {w : NS} {r : NRw} {k : Nat} {u : UR} (hk : w.l[k]? = some u) (m : MS) (ca : Option Addr) (cc : Nat) (va : Option Addr) (vc : Nat) :
    Tri Tryz.prog 31 #[u.ptr, .agg (m.raw ca cc va vc).vals] (HP.sep (NodR b w r) (HP.sep (m.Dro ca) (m.Vro va)))
      (fun v => HP.sep (NodR b (w.put k ⟨u.ub, u.bd, (answerS 900 u.s u.ps m).2.2.1, (answerS 900 u.s u.ps m).2.2.2⟩) r) (HP.ex fun rca => HP.ex fun rcc => HP.ex fun rva => HP.ex fun rvc => HP.and (v = .tuple #[.agg ((answerS 900 u.s u.ps m).2.1.raw rca rcc rva rvc).vals, .bool (answerS 900 u.s u.ps m).1])
        (HP.sep (m.Dro ca) (HP.sep (m.Vro va) (HP.sep ((answerS 900 u.s u.ps m).2.1.Dro rca) ((answerS 900 u.s u.ps m).2.1.Vro rva)))))) :=
  nod_unit hk ((answer_ok u.ub u.bd 900 u.s u.ps m ca cc va vc).weak (fun _ _ h => h) fun v R h ⟨rca, rcc, rva, rvc, e, H⟩ => HP.sep_mono H (fun _ h => h) fun y hy => ⟨rca, rcc, rva, rvc, e, hy⟩)
set_option maxHeartbeats 2000000 in
theorem ask18R_ok (b : Nat) (w : NS) (r : NRw) (m : MS) (ca : Option Addr) (cc : Nat) (va : Option Addr) (vc : Nat) (h7 : m.to = 7 → m.kind = 9 ∧ m.rep = false) (hl : w.l.length ≤ 1000) :
    Tri Tryz.prog 12 #[.pointer (some ⟨b, 0, none⟩), .agg (m.raw ca cc va vc).vals] (HP.sep (NodR b w r) (HP.sep (m.Dro ca) (m.Vro va)))
      (fun v => HP.ex fun rca => HP.ex fun rcc => HP.ex fun rva => HP.ex fun rvc => HP.and (v = .tuple #[.agg ((askN w m).2.1.raw rca rcc rva rvc).vals, .bool (askN w m).1])
        (HP.sep (NodR b (askN w m).2.2 r) (HP.sep (m.Dro ca) (HP.sep (m.Vro va) (HP.sep ((askN w m).2.1.Dro rca) ((askN w m).2.1.Vro rva)))))) := by
  refine Tri.fact (φ := w.l.length ≠ 0 → r.a.isSome = true) (fun R h H hn => NodR.isSm (HP.sep_left H) hn) fun hsm => ?_
  refine tri_of_tree (ρ := [.n b, .p (NodR b w r), .i m.fr, .i m.to, .i m.num, .c m.rep, .i m.kind, .i m.ep, .i m.at', .i m.cell.what, .a ca, .n m.cell.data.length, .n cc, .p (m.Dro ca), .i m.br, .i m.bw, .a va, .n m.val.length, .n vc, .p (m.Vro va), .i m.err, .i m.tail, .i m.low, .i m.back]) mixed Tryz.func12 tree_ask18 ?_
  unfold t_ask18
  simp only [T.den, E.prop, E.den, RX.look, F1.app, F2.app, Uni.int_i, Uni.nat_n, Uni.bool_c, Uni.str_s, Uni.adr_a, Uni.val_v, Uni.hp_p, hden, cden, V.den, W.den, A.den, BR.den, SA.den, FV.den, capV, exs, exP, allP, Cur.app, List.map_cons, List.map_nil, List.cons_append, List.nil_append, List.drop_succ_cons, List.drop_zero, List.length_cons, List.length_nil, Nat.zero_add, Nat.reduceAdd, Int.neg_neg, Bool.not_not, List.append_nil, Nat.add_zero, List.getElem?_cons_zero, List.getElem?_cons_succ, Decidable.not_not, semW_eq, semW_load, ne_eq, Nat.reduceEqDiff, not_false_eq_true]
  intro _ _
  have none' : ((if m.to < 0 then none else w.l[m.to.toNat]?) = none) → m.to ≠ 7 → askN w m = (false, zMS, w) := fun h h7 => by unfold askN; rw [if_neg h7, h]
  have fin0 : askN w m = (false, zMS, w) → HP.ent (HP.sep (NodR b w r) (HP.sep (m.Dro ca) (m.Vro va))) (HP.ex fun rca => HP.ex fun rcc => HP.ex fun rva => HP.ex fun rvc => HP.and (Value.tuple #[.agg #[.int .i64 0, .int .i64 0, .int .i64 0, .bool false, .int .i64 0, .int .i64 0, .int .i64 0, .int .i64 0, .slice none 0 0, .int .i64 0, .int .i64 0, .slice none 0 0, .int .i64 0, .int .i64 0, .int .i64 0, .int .i64 0], .bool false] = .tuple #[.agg ((askN w m).2.1.raw rca rcc rva rvc).vals, .bool (askN w m).1])
        (HP.sep (NodR b (askN w m).2.2 r) (HP.sep (m.Dro ca) (HP.sep (m.Vro va) (HP.sep ((askN w m).2.1.Dro rca) ((askN w m).2.1.Vro rva)))))) := fun e => by
    rw [e]
    exact .of fun R h H => ⟨none, 0, none, 0, rfl, HP.sep_mono H (fun _ h => h) fun y H => HP.sep_mono H (fun _ h => h) fun z H => HP.sep_mono (HP.sep_tt H) (fun _ h => h) fun u _ => HP.sep_mono (HP.sep_tt (RoB0 none : (RoB none 0 []).p R u)) (fun _ h => h) fun x _ => RoB0 none⟩
  refine ⟨fun e7 => ⟨.pointer (some ⟨r.sq, 0, none⟩), ndLdS, ?_⟩, fun e7 => ⟨fun e0 => ?_, fun e0 => ⟨r.a, w.l.length, r.c, ndLdU, fun e1 => ?_, fun e1 => ⟨r.a, w.l.length, r.c, ndLdU, by omega, fun _ => ⟨by omega, fun _ => ⟨hsm (by omega), fun _ => ?_⟩⟩⟩⟩⟩⟩
  · obtain ⟨hk9, hrf⟩ := h7 e7
    have ea : askN w m = (true, sqAns w.e w.n m, { w with e := (startT w.e w.n m.ep m.at').2.1, n := (startT w.e w.n m.ep m.at').2.2 }) := if_pos e7
    refine (seq_ans m ca cc va vc hk9 hrf).weak (fun _ _ h => h) ?_
    rintro v R h ⟨h1, h2, d, l1, l2, HN, rfl, HD⟩
    rw [ea]
    generalize hq : sqAns w.e w.n m = q at *
    have hd : q.cell.data = [] ∧ q.val = [] := by rw [← hq]; exact ⟨rfl, rfl⟩
    have r1 : ∀ y, (q.Dro none).p R y := fun y => by unfold MS.Dro; rw [hd.1]; exact RoB0 none
    have r2 : ∀ y, (q.Vro none).p R y := fun y => by unfold MS.Vro; rw [hd.2]; exact RoB0 none
    refine ⟨q.fr, q.to, q.num, q.rep, q.kind, q.ep, q.at', q.cell.what, none, q.cell.data.length, 0, q.Dro none, q.br, q.bw, none, q.val.length, 0, q.Vro none, q.err, q.tail, q.low, q.back, true, NodR b { w with e := (startT w.e w.n m.ep m.at').2.1, n := (startT w.e w.n m.ep m.at').2.2 } r, m.Dro ca, m.Vro va, rfl, .of fun R h H => ⟨none, 0, none, 0, rfl, HP.sep_mono H (fun _ h => h) fun _ h => h⟩, ?_⟩
    exact RoC.join (r1 h) (RoC.join (r2 h) ⟨h1, h2, d, l1, l2, HN, HD⟩)
  · exact fin0 (none' (if_pos e0) e7)
  · exact fin0 (none' (by rw [if_neg e0]; exact List.getElem?_eq_none (by omega)) e7)
  · have hlt : m.to.toNat < w.l.length := by omega
    have hg : w.l[m.to.toNat]? = some w.l[m.to.toNat] := List.getElem?_eq_getElem hlt
    generalize w.l[m.to.toNat] = u at hg
    have ea : askN w m = ((answerS 900 u.s u.ps m).1, (answerS 900 u.s u.ps m).2.1, w.put m.to.toNat ⟨u.ub, u.bd, (answerS 900 u.s u.ps m).2.2.1, (answerS 900 u.s u.ps m).2.2.2⟩) := by
      unfold askN; rw [if_neg e7, if_neg e0, hg]
    refine ⟨u.ptr, ndLd1 hg, ?_⟩
    refine (unit_ans hg m ca cc va vc).weak (fun _ _ h => h) ?_
    rw [ea]
    generalize answerS 900 u.s u.ps m = A
    rintro v R h H
    obtain ⟨h1, h2, d, l1, l2, HN, rca, rcc, rva, rvc, rfl, HD⟩ := H
    have H := HP.pick [_, _, _, _, _] [3, 4, 0, 1, 2] (by decide) rfl (⟨h1, h2, d, l1, l2, HN, HD⟩ : (HP.sep _ (HP.sep (m.Dro ca) (HP.sep (m.Vro va) (HP.sep (A.2.1.Dro rca) (A.2.1.Vro rva))))).p R h)
    exact ⟨A.2.1.fr, A.2.1.to, A.2.1.num, A.2.1.rep, A.2.1.kind, A.2.1.ep, A.2.1.at', A.2.1.cell.what, rca, A.2.1.cell.data.length, rcc, A.2.1.Dro rca, A.2.1.br, A.2.1.bw, rva, A.2.1.val.length, rvc, A.2.1.Vro rva, A.2.1.err, A.2.1.tail, A.2.1.low, A.2.1.back, A.1, _, _, _, rfl, .of fun R h H => ⟨rca, rcc, rva, rvc, rfl, HP.sep_mono H (fun _ h => h) fun _ h => h⟩, H⟩
end Go.Proofs.YtbmajijnjkicmaaGreatDoor



namespace Go.Proofs.YtbmajijnjkicmaaGreatDoor
open Go.Proofs.YtbmajijnjkicmaaGreatDoor RX

abbrev UR.i1 (u : UR) : InstS := instAt u.s 1
abbrev UR.prom (u : UR) (r w : Int) : UR := { u with s := (promiseS 900 u.s u.ps 1 r w).2.2.2.2.1, ps := (promiseS 900 u.s u.ps 1 r w).2.2.2.2.2 }
abbrev UR.acc (u : UR) (r w : Int) (l : List UInt8) : UR := { u with s := (acceptS 900 u.s u.ps 1 r w l).2.1, ps := (acceptS 900 u.s u.ps 1 r w l).2.2 }
theorem inst_prom (s : USt) (r w : Int) : instAt (promS s 1 r w) 1 = { instAt s 1 with pr := r, pw := w } := by simp [instAt, promS, fput]
theorem inst_acc (s : USt) (r w : Int) (l : List UInt8) : instAt (accS s 1 r w l) 1 = ⟨r, w, r, w, l⟩ := by simp [instAt, accS, fput]
theorem lessB_bn {r w r' w' : Int} (hw : 0 ≤ w ∧ w < 1000000) (hw' : 0 ≤ w' ∧ w' < 1000000) : lessB r w r' w' = decide (bnN r w < bnN r' w') := by
  unfold lessB bnN
  by_cases h : r * 1000000 + w < r' * 1000000 + w'
  · rw [decide_eq_true h]
    by_cases h1 : r < r'
    · simp [h1]
    · have : r = r' ∧ w < w' := by omega
      simp [this]
  · rw [decide_eq_false h]
    have h1 : ¬ r < r' := by omega
    have h2 : ¬ (r = r' ∧ w < w') := by omega
    simp [h1]
    intro e
    omega
theorem prop_ok {r w : Int} (hr : 0 ≤ r ∧ r ≤ 1000000) (hw : 0 ≤ w ∧ w < 1000000) : propOk 1 r w = true := by
  unfold propOk numOk
  simp
  omega
theorem prom_case (s : USt) (ps : List Pg) {r w : Int} (hr : 0 ≤ r ∧ r ≤ 1000000) (hw : 0 ≤ w ∧ w < 1000000) (hi : 0 ≤ (instAt s 1).pw ∧ (instAt s 1).pw < 1000000) :
    ((promiseS 900 s ps 1 r w).2.2.2.1 ≠ 0 ∧ (promiseS 900 s ps 1 r w).2.2.2.2.1 = s ∧ (promiseS 900 s ps 1 r w).2.2.1 = []) ∨
    (bnP (instAt s 1) ≤ bnN r w ∧ instAt (promiseS 900 s ps 1 r w).2.2.2.2.1 1 = { instAt s 1 with pr := r, pw := w } ∧ (promiseS 900 s ps 1 r w).1 = (instAt s 1).ar ∧ (promiseS 900 s ps 1 r w).2.1 = (instAt s 1).aw ∧ (promiseS 900 s ps 1 r w).2.2.1 = (instAt s 1).val) := by
  unfold promiseS
  rw [if_neg (by simp [prop_ok hr hw])]
  split
  · exact .inl ⟨by show (7 : Int) ≠ 0; decide, rfl, rfl⟩
  · rename_i h
    rw [lessB_bn hw hi, decide_eq_true_iff] at h
    split
    · rename_i h2
      refine .inr ⟨by unfold bnP; omega, ?_, rfl, rfl, rfl⟩
      show instAt s 1 = _
      rw [h2.1, h2.2]
    · split
      · exact .inl ⟨by show (4 : Int) ≠ 0; decide, rfl, rfl⟩
      · exact .inr ⟨by unfold bnP; omega, inst_prom .., rfl, rfl, rfl⟩
theorem acc_case (s : USt) (ps : List Pg) {r w : Int} (l : List UInt8) (hr : 0 ≤ r ∧ r ≤ 1000000) (hw : 0 ≤ w ∧ w < 1000000) (hi : 0 ≤ (instAt s 1).pw ∧ (instAt s 1).pw < 1000000) :
    ((acceptS 900 s ps 1 r w l).1 ≠ 0 ∧ (acceptS 900 s ps 1 r w l).2.1 = s) ∨ (bnP (instAt s 1) ≤ bnN r w ∧ instAt (acceptS 900 s ps 1 r w l).2.1 1 = ⟨r, w, r, w, l⟩) := by
  unfold acceptS
  rw [if_neg (by simp [prop_ok hr hw])]
  split
  · exact .inl ⟨by show (1 : Int) ≠ 0; decide, rfl⟩
  · split
    · exact .inl ⟨by show (7 : Int) ≠ 0; decide, rfl⟩
    · rename_i h
      rw [lessB_bn hw hi, decide_eq_true_iff] at h
      unfold lastS
      split
      · exact .inl ⟨by show (4 : Int) ≠ 0; decide, rfl⟩
      · exact .inr ⟨by unfold bnP; omega, inst_acc ..⟩
theorem set_back {α : Type} {l : List α} {k : Nat} {x : α} (h : l[k]? = some x) : l.set k x = l := by
  refine List.ext_getElem? fun j => ?_
  rw [List.getElem?_set]
  split
  · rename_i e; subst e
    rw [if_pos (List.getElem?_eq_some_iff.1 h).1]; exact h.symm
  · rfl
structure PV (S : List UInt8 → Prop) (us : List InstS) (gs : List BSt) : Prop where
  g : ∀ x ∈ gs, S x.val
  small : ∀ v, S v → v.length ≤ 1000
  u : ∀ x ∈ us, x.val.length ≤ 1000
  a : ∀ x ∈ gs, ∀ y ∈ x.ans, y.2.val.length ≤ 1000
theorem PV.new {S : List UInt8 → Prop} (hs : ∀ v, S v → v.length ≤ 1000) {us : List InstS} (hz : ∀ u ∈ us, u = ⟨0, 0, 0, 0, []⟩) : PV S us [] :=
  ⟨(fun x h => by cases h), hs, (fun x hx => by rw [hz x hx]; simp), fun x h => by cases h⟩
theorem PV.begin {S : List UInt8 → Prop} {us : List InstS} {gs : List BSt} (h : PV S us gs) {n : Nat} {r w : Int} {l : List UInt8} (hl : S l) : PV S us (gs ++ [startB n r w l]) :=
  ⟨(fun x hx => by
    rcases List.mem_append.1 hx with hx | hx
    · exact h.g x hx
    · simp at hx; subst hx; exact hl), h.small, h.u, fun x hx y hy => by
    rcases List.mem_append.1 hx with hx | hx
    · exact h.a x hx y hy
    · simp at hx; subst hx; cases hy⟩
theorem PV.setU {S : List UInt8 → Prop} {us : List InstS} {gs : List BSt} (h : PV S us gs) (k : Nat) {u : InstS} (hu : u.val.length ≤ 1000) : PV S (us.set k u) gs :=
  ⟨h.g, h.small, fun x hx => (List.mem_or_eq_of_mem_set hx).elim (h.u x) (fun e => e ▸ hu), h.a⟩
theorem PV.setG {S : List UInt8 → Prop} {us : List InstS} {gs : List BSt} (h : PV S us gs) (k : Nat) {g : BSt} (hg : S g.val) (ha : ∀ y ∈ g.ans, y.2.val.length ≤ 1000) : PV S us (gs.set k g) :=
  ⟨fun x hx => (List.mem_or_eq_of_mem_set hx).elim (h.g x) (fun e => e ▸ hg), h.small, h.u, fun x hx => (List.mem_or_eq_of_mem_set hx).elim (h.a x) (fun e => e ▸ ha)⟩
theorem map_set' {α β : Type} (f : α → β) (l : List α) (k : Nat) (x : α) : (l.set k x).map f = (l.map f).set k (f x) := by rw [List.map_set]
theorem PX.prom {n : Nat} {l : List UR} {gs : List BSt} {V : Vt} {S : List UInt8 → Prop} (h : PX n (l.map UR.i1) gs V) (hv : PV S (l.map UR.i1) gs) {k i : Nat} {u : UR} {g : BSt} (hu : l[k]? = some u) (hg : gs[i]? = some g) :
    PX n ((l.set k (u.prom g.rnd g.who)).map UR.i1) gs V ∧ PV S ((l.set k (u.prom g.rnd g.who)).map UR.i1) gs ∧ (promiseS 900 u.s u.ps 1 g.rnd g.who).2.2.1.length ≤ 1000 ∧
    (g.phase = 1 → (promiseS 900 u.s u.ps 1 g.rnd g.who).2.2.2.1 = 0 → AnP ((l.set k (u.prom g.rnd g.who)).map UR.i1) V (bnG g) ((k : Int), ⟨true, (promiseS 900 u.s u.ps 1 g.rnd g.who).1, (promiseS 900 u.s u.ps 1 g.rnd g.who).2.1, (promiseS 900 u.s u.ps 1 g.rnd g.who).2.2.1⟩)) := by
  have hG := h.gg i g hg
  have hum : (l.map UR.i1)[k]? = some u.i1 := by simp [hu]
  have hU := h.ub k _ hum
  have hul := hv.u _ (List.mem_of_getElem? hum)
  rw [map_set']
  rcases prom_case u.s u.ps hG.rnd hG.who hU.pw with ⟨h1, h2, h3⟩ | ⟨h1, h2, h3, h4, h5⟩
  · have e : UR.i1 (u.prom g.rnd g.who) = u.i1 := by show instAt (promiseS 900 u.s u.ps 1 g.rnd g.who).2.2.2.2.1 1 = _; rw [h2]
    rw [e, set_back hum]
    exact ⟨h, hv, by rw [h3]; simp, fun _ e => absurd e h1⟩
  · have e : UR.i1 (u.prom g.rnd g.who) = { u.i1 with pr := g.rnd, pw := g.who } := h2
    rw [e, h3, h4, h5]
    refine ⟨h.promise hum hG.rnd.1 hG.who h1, hv.setU k hul, hul, fun hp _ => ⟨hU.ar, hU.aw.1, hU.aw.2, fun u' hu' => ?_, fun c w hc _ => ?_, fun hn => ?_⟩⟩
    · have hlt := (List.getElem?_eq_some_iff.1 hum).1
      simp only [Int.toNat_natCast] at hu'
      rw [List.getElem?_set_self hlt] at hu'
      cases hu'
      exact Int.le_refl _
    · simp only [Int.toNat_natCast] at hc
      exact hU.top c w hc
    · simp only [Int.toNat_natCast]
      have hA : bnA u.i1 ≠ 0 := fun e => hn (by
        have h6 : 0 ≤ (instAt u.s 1).ar := hU.ar
        have h7 : 0 ≤ (instAt u.s 1).aw ∧ (instAt u.s 1).aw < 1000000 := hU.aw
        have h8 : (instAt u.s 1).ar * 1000000 + (instAt u.s 1).aw = 0 := e
        show (instAt u.s 1).ar = 0 ∧ (instAt u.s 1).aw = 0
        omega)
      have hvote := hU.last hA
      refine ⟨hvote, ?_⟩
      have hle : bnA u.i1 ≤ bnG g := Int.le_trans hU.le h1
      refine (Int.lt_or_eq_of_le hle).elim (fun h => h) fun e => ?_
      obtain ⟨_, _, _, j, g', hg', e1, e2, _⟩ := h.vt _ _ _ hvote
      have := h.gu j i g' g hg' hg (e1.trans e)
      subst this
      rw [hg] at hg'; cases hg'
      exact absurd hp e2
theorem PX.acc {n : Nat} {l : List UR} {gs : List BSt} {V : Vt} {S : List UInt8 → Prop} (h : PX n (l.map UR.i1) gs V) (hv : PV S (l.map UR.i1) gs) {k i : Nat} {u : UR} {g : BSt} (hu : l[k]? = some u) (hg : gs[i]? = some g) (h2 : g.phase = 2) :
    ∃ V', (∀ y ∈ V, y ∈ V') ∧ PX n ((l.set k (u.acc g.rnd g.who g.val)).map UR.i1) gs V' ∧ PV S ((l.set k (u.acc g.rnd g.who g.val)).map UR.i1) gs ∧
    ((acceptS 900 u.s u.ps 1 g.rnd g.who g.val).1 = 0 → (k, bnG g, g.val) ∈ V') := by
  have hG := h.gg i g hg
  have hum : (l.map UR.i1)[k]? = some u.i1 := by simp [hu]
  have hU := h.ub k _ hum
  rw [map_set']
  rcases acc_case u.s u.ps g.val hG.rnd hG.who hU.pw with ⟨h1, h3⟩ | ⟨h1, h3⟩
  · have e : UR.i1 (u.acc g.rnd g.who g.val) = u.i1 := by show instAt (acceptS 900 u.s u.ps 1 g.rnd g.who g.val).2.1 1 = _; rw [h3]
    rw [e, set_back hum]
    exact ⟨V, fun _ h => h, h, hv, fun e => absurd e h1⟩
  · have e : UR.i1 (u.acc g.rnd g.who g.val) = ⟨g.rnd, g.who, g.rnd, g.who, g.val⟩ := h3
    rw [e]
    exact ⟨_, fun _ h => List.mem_cons_of_mem _ h, h.vote hum hg h2 h1, hv.setU k (hv.small _ (hv.g g (List.mem_of_getElem? hg))), fun _ => List.mem_cons_self ..⟩
theorem PX.took1 {n : Nat} {us : List InstS} {gs : List BSt} {V : Vt} {S : List UInt8 → Prop} (h : PX n us gs V) (hv : PV S us gs) {i : Nat} {g g' : BSt} (hg : gs[i]? = some g) (a : Nat) (r w : Int) (l : List UInt8) (e : Int) (hl : l.length ≤ 1000)
    (ha : g.phase = 1 → e = 0 → AnP us V (bnG g) ((a : Int), ⟨true, r, w, l⟩)) (hP : PromB g a r w l e g') : PX n us (gs.set i g') V ∧ PV S us (gs.set i g') := by
  have hx := h.promised hg a r w l e ha hP
  refine ⟨hx, ?_⟩
  have hmem := List.mem_of_getElem? hg
  have hG := h.gg i g hg
  unfold PromB at hP
  split at hP
  · rename_i hc
    obtain ⟨t, tm⟩ := takeB_took g a (promA r w l e)
    have hpl : (promA r w l e).val.length ≤ 1000 := by unfold promA; split <;> simp [hl]
    have hans : ∀ y ∈ (takeB g a (promA r w l e)).1.ans, y.2.val.length ≤ 1000 := fun y hy => by
      rw [t.ans] at hy
      rcases List.mem_append.1 hy with hy | hy
      · exact hv.a g hmem y hy
      · simp at hy; subst hy; exact hpl
    split at hP
    · obtain ⟨val, hch, rfl⟩ := hP
      refine hv.setG i ?_ (fun y hy => by cases hy)
      show S val
      obtain ⟨q1, q2, q3⟩ := asked_hasB hc.2
      have hok : GOk n us V (takeB g a (promA r w l e)).1 := t.ok hG q1 ⟨q2, by rw [← hG.acc]; exact q3⟩ (fun e1 ho => by
        unfold promA at ho ⊢
        split at ho
        · rename_i e0; rw [if_pos e0]; exact ha e1 e0
        · cases ho) (fun e2 ho => by rw [hc.1] at e2; cases e2) (by rw [hc.1]; decide)
      rename_i hm
      rcases hch with ⟨_, rfl⟩ | ⟨k, x, hk, hcx, rfl, _⟩
      · exact hv.g g hmem
      · obtain ⟨y, hy, e1, e2, e3, e4⟩ := ansF_mem hk
        have := (hok.p1 ((tm hm).2.2.trans hc.1) (k, y) hy (e1.trans hcx.1)).2.2.2.2.2 (by dsimp only; rw [e2, e3]; exact hcx.2)
        obtain ⟨_, _, _, j, gj, hj, _, _, hjv⟩ := h.vt _ _ _ this.1
        rw [← e4]
        dsimp only at hjv
        rw [← hjv]
        exact hv.g gj (List.mem_of_getElem? hj)
    · subst hP
      exact hv.setG i (by rw [t.val]; exact hv.g g hmem) hans
  · subst hP
    rw [set_back hg]; exact hv
theorem PX.took2 {n : Nat} {us : List InstS} {gs : List BSt} {V : Vt} {S : List UInt8 → Prop} (h : PX n us gs V) (hv : PV S us gs) {i : Nat} {g : BSt} (hg : gs[i]? = some g) (a : Nat) (e : Int) (ha : g.phase = 2 → e = 0 → (a, bnG g, g.val) ∈ V) :
    PX n us (gs.set i (accB g a e)) V ∧ PV S us (gs.set i (accB g a e)) := by
  refine ⟨h.accepted hg a e ha, ?_⟩
  have hmem := List.mem_of_getElem? hg
  have hans : ∀ y ∈ (takeB g a ⟨decide (e = 0), 0, 0, []⟩).1.ans, y.2.val.length ≤ 1000 := fun y hy => by
    rw [(takeB_took g a _).1.ans] at hy
    rcases List.mem_append.1 hy with hy | hy
    · exact hv.a g hmem y hy
    · simp at hy; subst hy; simp
  have hval : (takeB g a ⟨decide (e = 0), 0, 0, []⟩).1.val = g.val := (takeB_took g a _).1.val
  unfold accB
  split
  · split
    · exact hv.setG i (by show S (takeB g a ⟨decide (e = 0), 0, 0, []⟩).1.val; rw [hval]; exact hv.g g hmem) hans
    · exact hv.setG i (by rw [hval]; exact hv.g g hmem) hans
  · rw [set_back hg]; exact hv
theorem ChosB.more {n : Nat} {V V' : Vt} {b : Int} {v : List UInt8} (h : ChosB n V b v) (hs : ∀ y ∈ V, y ∈ V') : ChosB n V' b v := by
  obtain ⟨Q, a, b, c, d⟩ := h; exact ⟨Q, a, b, c, fun y hy => hs _ (d y hy)⟩
end Go.Proofs.YtbmajijnjkicmaaGreatDoor



namespace Go.Proofs.YtbmajijnjkicmaaGreatDoor
open Go.Proofs.YtbmajijnjkicmaaGreatDoor RX

theorem prom_len (u : UR) (r w : Int) : (u.prom r w).ps.length ≤ u.ps.length + 1 := by
  show (promiseS 900 u.s u.ps 1 r w).2.2.2.2.2.length ≤ _
  unfold promiseS
  split
  · exact Nat.le_succ _
  · split
    · exact Nat.le_succ _
    · split
      · exact Nat.le_succ _
      · split
        · exact Nat.le_succ _
        · simp
theorem acc_len (u : UR) (r w : Int) (l : List UInt8) : (u.acc r w l).ps.length ≤ u.ps.length + 1 := by
  show (acceptS 900 u.s u.ps 1 r w l).2.2.length ≤ _
  unfold acceptS
  split
  · exact Nat.le_succ _
  · split
    · exact Nat.le_succ _
    · split
      · exact Nat.le_succ _
      · unfold lastS
        split
        · exact Nat.le_succ _
        · simp
theorem prom_zero (u : UR) {r w : Int} (hr : 0 ≤ r ∧ r ≤ 1000000) (hw : 0 ≤ w ∧ w < 1000000) (hi : 0 ≤ u.i1.pw ∧ u.i1.pw < 1000000) (hle : bnP u.i1 ≤ bnN r w) (hps : u.ps.length < 900) : (promiseS 900 u.s u.ps 1 r w).2.2.2.1 = 0 := by
  unfold promiseS
  rw [if_neg (by simp [prop_ok hr hw]), lessB_bn hw hi, if_neg (by rw [decide_eq_true_iff]; exact Int.not_lt.2 hle)]
  split
  · rfl
  · rw [if_neg (by omega)]
theorem acc_zero (u : UR) {r w : Int} {l : List UInt8} (hl : l.length ≤ 1000) (hr : 0 ≤ r ∧ r ≤ 1000000) (hw : 0 ≤ w ∧ w < 1000000) (hi : 0 ≤ u.i1.pw ∧ u.i1.pw < 1000000) (hle : bnP u.i1 ≤ bnN r w) (hps : u.ps.length < 900) : (acceptS 900 u.s u.ps 1 r w l).1 = 0 := by
  unfold acceptS
  rw [if_neg (by simp [prop_ok hr hw]), if_neg (by omega), lessB_bn hw hi, if_neg (by rw [decide_eq_true_iff]; exact Int.not_lt.2 hle)]
  unfold lastS
  rw [if_neg (by omega)]
theorem prom_low (u : UR) {r w B : Int} (hr : 0 ≤ r ∧ r ≤ 1000000) (hw : 0 ≤ w ∧ w < 1000000) (hi : 0 ≤ u.i1.pw ∧ u.i1.pw < 1000000) (hu : bnP u.i1 ≤ B) (hb : bnN r w ≤ B) : bnP (u.prom r w).i1 ≤ B := by
  rcases prom_case u.s u.ps hr hw hi with ⟨_, h2, _⟩ | ⟨_, h2, _⟩
  · show bnP (instAt (promiseS 900 u.s u.ps 1 r w).2.2.2.2.1 1) ≤ B; rw [h2]; exact hu
  · show bnP (instAt (promiseS 900 u.s u.ps 1 r w).2.2.2.2.1 1) ≤ B; rw [h2]; exact hb
theorem acc_low (u : UR) {r w B : Int} (l : List UInt8) (hr : 0 ≤ r ∧ r ≤ 1000000) (hw : 0 ≤ w ∧ w < 1000000) (hi : 0 ≤ u.i1.pw ∧ u.i1.pw < 1000000) (hu : bnP u.i1 ≤ B) (hb : bnN r w ≤ B) : bnP (u.acc r w l).i1 ≤ B := by
  rcases acc_case u.s u.ps l hr hw hi with ⟨_, h2⟩ | ⟨_, h2⟩
  · show bnP (instAt (acceptS 900 u.s u.ps 1 r w l).2.1 1) ≤ B; rw [h2]; exact hu
  · show bnP (instAt (acceptS 900 u.s u.ps 1 r w l).2.1 1) ≤ B; rw [h2]; exact hb
theorem acc_bal (g : BSt) (f e : Int) : (accB g f e).rnd = g.rnd ∧ (accB g f e).who = g.who ∧ (accB g f e).val = g.val ∧ (accB g f e).acc = g.acc := by
  have t := (takeB_took g f ⟨decide (e = 0), 0, 0, []⟩).1
  unfold accB
  split
  · split
    · exact ⟨t.rnd, t.who, t.val, t.acc⟩
    · exact ⟨t.rnd, t.who, t.val, t.acc⟩
  · exact ⟨rfl, rfl, rfl, rfl⟩
theorem prom_bal {g g' : BSt} {f r w : Int} {l : List UInt8} {e : Int} (h : PromB g f r w l e g') : g'.rnd = g.rnd ∧ g'.who = g.who ∧ g'.acc = g.acc := by
  have t := (takeB_took g f (promA r w l e)).1
  unfold PromB at h
  split at h
  · split at h
    · obtain ⟨v, _, rfl⟩ := h; exact ⟨t.rnd, t.who, t.acc⟩
    · subst h; exact ⟨t.rnd, t.who, t.acc⟩
  · subst h; exact ⟨rfl, rfl, rfl⟩
end Go.Proofs.YtbmajijnjkicmaaGreatDoor



namespace Go.Proofs.YtbmajijnjkicmaaGreatDoor
open Go.Proofs.YtbmajijnjkicmaaGreatDoor RX
set_option maxRecDepth 100000

theorem nodup_subL {α : Type} [DecidableEq α] : ∀ {l m : List α}, l.Nodup → (∀ x ∈ l, x ∈ m) → l.length ≤ m.length
  | [], _, _, _ => Nat.zero_le _
  | x :: l, m, h, hs => by
    rw [List.nodup_cons] at h
    have hx := hs x (by simp)
    have ih := nodup_subL (m := m.erase x) h.2 fun y hy => by
      have : y ≠ x := fun e => h.1 (by rw [← e]; exact hy)
      exact (List.mem_erase_of_ne this).2 (hs y (by simp [hy]))
    rw [List.length_erase_of_mem hx] at ih
    have := List.length_pos_of_mem hx
    rw [List.length_cons]; omega
def okC (L : List (Int × BA)) : Int := ((L.filter fun x => x.2.ok).length : Int)
structure PI (u : Int) (k : Nat) (s : BSt) : Prop where
  acc : s.acc = u
  ph : s.phase = 1 ∨ s.phase = 2
  nd : (s.ans.map (·.1)).Nodup
  rg : ∀ f ∈ s.ans.map (·.1), 0 ≤ f ∧ f < u
  ag : s.agreed = okC s.ans
  no : mostB s.acc s.agreed = false
  may : mostB s.acc (s.acc - (s.ans.length - s.agreed)) = true
  av : ∀ x ∈ s.ans, x.2.val.length ≤ 1000
  vl : s.val.length ≤ 1000
  rn : 0 ≤ s.rnd ∧ s.rnd ≤ 1 + k
theorem okC_app (L : List (Int × BA)) (x : Int × BA) : okC (L ++ [x]) = okC L + if x.2.ok = true then 1 else 0 := by
  unfold okC
  rw [List.filter_append, List.length_append]
  by_cases h : x.2.ok = true
  · rw [if_pos h]; simp [h]
  · rw [if_neg h]
    have : x.2.ok = false := by simpa using h
    simp [this]
theorem nodup_len {l : List Int} {u : Nat} (hn : l.Nodup) (hr : ∀ f ∈ l, 0 ≤ f ∧ f < (u : Int)) : l.length ≤ u := by
  have h1 : (l.map Int.toNat).Nodup := by
    rw [List.nodup_iff_pairwise_ne, List.pairwise_map]
    rw [List.nodup_iff_pairwise_ne] at hn
    refine List.Pairwise.imp_of_mem (fun ha hb hab e => hab ?_) hn
    have := hr _ ha; have := hr _ hb; omega
  have h2 : ∀ x ∈ l.map Int.toNat, x ∈ List.range u := fun x hx => by
    obtain ⟨y, hy, rfl⟩ := List.mem_map.1 hx
    have := hr y hy
    rw [List.mem_range]; omega
  have := nodup_subL h1 h2
  simpa using this
theorem PI.len {u : Int} {k : Nat} {s : BSt} (h : PI u k s) (h0 : 0 ≤ u) : (s.ans.length : Int) ≤ u := by
  obtain ⟨n, rfl⟩ := Int.eq_ofNat_of_zero_le h0
  have := nodup_len h.nd h.rg
  rw [List.length_map] at this
  exact Int.ofNat_le.2 this
theorem PI.waits {u : Int} {k : Nat} {s : BSt} (h : PI u k s) (h1 : 1 ≤ u) : ∃ f : Nat, (f : Int) < u ∧ askedB s f = true := by
  obtain ⟨n, rfl⟩ := Int.eq_ofNat_of_zero_le (show 0 ≤ u by omega)
  refine Classical.byContradiction fun hno => ?_
  have hall : ∀ f : Nat, f < n → (f : Int) ∈ s.ans.map (·.1) := fun f hf => Classical.byContradiction fun hm => hno ⟨f, by omega, by
    unfold askedB hasB
    rw [decide_eq_true (show (s.phase = 1 ∨ s.phase = 2) ∧ 0 ≤ (f : Int) ∧ (f : Int) < s.acc from ⟨h.ph, by omega, by rw [h.acc]; omega⟩), decide_eq_false hm]; rfl⟩
  have hs : ∀ x ∈ (List.range n).map (fun (i : Nat) => (i : Int)), x ∈ s.ans.map (·.1) := fun x hx => by
    obtain ⟨i, hi, rfl⟩ := List.mem_map.1 hx
    exact hall i (List.mem_range.1 hi)
  have hnd : ((List.range n).map (fun (i : Nat) => (i : Int))).Nodup := by
    rw [List.nodup_iff_pairwise_ne, List.pairwise_map]
    refine List.Pairwise.imp (fun hab e => hab (by omega)) (List.nodup_iff_pairwise_ne.1 List.nodup_range)
  have h1' := nodup_subL hnd hs
  simp at h1'
  have h2 := h.len (by omega)
  have h3 := h.no
  have h4 := h.may
  unfold mostB at h3 h4
  have h3 := of_decide_eq_false h3
  have h4 := of_decide_eq_true h4
  rw [h.acc] at h3 h4
  rw [Int.tdiv_eq_ediv_of_nonneg (by omega)] at h3 h4
  omega
theorem PI.start {u w : Int} {k : Nat} {l : List UInt8} {r : Int} (h1 : 1 ≤ u) (hl : l.length ≤ 1000) (hr : 0 ≤ r ∧ r ≤ 1 + k) : PI u k (startB u r w l) := by
  have hm : max u 1 = u := by omega
  refine ⟨hm, .inl rfl, List.nodup_nil, (fun f hf => by cases hf), rfl, ?_, ?_, (fun x hx => by cases hx), hl, hr⟩
  · unfold mostB startB
    dsimp only
    rw [hm, Int.tdiv_eq_ediv_of_nonneg (by omega)]
    exact decide_eq_false (by omega)
  · unfold mostB startB
    dsimp only
    rw [hm, Int.tdiv_eq_ediv_of_nonneg (by omega)]
    simp only [List.length_nil]
    exact decide_eq_true (by omega)
theorem PI.take {u : Int} {k : Nat} {s : BSt} (h : PI u k s) {f : Int} (hf : askedB s f = true) {x : BA} (hx : x.val.length ≤ 1000) :
    ((takeB s f x).2 = false → (takeB s f x).1.phase ≠ 4 → PI u k (takeB s f x).1) ∧ (∀ y ∈ (takeB s f x).1.ans, y.2.val.length ≤ 1000) ∧ (takeB s f x).1.val = s.val ∧ (takeB s f x).1.acc = s.acc ∧ (takeB s f x).1.rnd = s.rnd ∧ ((takeB s f x).1.phase = s.phase ∨ (takeB s f x).1.phase = 4) ∧ ((takeB s f x).2 = true → (takeB s f x).1.phase = s.phase) := by
  unfold askedB hasB at hf
  rw [Bool.and_eq_true] at hf
  obtain ⟨hf1, hf2⟩ := hf
  obtain ⟨_, hf0, hfa⟩ := of_decide_eq_true hf1
  have hfn : f ∉ s.ans.map (·.1) := by simpa using hf2
  have nd : ((s.ans ++ [(f, x)]).map (·.1)).Nodup := by
    rw [List.map_append, List.nodup_append]
    exact ⟨h.nd, by simp, fun a ha b hb e => hfn (by simp at hb; rw [← hb, ← e]; exact ha)⟩
  have rg : ∀ g ∈ (s.ans ++ [(f, x)]).map (·.1), 0 ≤ g ∧ g < u := fun g hg => by
    rw [List.map_append] at hg
    rcases List.mem_append.1 hg with hg | hg
    · exact h.rg g hg
    · simp at hg; subst hg; rw [h.acc] at hfa; exact ⟨hf0, hfa⟩
  have av : ∀ y ∈ s.ans ++ [(f, x)], y.2.val.length ≤ 1000 := fun y hy => by
    rcases List.mem_append.1 hy with hy | hy
    · exact h.av y hy
    · obtain rfl := List.mem_singleton.1 hy; exact hx
  unfold takeB
  split
  · rename_i hok
    refine ⟨fun hm _ => ⟨h.acc, h.ph, nd, rg, ?_, hm, ?_, av, h.vl, h.rn⟩, av, rfl, rfl, rfl, .inl rfl, fun _ => rfl⟩
    · show s.agreed + 1 = _
      rw [okC_app, if_pos hok, h.ag]
    · have := h.may
      show mostB s.acc (s.acc - (((s.ans ++ [(f, x)]).length : Nat) - (s.agreed + 1))) = true
      rw [List.length_append, List.length_singleton]
      rw [← this]; congr 1; omega
  · rename_i hok
    split
    · rename_i hm
      refine ⟨fun _ _ => ⟨h.acc, h.ph, nd, rg, ?_, h.no, ?_, av, h.vl, h.rn⟩, av, rfl, rfl, rfl, .inl rfl, fun h => by cases h⟩
      · show s.agreed = _
        rw [okC_app, if_neg hok, h.ag]; omega
      · show mostB s.acc (s.acc - (((s.ans ++ [(f, x)]).length : Nat) - s.agreed)) = true
        rw [List.length_append, List.length_singleton, ← hm]
        congr 1
    · exact ⟨fun _ h => absurd rfl h, av, rfl, rfl, rfl, .inr rfl, fun h => by cases h⟩
theorem PI.step {u : Int} {k : Nat} {s s' : BSt} {m : MS} (h : PI u k s) (h1 : 1 ≤ u) (hm : m.val.length ≤ 1000) (hp : stepB s m s') : (s'.phase ≠ 3 → s'.phase ≠ 4 → PI u k s') ∧ s'.rnd = s.rnd ∧ s'.val.length ≤ 1000 := by
  unfold stepB at hp
  split at hp
  · unfold PromB at hp
    split at hp
    · rename_i hph
      have hx : (promA m.br m.bw m.val m.err).val.length ≤ 1000 := by unfold promA; split <;> simp [hm]
      obtain ⟨t1, t2, t3, t4, t5, t6, t7⟩ := h.take hph.2 hx
      split at hp
      · obtain ⟨val, hch, rfl⟩ := hp
        have hv := hch.le' h.vl t2
        refine ⟨fun _ _ => ⟨by rw [← h.acc]; exact t4, .inr rfl, List.nodup_nil, (fun f hf => by cases hf), rfl, ?_, ?_, (fun x hx => by cases hx), hv, by rw [show _ = _ from t5]; exact h.rn⟩, t5, hv⟩
        · show mostB (takeB s m.fr (promA m.br m.bw m.val m.err)).1.acc 0 = false
          rw [t4, h.acc]; unfold mostB
          rw [Int.tdiv_eq_ediv_of_nonneg (by omega)]
          exact decide_eq_false (by omega)
        · show mostB (takeB s m.fr (promA m.br m.bw m.val m.err)).1.acc ((takeB s m.fr (promA m.br m.bw m.val m.err)).1.acc - (((([] : List (Int × BA)).length : Nat) : Int) - 0)) = true
          rw [t4, h.acc]; unfold mostB
          rw [Int.tdiv_eq_ediv_of_nonneg (by omega)]
          exact decide_eq_true (by simp; omega)
      · rename_i hnt
        subst hp
        exact ⟨fun _ h4 => t1 (by simpa using hnt) h4, t5, by rw [t3]; exact h.vl⟩
    · subst hp; exact ⟨fun _ _ => h, rfl, h.vl⟩
  · subst hp
    unfold accB
    split
    · rename_i hph
      obtain ⟨t1, t2, t3, t4, t5, t6, t7⟩ := h.take hph.2 (x := ⟨decide (m.err = 0), 0, 0, []⟩) (by simp)
      split
      · exact ⟨fun h3 _ => absurd rfl h3, t5, by show (takeB _ _ _).1.val.length ≤ _; rw [t3]; exact h.vl⟩
      · rename_i hnt
        exact ⟨fun _ h4 => t1 (by simpa using hnt) h4, t5, by rw [t3]; exact h.vl⟩
    · exact ⟨fun _ _ => h, rfl, h.vl⟩
structure AI (k : Nat) (g : AdvS) : Prop where
  rg : 1 ≤ g.st ∧ g.st ≤ 6
  r : g.st ≠ 6 → rightB g.old = true ∧ g.old.ep < 2147483647 ∧ 1 ≤ g.units ∧ g.units ≤ 7
  e0 : 0 ≤ g.old.ep ∧ g.old.ep ≤ 2147483647
  u0 : g.units ≤ 7
  w : g.own.length ≤ 1000
  s1 : g.st = 1 → ∃ u : Nat, u < 7 ∧ (u : Int) < g.units ∧ g.rep u = false
  s2 : g.st = 2 → ∃ s, g.prop = some s ∧ PI g.units k s
  s3 : g.st = 3 → rightB g.plan = true ∧ g.plan.ep = g.old.ep + 1 ∧ ∃ u : Nat, u < 7 ∧ plannedA g.plan u = true ∧ g.rep u = false
  pv : ∀ s, g.prop = some s → BSafe s ∧ s.ans.length ≤ 99999
theorem PI.safe {u : Int} {k : Nat} {s : BSt} (h : PI u k s) (h7 : u ≤ 7) (h0 : 0 ≤ u) (hk : k ≤ 100000) : BSafe s ∧ s.ans.length ≤ 99999 := by
  have := h.len h0
  exact ⟨⟨by omega, fun x hx => by have := h.av x hx; omega, by have := h.vl; omega, h.rn.1, by have := h.rn.2; omega⟩, by omega⟩
end Go.Proofs.YtbmajijnjkicmaaGreatDoor



namespace Go.Proofs.YtbmajijnjkicmaaGreatDoor
open Go.Proofs.YtbmajijnjkicmaaGreatDoor RX
set_option maxRecDepth 100000

theorem AI.safe {k : Nat} {g : AdvS} (h : AI k g) : TSafe g :=
  ⟨⟨h.e0.1, h.e0.2, fun h2 => by obtain ⟨s, e, _⟩ := h.s2 h2; rw [e]; rfl, fun s e => (h.pv s e).1.val⟩, fun h1 => (h.r (by omega)).1, by have := h.u0; omega, by have := h.w; omega, h.pv⟩
theorem asksL_nil {g : AdvS} (h4 : g.st ≠ 4) : asksL g = [] ↔ ∀ u : Nat, u < 7 → askedA g u = false := by
  unfold asksL
  rw [if_neg h4, List.map_eq_nil_iff, List.filter_eq_nil_iff]
  exact ⟨fun h u hu => by simpa using h u (List.mem_range.2 hu), fun h u hu => by rw [h u (List.mem_range.1 hu)]; decide⟩
theorem asksL_ex {g : AdvS} (h4 : g.st ≠ 4) (h : asksL g ≠ []) : ∃ u : Nat, u < 7 ∧ askedA g u = true :=
  Classical.byContradiction fun hn => h ((asksL_nil h4).2 fun u hu => by
    cases e : askedA g u with
    | false => rfl
    | true => exact absurd ⟨u, hu, e⟩ hn)
theorem asked1 {g : AdvS} (h : g.st = 1) (u : Nat) : askedA g u = (decide ((u : Int) < g.units) && !g.rep u) := by unfold askedA; rw [if_pos h]
theorem asked2 {g : AdvS} (h : g.st = 2) {s : BSt} (hp : g.prop = some s) (u : Nat) : askedA g u = askedB s u := by
  unfold askedA; rw [if_neg (by omega), if_pos h, hp]
theorem asked3 {g : AdvS} (h : g.st = 3) (u : Nat) : askedA g u = (!g.rep u && plannedA g.plan u) := by
  unfold askedA; rw [if_neg (by omega), if_neg (by omega), if_pos h]
theorem asked0 {g : AdvS} (h1 : g.st ≠ 1) (h2 : g.st ≠ 2) (h3 : g.st ≠ 3) (u : Nat) : askedA g u = false := by
  unfold askedA; rw [if_neg h1, if_neg h2, if_neg h3]
theorem AI.asks {k : Nat} {g : AdvS} (h : AI k g) : asksL g = [] ↔ (g.st = 5 ∨ g.st = 6) := by
  refine ⟨fun he => ?_, fun hs => (asksL_nil (by omega)).2 fun u _ => asked0 (by omega) (by omega) (by omega) u⟩
  have h4 : g.st ≠ 4 := fun h4 => by unfold asksL at he; rw [if_pos h4] at he; cases he
  have hall := (asksL_nil h4).1 he
  refine Classical.byContradiction fun hn => ?_
  have := h.rg
  have hc : g.st = 1 ∨ g.st = 2 ∨ g.st = 3 := by omega
  rcases hc with hc | hc | hc
  · obtain ⟨u, h7, hu, hr⟩ := h.s1 hc
    have := hall u h7
    rw [asked1 hc, decide_eq_true hu, hr] at this
    cases this
  · obtain ⟨s, hp, hP⟩ := h.s2 hc
    have h7 := h.u0
    obtain ⟨f, hf, ha⟩ := hP.waits (h.r (by omega)).2.2.1
    have := hall f (by omega)
    rw [asked2 hc hp, ha] at this
    cases this
  · obtain ⟨_, _, u, h7, hu, hr⟩ := h.s3 hc
    have := hall u h7
    rw [asked3 hc, hu, hr] at this
    cases this
theorem planned_ex {p : PlP} (h : rightB p = true) : ∃ u : Nat, u < 7 ∧ plannedA p u = true := by
  have hR := rightP h
  have h1 := hR.len1
  have hm : p.ch[0]'(by omega) ∈ p.ch := List.getElem_mem _
  generalize p.ch[0]'(by omega) = c at hm
  cases c with
  | nil => exact absurd rfl (hR.ne _ hm)
  | cons x r =>
    have hx := hR.rg x (List.mem_flatten.2 ⟨_, hm, by simp⟩)
    refine ⟨x.toNat, by omega, List.any_eq_true.2 ⟨_, hm, decide_eq_true ?_⟩⟩
    rw [show ((x.toNat : Nat) : Int) = x by omega]; simp
theorem takeB_few (s : BSt) (f : Int) (x : BA) : (takeB s f x).1.ans.length = s.ans.length + 1 := by rw [(takeB_ans s f x).1]; simp
theorem stepB_few {s s' : BSt} {m : MS} (h : stepB s m s') : s'.ans.length ≤ s.ans.length + 1 := by
  unfold stepB at h
  split at h
  · unfold PromB at h
    split at h
    · split at h
      · obtain ⟨v, _, rfl⟩ := h; simp
      · subst h; rw [takeB_few]; omega
    · subst h; omega
  · subst h
    unfold accB
    split
    · split
      · show (takeB _ _ _).1.ans.length ≤ _; rw [takeB_few]; omega
      · rw [takeB_few]; omega
    · omega
theorem PI.mono {u : Int} {k j : Nat} {s : BSt} (h : PI u k s) (hj : k ≤ j) : PI u j s := ⟨h.acc, h.ph, h.nd, h.rg, h.ag, h.no, h.may, h.av, h.vl, h.rn.1, by have := h.rn.2; omega⟩
theorem AI.mono {k j : Nat} {g : AdvS} (h : AI k g) (hj : k ≤ j) : AI j g :=
  ⟨h.rg, h.r, h.e0, h.u0, h.w, h.s1, fun h2 => let ⟨s, e, p⟩ := h.s2 h2; ⟨s, e, p.mono hj⟩, h.s3, h.pv⟩
theorem now_asks {g : AdvS} {m : MS} (h : nowB g m = true) : asksL g ≠ [] := fun e => by unfold nowB at h; rw [e] at h; cases h
theorem AI.told {k : Nat} {g g' : AdvS} {m : MS} (h : AI k g) (hk : k ≤ 99999) (hm : m.val.length ≤ 1000) (ht : tolR g m g') :
    AI (k + 1) g' ∧ g.st ≤ g'.st ∧ (asksL g = [] → g' = g) ∧ g'.old = g.old ∧ g'.units = g.units ∧ g'.who = g.who := by
  unfold tolR at ht
  split at ht
  · rename_i hc
    obtain ⟨_, hn⟩ := hc
    have hne := now_asks hn
    obtain ⟨t1, t2, t3, t4, _⟩ := ht
    have hst := h.rg
    have hs56 : ¬ (g.st = 5 ∨ g.st = 6) := fun e => hne (h.asks.2 e)
    have hr := h.r (by omega)
    have hu7 := h.u0
    have hcs : g.st = 1 ∨ g.st = 2 ∨ g.st = 3 ∨ g.st = 4 := by omega
    rcases hcs with hs | hs | hs | hs
    · obtain rfl := t1 hs
      unfold sealA
      generalize hg1 : ({ g with rep := put7 g.rep m.fr.toNat true, there := put7 g.there m.fr.toNat (decide (m.err = 0)) } : AdvS) = g1
      have e1 : g1.st = 1 ∧ g1.old = g.old ∧ g1.units = g.units ∧ g1.who = g.who ∧ g1.own = g.own ∧ g1.prop = g.prop := by subst hg1; exact ⟨hs, rfl, rfl, rfl, rfl, rfl⟩
      obtain ⟨e1, e2, e3, e4, e5, e6⟩ := e1
      split
      · have hw := ownA_len (g := g1) (by rw [e2]; exact hr.1)
        have hP : PI g1.units (k + 1) (startB g1.units 1 g1.who (ownA g1)) := .start (by rw [e3]; exact hr.2.2.1) (by omega) (by omega)
        refine ⟨⟨⟨by show (1 : Int) ≤ 2; omega, by show (2 : Int) ≤ 6; omega⟩, fun _ => by show rightB g1.old = true ∧ g1.old.ep < 2147483647 ∧ 1 ≤ g1.units ∧ g1.units ≤ 7; rw [e2, e3]; exact hr, by show 0 ≤ g1.old.ep ∧ g1.old.ep ≤ 2147483647; rw [e2]; exact h.e0, by show g1.units ≤ 7; rw [e3]; exact hu7, by show (ownA g1).length ≤ 1000; omega,
          fun h => absurd (show (2 : Int) = 1 from h) (by decide), fun _ => ⟨_, rfl, hP⟩, fun h => absurd (show (2 : Int) = 3 from h) (by decide), fun s e => ?_⟩, by show g.st ≤ 2; omega, fun he => absurd he hne, e2, e3, e4⟩
        obtain rfl : startB g1.units 1 g1.who (ownA g1) = s := Option.some.inj e
        exact hP.safe (by omega) (by omega) (by omega)
      · rename_i hne1
        obtain ⟨u, hu, ha⟩ := asksL_ex (by omega) hne1
        rw [asked1 e1] at ha
        simp only [Bool.and_eq_true, decide_eq_true_eq, Bool.not_eq_true'] at ha
        refine ⟨⟨by omega, fun _ => by rw [e2, e3]; exact hr, by rw [e2]; exact h.e0, by rw [e3]; exact hu7, by rw [e5]; exact h.w, fun _ => ⟨u, hu, ha.1, ha.2⟩, by omega, by omega, by rw [e6]; exact h.pv⟩, by omega, fun he => absurd he hne, e2, e3, e4⟩
    · obtain ⟨s, s', hp, hst', rfl⟩ := t2 hs
      obtain ⟨s0, hp0, hP⟩ := h.s2 hs
      rw [hp] at hp0; cases hp0
      obtain ⟨p1, p2, p3⟩ := hP.step hr.2.2.1 hm hst'
      have hB := (h.pv s hp).1.step (m := m) (by omega) (h.pv s hp).2 hst'
      have hf : s'.ans.length ≤ 99999 := by
        have := stepB_few hst'
        have := hP.len (by omega)
        omega
      have bpv : ∀ x, some s' = some x → BSafe x ∧ x.ans.length ≤ 99999 := fun x e => by cases e; exact ⟨hB, hf⟩
      unfold outA
      split
      · have hP' : PI g.units (k + 1) (startB g.units (s'.rnd + 1) g.who g.own) := .start hr.2.2.1 h.w (by rw [p2]; have := hP.rn; omega)
        refine ⟨⟨hst, fun _ => hr, h.e0, hu7, h.w, fun h => absurd hs (by show g.st ≠ 2; rw [show g.st = 1 from h]; decide), fun _ => ⟨_, rfl, hP'⟩, fun h => absurd hs (by rw [show g.st = 3 from h]; decide), fun x e => ?_⟩, by show g.st ≤ g.st; omega, fun he => absurd he hne, rfl, rfl, rfl⟩
        obtain rfl : startB g.units (s'.rnd + 1) g.who g.own = x := Option.some.inj e
        exact hP'.safe (by omega) (by omega) (by omega)
      · rename_i h4
        split
        · rename_i h3
          split
          · refine ⟨⟨⟨by show (1 : Int) ≤ 6; omega, by show (6 : Int) ≤ 6; omega⟩, fun h => absurd rfl h, h.e0, hu7, h.w, fun h => absurd (show (6 : Int) = 1 from h) (by decide), fun h => absurd (show (6 : Int) = 2 from h) (by decide), fun h => absurd (show (6 : Int) = 3 from h) (by decide), bpv⟩, by show g.st ≤ 6; omega, fun he => absurd he hne, rfl, rfl, rfl⟩
          · rename_i hb
            have h0 : (decP s'.val).2 = 0 := Classical.byContradiction fun e => hb (.inl e)
            have he : (decP s'.val).1.ep = g.old.ep + 1 := Classical.byContradiction fun e => hb (.inr e)
            obtain ⟨u, hu, hpl⟩ := planned_ex (decP_right h0)
            exact ⟨⟨⟨by show (1 : Int) ≤ 3; omega, by show (3 : Int) ≤ 6; omega⟩, fun _ => hr, h.e0, hu7, h.w, fun h => absurd (show (3 : Int) = 1 from h) (by decide), fun h => absurd (show (3 : Int) = 2 from h) (by decide), fun _ => ⟨decP_right h0, he, u, hu, hpl, rfl⟩, bpv⟩, by show g.st ≤ 3; omega, fun he => absurd he hne, rfl, rfl, rfl⟩
        · rename_i h3
          have hP' := (p1 h3 h4).mono (Nat.le_succ k)
          exact ⟨⟨hst, fun _ => hr, h.e0, hu7, h.w, fun h => absurd hs (by rw [show g.st = 1 from h]; decide), fun _ => ⟨_, rfl, hP'⟩, fun h => absurd hs (by rw [show g.st = 3 from h]; decide), bpv⟩, by show g.st ≤ g.st; omega, fun he => absurd he hne, rfl, rfl, rfl⟩
    · obtain rfl := t3 hs
      obtain ⟨q1, q2, _⟩ := h.s3 hs
      have go : ∀ g1 : AdvS, g1.st = 3 → g1.old = g.old → g1.units = g.units → g1.who = g.who → g1.own = g.own → g1.prop = g.prop → g1.plan = g.plan → ∀ g2, g2 = (if asksL g1 = [] then { g1 with st := 4 } else g1) → AI (k + 1) g2 ∧ g.st ≤ g2.st ∧ (asksL g = [] → g2 = g) ∧ g2.old = g.old ∧ g2.units = g.units ∧ g2.who = g.who := fun g1 e1 e2 e3 e4 e5 e6 e7 g2 he2 => by
        subst he2
        split
        · exact ⟨⟨⟨by show (1 : Int) ≤ 4; omega, by show (4 : Int) ≤ 6; omega⟩, fun _ => by show rightB g1.old = true ∧ g1.old.ep < 2147483647 ∧ 1 ≤ g1.units ∧ g1.units ≤ 7; rw [e2, e3]; exact hr, by show 0 ≤ g1.old.ep ∧ g1.old.ep ≤ 2147483647; rw [e2]; exact h.e0, by show g1.units ≤ 7; rw [e3]; exact hu7, by show g1.own.length ≤ 1000; rw [e5]; exact h.w,
            fun h => absurd (show (4 : Int) = 1 from h) (by decide), fun h => absurd (show (4 : Int) = 2 from h) (by decide), fun h => absurd (show (4 : Int) = 3 from h) (by decide), by show ∀ s, g1.prop = some s → _; rw [e6]; exact h.pv⟩, by show g.st ≤ 4; omega, fun he => absurd he hne, e2, e3, e4⟩
        · rename_i hne1
          obtain ⟨u, hu, ha⟩ := asksL_ex (by omega) hne1
          rw [asked3 e1] at ha
          simp only [Bool.and_eq_true, Bool.not_eq_true'] at ha
          exact ⟨⟨by omega, fun _ => by rw [e2, e3]; exact hr, by rw [e2]; exact h.e0, by rw [e3]; exact hu7, by rw [e5]; exact h.w, by omega, by omega, fun _ => ⟨by rw [e7]; exact q1, by rw [e7, e2]; exact q2, u, hu, ha.2, ha.1⟩, by rw [e6]; exact h.pv⟩, by omega, fun he => absurd he hne, e2, e3, e4⟩
      by_cases h0 : m.err = 0
      · exact go { g with tail := max (max g.tail m.tail) m.low, rep := put7 g.rep m.fr.toNat true } hs rfl rfl rfl rfl rfl rfl _ (by unfold tellA; rw [if_pos h0])
      · by_cases h8 : m.err ≠ 8 ∨ m.back ≤ g.old.ep + 1
        · have : tellA g m m.fr.toNat = { g with st := 6 } := by unfold tellA; rw [if_neg h0, if_pos h8]
          rw [this]
          exact ⟨⟨⟨by show (1 : Int) ≤ 6; omega, by show (6 : Int) ≤ 6; omega⟩, fun h => absurd rfl h, h.e0, hu7, h.w, fun h => absurd (show (6 : Int) = 1 from h) (by decide), fun h => absurd (show (6 : Int) = 2 from h) (by decide), fun h => absurd (show (6 : Int) = 3 from h) (by decide), h.pv⟩, by show g.st ≤ 6; omega, fun he => absurd he hne, rfl, rfl, rfl⟩
        · exact go { g with rep := put7 g.rep m.fr.toNat true } hs rfl rfl rfl rfl rfl rfl _ (by unfold tellA; rw [if_neg h0, if_neg h8])
    · obtain rfl := t4 hs
      split
      · exact ⟨⟨⟨by show (1 : Int) ≤ 5; omega, by show (5 : Int) ≤ 6; omega⟩, fun _ => hr, h.e0, hu7, h.w, fun h => absurd (show (5 : Int) = 1 from h) (by decide), fun h => absurd (show (5 : Int) = 2 from h) (by decide), fun h => absurd (show (5 : Int) = 3 from h) (by decide), h.pv⟩, by show g.st ≤ 5; omega, fun he => absurd he hne, rfl, rfl, rfl⟩
      · exact ⟨⟨⟨by show (1 : Int) ≤ 6; omega, by show (6 : Int) ≤ 6; omega⟩, fun h => absurd rfl h, h.e0, hu7, h.w, fun h => absurd (show (6 : Int) = 1 from h) (by decide), fun h => absurd (show (6 : Int) = 2 from h) (by decide), fun h => absurd (show (6 : Int) = 3 from h) (by decide), h.pv⟩, by show g.st ≤ 6; omega, fun he => absurd he hne, rfl, rfl, rfl⟩
  · subst ht
    exact ⟨h.mono (Nat.le_succ k), Int.le_refl _, fun _ => rfl, rfl, rfl, rfl⟩
theorem AI.begin (p : PlP) (u w : Int) : AI 0 (beginA p u w) := by
  unfold beginA
  split
  · rename_i h
    obtain ⟨h1, h2, h3, h4, h5, h6⟩ := h
    have hR := rightP h1
    have := hR.ep0; have := hR.ep1
    exact ⟨⟨by show (1 : Int) ≤ 1; omega, by show (1 : Int) ≤ 6; omega⟩, fun _ => ⟨h1, by show p.ep < _; omega, h3, h4⟩, ⟨hR.ep0, hR.ep1⟩, h4, by simp, fun _ => ⟨0, by omega, by show (0 : Int) < u; omega, rfl⟩, fun h => absurd (show (1 : Int) = 2 from h) (by decide), fun h => absurd (show (1 : Int) = 3 from h) (by decide), fun s e => by cases e⟩
  · exact ⟨⟨by show (1 : Int) ≤ 6; omega, by show (6 : Int) ≤ 6; omega⟩, fun h => absurd rfl h, ⟨by show (0 : Int) ≤ 0; omega, by show (0 : Int) ≤ _; omega⟩, by show (0 : Int) ≤ 7; omega, by simp [zAdv], fun h => absurd (show (6 : Int) = 1 from h) (by decide), fun h => absurd (show (6 : Int) = 2 from h) (by decide), fun h => absurd (show (6 : Int) = 3 from h) (by decide), fun s e => by cases e⟩
end Go.Proofs.YtbmajijnjkicmaaGreatDoor



namespace Go.Proofs.YtbmajijnjkicmaaGreatDoor
open Go.Proofs.YtbmajijnjkicmaaGreatDoor RX
set_option maxRecDepth 100000

section
variable (b : Nat) (g : AdvS)
theorem eState_ok : Tri Tryz.prog 14 #[.pointer (some ⟨b, 0, none⟩)] (ARep b g) (fun v => HP.and (v = .int .i64 g.st) (ARep b g)) :=
  Tri.ex fun _ => (aState_ok).weak (fun _ _ h => h) fun _ _ _ ⟨e, H⟩ => ⟨e, _, H⟩
theorem eTail_ok : Tri Tryz.prog 21 #[.pointer (some ⟨b, 0, none⟩)] (ARep b g) (fun v => HP.and (v = .int .i64 g.tail) (ARep b g)) :=
  Tri.ex fun _ => (aTail_ok).weak (fun _ _ h => h) fun _ _ _ ⟨e, H⟩ => ⟨e, _, H⟩
theorem ePlan_ok : Tri Tryz.prog 16 #[.pointer (some ⟨b, 0, none⟩)] (ARep b g) (fun v => HP.ex fun a => HP.ex fun c => HP.ex fun es : List ChE => HP.and (v = .agg #[.int .i64 g.plan.ep, .slice a es.length c] ∧ es.map (·.l) = g.plan.ch) (HP.sep (Ls kCh a es.length es) (ARep b g))) :=
  Tri.ex fun _ => (aPlan_ok).weak (fun _ _ h => h) fun _ _ _ ⟨a, c, es, e, H⟩ => ⟨a, c, es, e, HP.sep_mono H (fun _ h => h) fun _ h => ⟨_, h⟩⟩
theorem eAsks_ok (hs : ASafe g) : Tri Tryz.prog 11 #[.pointer (some ⟨b, 0, none⟩)] (ARep b g) (fun v => HP.ex fun a => HP.ex fun c => HP.ex fun es : List MsE => HP.and (v = .slice a es.length c ∧ es.map (·.m) = asksL g) (HP.sep (Ls kMs a es.length es) (ARep b g))) :=
  Tri.ex fun _ => (aAsksS_ok hs).weak (fun _ _ h => h) fun _ _ _ ⟨a, c, es, e, H⟩ => ⟨a, c, es, e, HP.sep_mono H (fun _ h => h) fun _ h => ⟨_, h⟩⟩
theorem eTold_ok (m : MS) (ca : Option Addr) (cc : Nat) (va : Option Addr) (vc : Nat) (hs : TSafe g) (hmv : m.val.length ≤ 100000000) (D : HP) :
    Tri Tryz.prog 13 #[.pointer (some ⟨b, 0, none⟩), .agg (m.raw ca cc va vc).vals] (HP.sep (ARep b g) (HP.sep D (m.Vro va))) (fun v => HP.ex fun g' => HP.and (v = .tuple #[] ∧ tolR g m g') (ARep b g')) :=
  (Tri.ex (A := fun r => HP.sep (ARepR b g r) (HP.sep D (m.Vro va))) fun _ => aTold_ok m ca cc va vc hs hmv D).weak (fun _ _ ⟨h1, h2, d, l1, l2, ⟨r, H1⟩, H2⟩ => ⟨r, h1, h2, d, l1, l2, H1, H2⟩) fun _ _ _ h => h
end
theorem ldMs1 {S : HP} {a : Option Addr} {n : Nat} {l : List MsE} (hS : ∀ R h, S.p R h → (Ls kMs a n l).p R h) {i : Int} {k : Nat} (hi : i = k) {x : MsE} (hk : l[k]? = some x) {off : Nat} {v : Int} (hv : (kMs.vals x)[off]? = some (.int .i64 v)) :
    ORead Tryz.prog (loadS 3 (.pointer (a.map fun y => (y.add (i.toNat * 16)).add off))) S (.int .i64 v) := by
  subst hi
  exact ORead.ent (.of hS) (Ls.load1 (K := kMs) (off := off) undIb aggI szI hk hv)
theorem ldMsI {S : HP} {a : Option Addr} {n : Nat} {l : List MsE} (hS : ∀ R h, S.p R h → (Ls kMs a n l).p R h) {i : Int} {k : Nat} (hi : i = k) {x : MsE} (hk : l[k]? = some x) :
    ORead Tryz.prog (loadS 41 (.pointer (a.map fun y => (y.add (i.toNat * 16)).add 0))) S (.agg x.vals) := by
  subst hi
  exact ldMs hS hk
theorem asksL_get {g : AdvS} {i : Nat} {m : MS} (h : (asksL g)[i]? = some m) :
    m.ep = g.old.ep + 1 ∧ m.rep = false ∧ 0 ≤ m.to ∧ m.to ≤ 7 ∧ (m.kind = 9 ↔ m.to = 7) ∧ ∀ (j : Nat) (m' : MS), j < i → (asksL g)[j]? = some m' → m'.to < m.to := by
  by_cases h4 : g.st = 4
  · have e : asksL g = [startA g] := if_pos h4
    rw [e] at h
    have hi : i = 0 := by
      have := (List.getElem?_eq_some_iff.1 h).1
      simp at this; omega
    subst hi
    cases h
    exact ⟨rfl, rfl, by show (0 : Int) ≤ 7; omega, by show (7 : Int) ≤ 7; omega, ⟨fun _ => rfl, fun _ => rfl⟩, fun j _ hj => by omega⟩
  · have e : asksL g = ((List.range 7).filter (askedA g)).map (askA g) := if_neg h4
    rw [e, List.getElem?_map] at h
    obtain ⟨u, hu, rfl⟩ := Option.map_eq_some_iff.1 h
    have hm := List.mem_of_getElem? hu
    have hu7 := List.mem_range.1 (List.mem_filter.1 hm).1
    have f : (askA g u).ep = g.old.ep + 1 ∧ (askA g u).rep = false ∧ (askA g u).kind ≠ 9 := by
      unfold askA
      split
      · split
        · refine ⟨rfl, rfl, ?_⟩
          show (if _ then (7 : Int) else 6) ≠ 9
          split <;> decide
        · exact ⟨rfl, rfl, show (4 : Int) ≠ 9 by decide⟩
      · exact ⟨rfl, rfl, show (4 : Int) ≠ 9 by decide⟩
    rw [askA_to]
    refine ⟨f.1, f.2.1, by omega, by omega, ⟨fun h => absurd h f.2.2, fun h => by omega⟩, fun j m' hj hm' => ?_⟩
    rw [e, List.getElem?_map] at hm'
    obtain ⟨v, hv, rfl⟩ := Option.map_eq_some_iff.1 hm'
    rw [askA_to]
    have hs : ((List.range 7).filter (askedA g)).Pairwise (· < ·) := List.Pairwise.filter _ List.pairwise_lt_range
    obtain ⟨hi, rfl⟩ := List.getElem?_eq_some_iff.1 hu
    obtain ⟨hj', rfl⟩ := List.getElem?_eq_some_iff.1 hv
    have := List.pairwise_iff_getElem.1 hs j i hj' hi hj
    omega
end Go.Proofs.YtbmajijnjkicmaaGreatDoor



namespace Go.Proofs.YtbmajijnjkicmaaGreatDoor
open Go.Proofs.YtbmajijnjkicmaaGreatDoor RX
set_option maxRecDepth 100000

structure RepOf (m r : MS) : Prop where
  fr : r.fr = m.to
  rep : r.rep = true
  kind : r.kind = m.kind
  ep : r.ep = m.ep
  at' : r.at' = m.at'
theorem finS_of {m r : MS} {e : Int} {s : USt} (h : RepOf m r) : RepOf m (finS e r s) := by
  unfold finS
  split <;> exact ⟨h.fr, h.rep, h.kind, h.ep, h.at'⟩
theorem repS_of (m : MS) : RepOf m (repS m) := ⟨rfl, rfl, rfl, rfl, rfl⟩
theorem ans_eq {room : Int} {s : USt} {ps : List Pg} {m : MS} (hr : m.rep = false) (hk : 1 ≤ m.kind ∧ m.kind ≤ 7) :
    answerS room s ps m = (true, finS (deedS room s ps m (repS m)).1 (deedS room s ps m (repS m)).2.1 (deedS room s ps m (repS m)).2.2.1, (deedS room s ps m (repS m)).2.2) :=
  if_neg (fun h => h.elim (fun h => by rw [hr] at h; cases h) fun h => h hk)
theorem seal_inst (room : Int) (s : USt) (ps : List Pg) (e n : Int) : instAt (sealS room s ps e).2.1 n = instAt s n := by
  unfold sealS
  split
  · rfl
  · split
    · rfl
    · unfold lastS
      split <;> rfl
theorem ans4 (room : Int) (s : USt) (ps : List Pg) {m : MS} (hr : m.rep = false) (hk : m.kind = 4) :
    (answerS room s ps m).1 = true ∧ RepOf m (answerS room s ps m).2.1 ∧ (answerS room s ps m).2.1.val = [] ∧ instAt (answerS room s ps m).2.2.1 1 = instAt s 1 := by
  rw [ans_eq hr (by omega)]
  have hv : ∀ (e : Int) (r : MS) (s : USt), r.val = [] → (finS e r s).val = [] := fun e r s h => by unfold finS; split; exact h; rfl
  unfold deedS
  rw [if_neg (by omega), if_neg (by omega), if_neg (by omega), if_pos hk]
  split
  · dsimp only
    exact ⟨rfl, finS_of (m := m) ⟨rfl, rfl, rfl, rfl, rfl⟩, hv _ _ _ rfl, rfl⟩
  · split
    · dsimp only
      exact ⟨rfl, finS_of (m := m) ⟨rfl, rfl, rfl, rfl, rfl⟩, hv _ _ _ rfl, seal_inst ..⟩
    · dsimp only
      exact ⟨rfl, finS_of (m := m) (repS_of m), hv _ _ _ rfl, seal_inst ..⟩
theorem ans6 (room : Int) (s : USt) (ps : List Pg) {m : MS} (hr : m.rep = false) (hk : m.kind = 6) :
    (answerS room s ps m).1 = true ∧ RepOf m (answerS room s ps m).2.1 ∧ (answerS room s ps m).2.2 = (promiseS room s ps m.at' m.br m.bw).2.2.2.2 ∧ (answerS room s ps m).2.1.err = (promiseS room s ps m.at' m.br m.bw).2.2.2.1 ∧
    ((promiseS room s ps m.at' m.br m.bw).2.2.2.1 = 0 → (answerS room s ps m).2.1.br = (promiseS room s ps m.at' m.br m.bw).1 ∧ (answerS room s ps m).2.1.bw = (promiseS room s ps m.at' m.br m.bw).2.1 ∧ (answerS room s ps m).2.1.val = (promiseS room s ps m.at' m.br m.bw).2.2.1) ∧
    ((promiseS room s ps m.at' m.br m.bw).2.2.2.1 ≠ 0 → (answerS room s ps m).2.1.val = []) := by
  rw [ans_eq hr (by omega)]
  unfold deedS
  rw [if_neg (by omega), if_neg (by omega), if_neg (by omega), if_neg (by omega), if_neg (by omega), if_pos hk]
  dsimp only
  refine ⟨rfl, finS_of (m := m) ⟨rfl, rfl, rfl, rfl, rfl⟩, rfl, ?_, fun h => ?_, fun h => ?_⟩
  · unfold finS; split <;> rfl
  · unfold finS; rw [if_pos h]; exact ⟨rfl, rfl, rfl⟩
  · unfold finS; rw [if_neg h]
theorem ans7 (room : Int) (s : USt) (ps : List Pg) {m : MS} (hr : m.rep = false) (hk : m.kind = 7) :
    (answerS room s ps m).1 = true ∧ RepOf m (answerS room s ps m).2.1 ∧ (answerS room s ps m).2.2 = (acceptS room s ps m.at' m.br m.bw m.val).2 ∧ (answerS room s ps m).2.1.err = (acceptS room s ps m.at' m.br m.bw m.val).1 ∧ (answerS room s ps m).2.1.val = [] := by
  rw [ans_eq hr (by omega)]
  unfold deedS
  rw [if_neg (by omega), if_neg (by omega), if_neg (by omega), if_neg (by omega), if_neg (by omega), if_neg (by omega)]
  dsimp only
  refine ⟨rfl, finS_of (m := m) (repS_of m), rfl, ?_, ?_⟩
  · unfold finS; split <;> rfl
  · unfold finS; split <;> rfl

def GoodP (p q : PlP) : Prop := rightB q = true ∧ q.ep = p.ep + 1 ∧ q.ch.length = p.ch.length ∧ ∀ (i : Nat) (c : List Int), q.ch[i]? = some c → ∃ d, p.ch[i]? = some d ∧ ∀ u ∈ c, u ∈ d
def SVal (p : PlP) (v : List UInt8) : Prop := v = [] ∨ ∃ q, GoodP p q ∧ v = plS q
theorem SVal.small {p : PlP} {v : List UInt8} (h : SVal p v) : v.length ≤ 1000 := by
  rcases h with rfl | ⟨q, hq, rfl⟩
  · simp
  · have := plS_len (rightP hq.1)
    omega
theorem decP_nil : (decP []).2 ≠ 0 := by decide
theorem SVal.plan {p : PlP} {v : List UInt8} (h : SVal p v) (h0 : (decP v).2 = 0) : GoodP p (decP v).1 := by
  rcases h with rfl | ⟨q, hq, rfl⟩
  · exact absurd h0 decP_nil
  · rw [decP_plS hq.1]; exact hq
theorem SVal.own {g : AdvS} (hr : rightB g.old = true) : SVal g.old (ownA g) := by
  unfold ownA
  split
  · rename_i h
    obtain ⟨h1, h2⟩ := nextP_right hr h
    refine .inr ⟨_, ⟨h1, ?_, ?_, fun i c hc => ?_⟩, rfl⟩
    · rw [h2]
    · rw [h2]; simp
    · rw [h2] at hc
      simp only [List.getElem?_map] at hc
      obtain ⟨d, hd, rfl⟩ := Option.map_eq_some_iff.1 hc
      refine ⟨d, hd, fun u hu => ?_⟩
      unfold stayS at hu
      exact (List.mem_filter.1 hu).1
  · exact .inl rfl
end Go.Proofs.YtbmajijnjkicmaaGreatDoor



namespace Go.Proofs.YtbmajijnjkicmaaGreatDoor
open Go.Proofs.YtbmajijnjkicmaaGreatDoor RX
set_option maxRecDepth 100000

structure AvOk (S : List UInt8 → Prop) (n : Nat) (p : PlP) (k : Nat) (bs : List BSt) (V : Vt) (i : Nat) (g : AdvS) : Prop where
  ai : AI k g
  old : g.old = p
  un : g.units = n
  wh : g.who = i + 1
  ow : g.st = 2 → S g.own
  s1 : g.st = 1 → ∀ x ∈ bs, x.who ≠ i + 1
  s2 : g.st = 2 → ∃ (j : Nat) (s : BSt), g.prop = some s ∧ bs[j]? = some s ∧ s.who = i + 1 ∧ ∀ x ∈ bs, x.who = (i : Int) + 1 → x.rnd ≤ s.rnd
  s3 : 3 ≤ g.st → g.st ≠ 6 → ∃ b v, ChosB n V b v ∧ decP v = (g.plan, 0) ∧ GoodP p g.plan
structure Ext (i : Nat) (bs bs' : List BSt) : Prop where
  new : ∀ x ∈ bs', x ∈ bs ∨ x.who = (i : Int) + 1
  old : ∀ (j : Nat) (x : BSt), bs[j]? = some x → x.who ≠ (i : Int) + 1 → bs'[j]? = some x
theorem Ext.refl (i : Nat) (bs : List BSt) : Ext i bs bs := ⟨fun _ h => .inl h, fun _ _ h _ => h⟩
theorem Ext.trans {i : Nat} {a b c : List BSt} (h : Ext i a b) (k : Ext i b c) : Ext i a c :=
  ⟨fun x hx => (k.new x hx).elim (fun h' => h.new x h') .inr, fun j x hx hw => k.old j x (h.old j x hx hw) hw⟩
theorem Ext.set {i : Nat} {bs : List BSt} {j : Nat} {s s' : BSt} (hj : bs[j]? = some s) (hs : s.who = i + 1) (hs' : s'.who = i + 1) : Ext i bs (bs.set j s') :=
  ⟨fun x hx => (List.mem_or_eq_of_mem_set hx).imp (fun h => h) (fun (e : x = s') => by rw [e]; exact hs'), fun q x hx hw => by
    rw [List.getElem?_set]
    split
    · rename_i e; subst e; rw [hj] at hx; cases hx; exact absurd hs hw
    · exact hx⟩
theorem Ext.snoc {i : Nat} (bs : List BSt) {s : BSt} (hs : s.who = i + 1) : Ext i bs (bs ++ [s]) :=
  ⟨fun x hx => (List.mem_append.1 hx).imp (fun h => h) (fun e => by rw [List.mem_singleton.1 e]; exact hs), fun j x hx _ => by
    rw [List.getElem?_append_left (List.getElem?_eq_some_iff.1 hx).1]; exact hx⟩
theorem AvOk.other {S : List UInt8 → Prop} {n : Nat} {p : PlP} {k : Nat} {bs bs' : List BSt} {V V' : Vt} {i q : Nat} {g : AdvS} (h : AvOk S n p k bs V q g) (hq : q ≠ i) (e : Ext i bs bs') (hV : ∀ y ∈ V, y ∈ V') {k' : Nat} (hk : k ≤ k') : AvOk S n p k' bs' V' q g := by
  refine ⟨h.ai.mono hk, h.old, h.un, h.wh, h.ow, fun h1 x hx => ?_, fun h2 => ?_, fun h3 h6 => ?_⟩
  · rcases e.new x hx with hx | hx
    · exact h.s1 h1 x hx
    · omega
  · obtain ⟨j, s, a, b, c, d⟩ := h.s2 h2
    refine ⟨j, s, a, e.old j s b (by omega), c, fun x hx hw => ?_⟩
    rcases e.new x hx with hx | hx
    · exact d x hx hw
    · omega
  · obtain ⟨b, v, hc, hd⟩ := h.s3 h3 h6
    exact ⟨b, v, hc.more hV, hd⟩
theorem AvOk.more {S : List UInt8 → Prop} {n : Nat} {p : PlP} {k : Nat} {bs : List BSt} {V V' : Vt} {i : Nat} {g : AdvS} (h : AvOk S n p k bs V i g) (hV : ∀ y ∈ V, y ∈ V') {k' : Nat} (hk : k ≤ k') : AvOk S n p k' bs V' i g :=
  ⟨h.ai.mono hk, h.old, h.un, h.wh, h.ow, h.s1, h.s2, fun h3 h6 => let ⟨b, v, hc, hd⟩ := h.s3 h3 h6; ⟨b, v, hc.more hV, hd⟩⟩
theorem fresh_bal {bs : List BSt} {i : Nat} {r : Int} (hr : ∀ x ∈ bs, x.who = (i : Int) + 1 → x.rnd < r) {n : Nat} {us : List InstS} {V : Vt} (px : PX n us bs V) (hi : i < 1000) : ∀ (j : Nat) (g : BSt), bs[j]? = some g → bnG g ≠ bnN r (i + 1) := fun j g hg e => by
  have hG := px.gg j g hg
  have h1 := hG.who
  have h2 := hG.rnd
  unfold bnG bnN at e
  have hw : g.who = (i : Int) + 1 := by omega
  have := hr g (List.mem_of_getElem? hg) hw
  omega
theorem AvOk.chooses {S : List UInt8 → Prop} {n : Nat} {p : PlP} {k : Nat} {us : List InstS} {bs : List BSt} {V : Vt} {i : Nat} {g g1 : AdvS} (hn : 1 ≤ n ∧ n ≤ 7) (hi : i < 1000) (h : AvOk S n p k bs V i g) (h1 : g.st = 1) (px : PX n us bs V) (pv : PV S us bs)
    (e2 : g1.old = g.old) (e3 : g1.units = g.units) (e4 : g1.who = g.who) (hai : AI (k + 1) (chooseA g1)) (hsv : S (ownA g1)) :
    ∃ bs', Ext i bs bs' ∧ PX n us bs' V ∧ PV S us bs' ∧ AvOk S n p (k + 1) bs' V i (chooseA g1) := by
  have hst : startB g1.units 1 g1.who (ownA g1) = startB n 1 ((i : Int) + 1) (ownA g1) := by rw [e3, e4, h.un, h.wh]
  refine ⟨bs ++ [startB n 1 ((i : Int) + 1) (ownA g1)], .snoc bs rfl, px.begin hn.1 (ownA g1) (by omega) (by omega) (by unfold bnN; omega) (fresh_bal (fun x hx hw => absurd hw (h.s1 h1 x hx)) px hi), pv.begin hsv, ⟨hai, by show g1.old = p; rw [e2, h.old], by show g1.units = n; rw [e3, h.un], by show g1.who = _; rw [e4, h.wh], fun _ => hsv, fun h => absurd (show (2 : Int) = 1 from h) (by decide), fun _ => ⟨bs.length, startB n 1 ((i : Int) + 1) (ownA g1), ?_, ?_, rfl, fun x hx hw => ?_⟩, fun h => absurd (show (3 : Int) ≤ 2 from h) (by decide)⟩⟩
  · show some (startB g1.units 1 g1.who (ownA g1)) = _
    rw [hst]
  · simp
  · rcases List.mem_append.1 hx with hx | hx
    · exact absurd hw (h.s1 h1 x hx)
    · obtain rfl := List.mem_singleton.1 hx; exact Int.le_refl _
def sealG (g : AdvS) (f : Nat) (e : Int) : AdvS := { g with rep := put7 g.rep f true, there := put7 g.there f (decide (e = 0)) }
set_option maxHeartbeats 1000000 in
theorem AvOk.told {S : List UInt8 → Prop} {n : Nat} {p : PlP} {k : Nat} {us : List InstS} {bs : List BSt} {V : Vt} {i : Nat} {g g' : AdvS} (hn : 1 ≤ n ∧ n ≤ 7) (hi : i < 1000) (hk : k ≤ 99999) (h : AvOk S n p k bs V i g) (px : PX n us bs V) (pv : PV S us bs) {r : MS} (hv : r.val.length ≤ 1000) {a : Nat} (hfr : r.fr = a)
    (r6 : r.kind = 6 → ∀ (j : Nat) (s : BSt), g.prop = some s → bs[j]? = some s → s.phase = 1 → r.err = 0 → AnP us V (bnG s) ((a : Int), ⟨true, r.br, r.bw, r.val⟩))
    (r7 : r.kind ≠ 6 → ∀ (j : Nat) (s : BSt), g.st = 2 → g.prop = some s → bs[j]? = some s → s.phase = 2 → r.err = 0 → (a, bnG s, s.val) ∈ V)
    (hS : ∀ v, S v → SVal p v) (hown : g.st = 1 → asksL (sealG g r.fr.toNat r.err) = [] → S (ownA (sealG g r.fr.toNat r.err)))
    (ht : tolR g r g') : ∃ bs', Ext i bs bs' ∧ PX n us bs' V ∧ PV S us bs' ∧ AvOk S n p (k + 1) bs' V i g' := by
  obtain ⟨hai, hmono, _, eo, eu, ew⟩ := h.ai.told hk hv ht
  have hrg := h.ai.rg
  unfold tolR at ht
  split at ht
  · obtain ⟨t1, t2, t3, t4, t5⟩ := ht
    have hcs : g.st = 1 ∨ g.st = 2 ∨ g.st = 3 ∨ g.st = 4 ∨ (g.st ≠ 1 ∧ g.st ≠ 2 ∧ g.st ≠ 3 ∧ g.st ≠ 4) := by omega
    rcases hcs with hs | hs | hs | hs | hs
    · obtain rfl := t1 hs
      unfold sealA at hai ⊢
      have hown := hown hs
      unfold sealG at hown
      generalize hg1 : ({ g with rep := put7 g.rep r.fr.toNat true, there := put7 g.there r.fr.toNat (decide (r.err = 0)) } : AdvS) = g1 at hai hown ⊢
      have e1 : g1.st = 1 ∧ g1.old = g.old ∧ g1.units = g.units ∧ g1.who = g.who ∧ g1.own = g.own := by subst hg1; exact ⟨hs, rfl, rfl, rfl, rfl⟩
      obtain ⟨e1, e2, e3, e4, e5⟩ := e1
      split
      · rename_i hc
        rw [if_pos hc] at hai
        exact h.chooses hn hi hs px pv e2 e3 e4 hai (hown hc)
      · rename_i hc
        rw [if_neg hc] at hai
        exact ⟨bs, .refl _ _, px, pv, hai, e2.trans h.old, e3.trans h.un, e4.trans h.wh, by omega, fun _ => h.s1 hs, by omega, by omega⟩
    · obtain ⟨s, s', hp, hst, rfl⟩ := t2 hs
      obtain ⟨j, s0, hp0, hj, hw, hmax⟩ := h.s2 hs
      rw [hp] at hp0; cases hp0
      have hr := h.ai.r (by omega)
      have key : PX n us (bs.set j s') V ∧ PV S us (bs.set j s') ∧ s'.rnd = s.rnd ∧ s'.who = s.who := by
        unfold stepB at hst
        split at hst
        · rename_i hk6
          rw [hfr] at hst
          obtain ⟨q1, q2⟩ := px.took1 pv hj a r.br r.bw r.val r.err hv (fun e1 e2 => r6 hk6 j s hp hj e1 e2) hst
          have := prom_bal hst
          exact ⟨q1, q2, this.1, this.2.1⟩
        · rename_i hk6
          rw [hfr] at hst
          subst hst
          obtain ⟨q1, q2⟩ := px.took2 pv hj a r.err (fun e1 e2 => r7 hk6 j s hs hp hj e1 e2)
          have := acc_bal s a r.err
          exact ⟨q1, q2, this.1, this.2.1⟩
      obtain ⟨q1, q2, hrn, hwh⟩ := key
      have hjl := (List.getElem?_eq_some_iff.1 hj).1
      have hj' : (bs.set j s')[j]? = some s' := by rw [List.getElem?_set_self hjl]
      have hmax' : ∀ x ∈ bs.set j s', x.who = (i : Int) + 1 → x.rnd ≤ s'.rnd := fun x hx hxw => by
        rcases List.mem_or_eq_of_mem_set hx with hx | rfl
        · rw [hrn]; exact hmax x hx hxw
        · exact Int.le_refl _
      have hE : Ext i bs (bs.set j s') := .set hj hw (hwh.trans hw)
      have hG := q1.gg j s' hj'
      obtain ⟨sp, hsp, hPI⟩ := h.ai.s2 hs
      rw [hp] at hsp; cases hsp
      unfold outA at hai ⊢
      split
      · rename_i h4
        rw [if_pos h4] at hai
        have hst' : startB g.units (s'.rnd + 1) g.who g.own = startB n (s'.rnd + 1) ((i : Int) + 1) g.own := by rw [h.un, h.wh]
        refine ⟨bs.set j s' ++ [startB n (s'.rnd + 1) ((i : Int) + 1) g.own], hE.trans (.snoc _ rfl), q1.begin hn.1 g.own (by have := hPI.rn; rw [hrn]; omega) (by omega) (by have := hPI.rn; unfold bnN; rw [hrn]; omega) (fresh_bal (fun x hx hxw => by have := hmax' x hx hxw; omega) q1 hi), q2.begin (h.ow hs), ⟨hai, h.old, h.un, h.wh, h.ow, fun h1 => absurd hs (by rw [show g.st = 1 from h1]; decide), fun _ => ⟨(bs.set j s').length, startB n (s'.rnd + 1) ((i : Int) + 1) g.own, ?_, ?_, rfl, fun x hx hxw => ?_⟩, fun h3 => absurd hs (by have : 3 ≤ g.st := h3; omega)⟩⟩
        · show some (startB g.units (s'.rnd + 1) g.who g.own) = _
          rw [hst']
        · simp
        · rcases List.mem_append.1 hx with hx | hx
          · have := hmax' x hx hxw
            show x.rnd ≤ s'.rnd + 1; omega
          · obtain rfl := List.mem_singleton.1 hx; exact Int.le_refl _
      · rename_i h4
        rw [if_neg h4] at hai
        split
        · rename_i h3
          rw [if_pos h3] at hai
          split
          · rename_i hb
            rw [if_pos hb] at hai
            exact ⟨bs.set j s', hE, q1, q2, hai, h.old, h.un, h.wh, fun h1 => absurd (show (6 : Int) = 2 from h1) (by decide), fun h1 => absurd (show (6 : Int) = 1 from h1) (by decide), fun h1 => absurd (show (6 : Int) = 2 from h1) (by decide), fun _ h6 => absurd rfl h6⟩
          · rename_i hb
            rw [if_neg hb] at hai
            have h0 : (decP s'.val).2 = 0 := Classical.byContradiction fun e => hb (.inl e)
            have hS' : SVal p s'.val := hS _ (q2.g s' (List.mem_of_getElem? hj'))
            exact ⟨bs.set j s', hE, q1, q2, hai, h.old, h.un, h.wh, fun h1 => absurd (show (3 : Int) = 2 from h1) (by decide), fun h1 => absurd (show (3 : Int) = 1 from h1) (by decide), fun h1 => absurd (show (3 : Int) = 2 from h1) (by decide), fun _ _ => ⟨bnG s', s'.val, hG.p3 h3, by rw [← h0], hS'.plan h0⟩⟩
        · rename_i h3
          rw [if_neg h3] at hai
          exact ⟨bs.set j s', hE, q1, q2, hai, h.old, h.un, h.wh, h.ow, fun h1 => absurd hs (by rw [show g.st = 1 from h1]; decide), fun _ => ⟨j, s', rfl, hj', hwh.trans hw, hmax'⟩, fun h3' => absurd hs (by have : 3 ≤ g.st := h3'; omega)⟩
    · obtain rfl := t3 hs
      refine ⟨bs, .refl _ _, px, pv, hai, eo.trans h.old, eu.trans h.un, ew.trans h.wh, by omega, by omega, by omega, fun _ _ => ?_⟩
      · obtain ⟨b, v, hc, hd⟩ := h.s3 (by omega) (by omega)
        refine ⟨b, v, hc, ?_⟩
        unfold tellA; split
        · split <;> exact hd
        · split
          · exact hd
          · split <;> exact hd
    · obtain rfl := t4 hs
      obtain ⟨b, v, hc, hd⟩ := h.s3 (by omega) (by omega)
      exact ⟨bs, .refl _ _, px, pv, hai, h.old, h.un, h.wh, by omega, by omega, by omega, fun _ _ => ⟨b, v, hc, hd⟩⟩
    · obtain rfl := t5 hs.1 hs.2.1 hs.2.2.1 hs.2.2.2
      exact ⟨bs, .refl _ _, px, pv, h.more (fun _ h => h) (Nat.le_succ k)⟩
  · subst ht
    exact ⟨bs, .refl _ _, px, pv, h.more (fun _ h => h) (Nat.le_succ k)⟩
end Go.Proofs.YtbmajijnjkicmaaGreatDoor



namespace Go.Proofs.YtbmajijnjkicmaaGreatDoor
open Go.Proofs.YtbmajijnjkicmaaGreatDoor RX
set_option maxRecDepth 100000

theorem AI.choose {k : Nat} {g : AdvS} (h : AI k g) (hs : g.st = 1) (hk : k ≤ 99999) : AI (k + 1) (chooseA g) := by
  have hr := h.r (by omega)
  have hu7 := h.u0
  have hw := ownA_len (g := g) hr.1
  have hP : PI g.units (k + 1) (startB g.units 1 g.who (ownA g)) := .start hr.2.2.1 (by omega) (by omega)
  refine ⟨⟨by show (1 : Int) ≤ 2; omega, by show (2 : Int) ≤ 6; omega⟩, fun _ => hr, h.e0, hu7, by show (ownA g).length ≤ 1000; omega,
    fun h => absurd (show (2 : Int) = 1 from h) (by decide), fun _ => ⟨_, rfl, hP⟩, fun h => absurd (show (2 : Int) = 3 from h) (by decide), fun s e => ?_⟩
  obtain rfl : startB g.units 1 g.who (ownA g) = s := Option.some.inj e
  exact hP.safe (by omega) (by omega) (by omega)
def OneI (S : List UInt8 → Prop) (n : Nat) (p : PlP) (k : Nat) (w : NS) (gs : List AdvS) (ch : Option PlP) : Prop :=
  ∃ bs V, PX n (w.l.map UR.i1) bs V ∧ PV S (w.l.map UR.i1) bs ∧ (∀ (i : Nat) (g : AdvS), gs[i]? = some g → AvOk S n p k bs V i g) ∧ (∀ q, ch = some q → ∃ b v, ChosB n V b v ∧ decP v = (q, 0))
theorem OneI.len {S : List UInt8 → Prop} {n : Nat} {p : PlP} {k : Nat} {w : NS} {gs : List AdvS} {ch : Option PlP} (h : OneI S n p k w gs ch) : w.l.length = n := by
  obtain ⟨bs, V, px, _⟩ := h
  have := px.len
  rwa [List.length_map] at this
theorem OneI.ai {S : List UInt8 → Prop} {n : Nat} {p : PlP} {k : Nat} {w : NS} {gs : List AdvS} {ch : Option PlP} (h : OneI S n p k w gs ch) {i : Nat} {g : AdvS} (hg : gs[i]? = some g) : AI k g := by
  obtain ⟨bs, V, _, _, ha, _⟩ := h
  exact (ha i g hg).ai
theorem set_get {α : Type} {l : List α} {i q : Nat} {x y : α} (h : (l.set i x)[q]? = some y) : (q = i ∧ y = x) ∨ (q ≠ i ∧ l[q]? = some y) := by
  rw [List.getElem?_set] at h
  split at h
  · rename_i e
    split at h
    · cases h; exact .inl ⟨e.symm, rfl⟩
    · cases h
  · rename_i e; exact .inr ⟨fun e' => e e'.symm, h⟩
theorem OneI.push {S : List UInt8 → Prop} {n : Nat} {p : PlP} {k : Nat} {w : NS} {gs : List AdvS} {ch : Option PlP} (hn : 1 ≤ n ∧ n ≤ 7) (hk : k ≤ 99999) (h : OneI S n p k w gs ch) {i : Nat} {g : AdvS} (hg : gs[i]? = some g) (hi : i < 1000) (hown : g.st = 1 → (g.old.ch.all fun c => c.any fun u => g.there u.toNat) = true → S (ownA g)) : OneI S n p (k + 1) w (gs.set i (pushA g)) ch := by
  obtain ⟨bs, V, px, pv, ha, hc⟩ := h
  have hA := ha i g hg
  have key : ∃ bs', Ext i bs bs' ∧ PX n (w.l.map UR.i1) bs' V ∧ PV S (w.l.map UR.i1) bs' ∧ AvOk S n p (k + 1) bs' V i (pushA g) := by
    unfold pushA
    split
    · rename_i hp
      exact hA.chooses hn hi hp.1 px pv rfl rfl rfl (hA.ai.choose hp.1 hk) (hown hp.1 hp.2)
    · exact ⟨bs, .refl _ _, px, pv, hA.more (fun _ h => h) (Nat.le_succ k)⟩
  obtain ⟨bs', hE, px', pv', hA'⟩ := key
  refine ⟨bs', V, px', pv', fun q y hy => ?_, hc⟩
  rcases set_get hy with ⟨rfl, rfl⟩ | ⟨hq, hy⟩
  · exact hA'
  · exact (ha q y hy).other hq hE (fun _ h => h) (Nat.le_succ k)
set_option maxHeartbeats 1000000 in
theorem OneI.ask {S : List UInt8 → Prop} {n : Nat} {p : PlP} {k : Nat} {w : NS} {gs : List AdvS} {ch : Option PlP} (hn : 1 ≤ n ∧ n ≤ 7) (hk : k ≤ 99999) (hp0 : p.ep = 0) (h : OneI S n p k w gs ch) {i : Nat} {g : AdvS} (hg : gs[i]? = some g) (hi : i < 1000) {m : MS} (hm : m ∈ asksL g) (hS : ∀ v, S v → SVal p v)
    (hown : g.st = 1 → asksL (sealG g (askN w m).2.1.fr.toNat (askN w m).2.1.err) = [] → S (ownA (sealG g (askN w m).2.1.fr.toNat (askN w m).2.1.err))) :
    OneI S n p (k + 1) (askN w m).2.2 gs ch ∧ (askN w m).2.1.val.length ≤ 1000 ∧ ((askN w m).1 = true → ∀ g', tolR g (askN w m).2.1 g' → OneI S n p (k + 1) (askN w m).2.2 (gs.set i g') ch) := by
  obtain ⟨bs, V, px, pv, ha, hc⟩ := h
  have hA := ha i g hg
  -- it is enough to show what a unit's answer leaves
  suffices hs : ∃ V', (∀ y ∈ V, y ∈ V') ∧ PX n ((askN w m).2.2.l.map UR.i1) bs V' ∧ PV S ((askN w m).2.2.l.map UR.i1) bs ∧ (askN w m).2.1.val.length ≤ 1000 ∧ ((askN w m).1 = true → ∃ a : Nat, (askN w m).2.1.fr = a ∧
      ((askN w m).2.1.kind = 6 → ∀ (j : Nat) (s : BSt), g.prop = some s → bs[j]? = some s → s.phase = 1 → (askN w m).2.1.err = 0 → AnP ((askN w m).2.2.l.map UR.i1) V' (bnG s) ((a : Int), ⟨true, (askN w m).2.1.br, (askN w m).2.1.bw, (askN w m).2.1.val⟩)) ∧
      ((askN w m).2.1.kind ≠ 6 → ∀ (j : Nat) (s : BSt), g.st = 2 → g.prop = some s → bs[j]? = some s → s.phase = 2 → (askN w m).2.1.err = 0 → (a, bnG s, s.val) ∈ V')) by
    obtain ⟨V', hV, px', pv', hv, hr⟩ := hs
    have hc' : ∀ q, ch = some q → ∃ b v, ChosB n V' b v ∧ decP v = (q, 0) := fun q hq => let ⟨b, v, h1, h2⟩ := hc q hq; ⟨b, v, h1.more hV, h2⟩
    refine ⟨⟨bs, V', px', pv', fun q y hy => (ha q y hy).more hV (Nat.le_succ k), hc'⟩, hv, fun ht g' hg' => ?_⟩
    obtain ⟨a, f1, f2, f3⟩ := hr ht
    obtain ⟨bs', hE, px2, pv2, hA'⟩ := (hA.more hV (Nat.le_refl k)).told hn hi hk px' pv' hv f1 f2 f3 hS hown hg'
    refine ⟨bs', V', px2, pv2, fun q y hy => ?_, hc'⟩
    rcases set_get hy with ⟨rfl, rfl⟩ | ⟨hq, hy⟩
    · exact hA'
    · exact (ha q y hy).other hq hE hV (Nat.le_succ k)
  by_cases h4 : g.st = 4
  · unfold asksL at hm
    rw [if_pos h4] at hm
    obtain rfl := List.mem_singleton.1 hm
    have ea : askN w (startA g) = (true, sqAns w.e w.n (startA g), { w with e := (startT w.e w.n (startA g).ep (startA g).at').2.1, n := (startT w.e w.n (startA g).ep (startA g).at').2.2 }) := if_pos rfl
    rw [ea]
    exact ⟨V, fun _ h => h, px, pv, by show ([] : List UInt8).length ≤ 1000; simp, fun _ => ⟨7, rfl, fun e => absurd (show (9 : Int) = 6 from e) (by decide), fun _ _ _ h2 => by omega⟩⟩
  · unfold asksL at hm
    rw [if_neg h4] at hm
    obtain ⟨u, hu, rfl⟩ := List.mem_map.1 hm
    obtain ⟨hu7, hask⟩ := List.mem_filter.1 hu
    have hu7 := List.mem_range.1 hu7
    have hto : (askA g u).to = u := askA_to g u
    have hrep : (askA g u).rep = false := by
      unfold askA; split
      · split <;> rfl
      · rfl
    unfold askN
    rw [if_neg (by rw [hto]; omega), hto, if_neg (by omega), Int.toNat_natCast]
    cases hx : w.l[u]? with
    | none => exact ⟨V, fun _ h => h, px, pv, by show ([] : List UInt8).length ≤ 1000; simp, fun h => by cases h⟩
    | some x =>
      dsimp only
      have same : ∀ x' : UR, x'.i1 = x.i1 → (w.put u x').l.map UR.i1 = w.l.map UR.i1 := fun x' e => by
        show (w.l.set u x').map UR.i1 = _
        rw [List.map_set, e]
        exact set_back (by rw [List.getElem?_map, hx]; rfl)
      by_cases h2 : g.st = 2
      · obtain ⟨j, s, hp, hj, hw, _⟩ := hA.s2 h2
        have hM : askA g u = ⟨0, u, 0, false, if s.phase = 2 then 7 else 6, g.old.ep + 1, g.old.ep + 1, zC, s.rnd, s.who, if s.phase = 2 then s.val else [], 0, 0, 0, 0⟩ := by unfold askA; rw [if_pos h2, hp]
        have hat : (askA g u).at' = 1 := by rw [hM, hA.old, hp0]; rfl
        have hbr : (askA g u).br = s.rnd ∧ (askA g u).bw = s.who := by rw [hM]; exact ⟨rfl, rfl⟩
        by_cases hph : s.phase = 2
        · have hk7 : (askA g u).kind = 7 := by rw [hM]; exact if_pos hph
          have hval : (askA g u).val = s.val := by rw [hM]; exact if_pos hph
          obtain ⟨a1, a2, a3, a4, a5⟩ := ans7 900 x.s x.ps hrep hk7
          rw [hat, hbr.1, hbr.2, hval] at a3 a4
          obtain ⟨V', hV, px', pv', hvote⟩ := px.acc pv hx hj hph
          rw [a3]
          refine ⟨V', hV, px', pv', by rw [a5]; simp, fun _ => ⟨u, by rw [a2.fr, hto], fun e => absurd e (by rw [a2.kind, hk7]; decide), fun _ j' s' _ hp' hj' _ he => ?_⟩⟩
          rw [hp] at hp'; cases hp'
          rw [a4] at he
          exact hvote he
        · have hk6 : (askA g u).kind = 6 := by rw [hM]; exact if_neg hph
          obtain ⟨a1, a2, a3, a4, a5, a6⟩ := ans6 900 x.s x.ps hrep hk6
          rw [hat, hbr.1, hbr.2] at a3 a4 a5 a6
          obtain ⟨px', pv', hl, hanp⟩ := px.prom pv hx hj
          rw [a3]
          refine ⟨V, fun _ h => h, px', pv', ?_, fun _ => ⟨u, by rw [a2.fr, hto], fun _ j' s' hp' hj' h1 he => ?_, fun e => absurd (a2.kind.trans hk6) e⟩⟩
          · by_cases e0 : (promiseS 900 x.s x.ps 1 s.rnd s.who).2.2.2.1 = 0
            · rw [(a5 e0).2.2]; exact hl
            · rw [a6 e0]; simp
          · rw [hp] at hp'; cases hp'
            rw [a4] at he
            obtain ⟨b1, b2, b3⟩ := a5 he
            rw [b1, b2, b3]
            exact hanp h1 he
      · have hk4 : (askA g u).kind = 4 := by unfold askA; rw [if_neg h2]
        obtain ⟨a1, a2, a3, a4⟩ := ans4 900 x.s x.ps hrep hk4
        rw [same _ a4]
        exact ⟨V, fun _ h => h, px, pv, by rw [a3]; simp, fun _ => ⟨u, by rw [a2.fr, hto], fun e => absurd e (by rw [a2.kind, hk4]; decide), fun _ _ _ h2' => absurd h2' h2⟩⟩
end Go.Proofs.YtbmajijnjkicmaaGreatDoor



namespace Go.Proofs.YtbmajijnjkicmaaGreatDoor
open Go.Proofs.YtbmajijnjkicmaaGreatDoor RX
set_option maxRecDepth 100000

structure LvU (B : Int) (K : Nat) (T : Int) (u : UR) : Prop where
  bal : bnP u.i1 ≤ B
  ps : u.ps.length ≤ K
  ep : u.s.epoch = 0 ∨ u.s.epoch = 1
  tl : T ≤ max u.s.top u.s.low ∧ max u.s.top u.s.low ≤ 64
theorem LvU.mono {B B' : Int} {K K' : Nat} {T : Int} {u : UR} (h : LvU B K T u) (hb : B ≤ B') (hk : K ≤ K') : LvU B' K' T u := ⟨Int.le_trans h.bal hb, Nat.le_trans h.ps hk, h.ep, h.tl⟩
def UR.aft (u : UR) (m : MS) : UR := ⟨u.ub, u.bd, (answerS 900 u.s u.ps m).2.2.1, (answerS 900 u.s u.ps m).2.2.2⟩
theorem LvU.seal {B : Int} {K : Nat} {T : Int} {u : UR} (h : LvU B K T u) (hK : K < 900) {m : MS} (hr : m.rep = false) (hk : m.kind = 4) (he : m.ep = 1) :
    (answerS 900 u.s u.ps m).2.1.err = 0 ∧ (answerS 900 u.s u.ps m).2.1.tail = max u.s.top u.s.low ∧ (answerS 900 u.s u.ps m).2.1.low = u.s.low ∧ LvU B (K + 1) T (u.aft m) ∧ (u.aft m).s.epoch = 1 := by
  have hps := h.ps
  unfold UR.aft
  rw [ans_eq hr (by omega)]
  unfold deedS
  rw [if_neg (by omega), if_neg (by omega), if_neg (by omega), if_pos hk, he]
  by_cases h1 : u.s.epoch = 1
  · rw [if_pos h1]
    dsimp only
    unfold finS
    rw [if_pos rfl]
    exact ⟨rfl, rfl, rfl, ⟨h.bal, by show u.ps.length ≤ K + 1; omega, h.ep, h.tl⟩, h1⟩
  · have h0 : u.s.epoch = 0 := h.ep.resolve_right h1
    have hs : sealS 900 u.s u.ps 1 = (0, { u.s with epoch := 1 }, u.ps ++ [⟨1, pageL 4 [1]⟩]) := by
      unfold sealS
      rw [if_neg (by omega), if_neg (by omega)]
      unfold lastS
      rw [if_neg (by omega)]
    rw [if_neg h1, hs, if_pos rfl]
    dsimp only
    unfold finS
    rw [if_pos rfl]
    exact ⟨rfl, rfl, rfl, ⟨h.bal, by simp; omega, .inr rfl, h.tl⟩, rfl⟩
theorem prom_same (room : Int) (s : USt) (ps : List Pg) (n r w : Int) : (promiseS room s ps n r w).2.2.2.2.1.epoch = s.epoch ∧ (promiseS room s ps n r w).2.2.2.2.1.top = s.top ∧ (promiseS room s ps n r w).2.2.2.2.1.low = s.low := by
  unfold promiseS
  split
  · exact ⟨rfl, rfl, rfl⟩
  · split
    · exact ⟨rfl, rfl, rfl⟩
    · split
      · exact ⟨rfl, rfl, rfl⟩
      · split <;> exact ⟨rfl, rfl, rfl⟩
theorem acc_same (room : Int) (s : USt) (ps : List Pg) (n r w : Int) (l : List UInt8) : (acceptS room s ps n r w l).2.1.epoch = s.epoch ∧ (acceptS room s ps n r w l).2.1.top = s.top ∧ (acceptS room s ps n r w l).2.1.low = s.low := by
  unfold acceptS
  split
  · exact ⟨rfl, rfl, rfl⟩
  · split
    · exact ⟨rfl, rfl, rfl⟩
    · split
      · exact ⟨rfl, rfl, rfl⟩
      · unfold lastS
        split <;> exact ⟨rfl, rfl, rfl⟩
theorem LvU.prom {B : Int} {K : Nat} {T : Int} {u : UR} (h : LvU B K T u) (hK : K < 900) {m : MS} (hr : m.rep = false) (hk : m.kind = 6) (hat : m.at' = 1) (hbr : 0 ≤ m.br ∧ m.br ≤ 1000000) (hbw : 0 ≤ m.bw ∧ m.bw < 1000000) (hB : bnN m.br m.bw = B) (hpw : 0 ≤ u.i1.pw ∧ u.i1.pw < 1000000) :
    (answerS 900 u.s u.ps m).2.1.err = 0 ∧ LvU B (K + 1) T (u.aft m) ∧ (u.aft m).s.epoch = u.s.epoch := by
  have hps := h.ps
  obtain ⟨_, _, a3, a4, _⟩ := ans6 900 u.s u.ps hr hk
  rw [hat] at a3 a4
  have hz := prom_zero u hbr hbw hpw (by rw [hB]; exact h.bal) (by omega)
  have hsm := prom_same 900 u.s u.ps 1 m.br m.bw
  have e : u.aft m = u.prom m.br m.bw := by unfold UR.aft; rw [a3]
  refine ⟨by rw [a4]; exact hz, ?_, ?_⟩
  · rw [e]
    refine ⟨prom_low u hbr hbw hpw h.bal (Int.le_of_eq hB), Nat.le_trans (prom_len u _ _) (by omega), ?_, ?_⟩
    · show (promiseS 900 u.s u.ps 1 m.br m.bw).2.2.2.2.1.epoch = 0 ∨ (promiseS 900 u.s u.ps 1 m.br m.bw).2.2.2.2.1.epoch = 1
      rw [hsm.1]; exact h.ep
    · show T ≤ max (promiseS 900 u.s u.ps 1 m.br m.bw).2.2.2.2.1.top (promiseS 900 u.s u.ps 1 m.br m.bw).2.2.2.2.1.low ∧ max (promiseS 900 u.s u.ps 1 m.br m.bw).2.2.2.2.1.top (promiseS 900 u.s u.ps 1 m.br m.bw).2.2.2.2.1.low ≤ 64
      rw [hsm.2.1, hsm.2.2]; exact h.tl
  · rw [e]; exact hsm.1
theorem LvU.acc {B : Int} {K : Nat} {T : Int} {u : UR} (h : LvU B K T u) (hK : K < 900) {m : MS} (hr : m.rep = false) (hk : m.kind = 7) (hat : m.at' = 1) (hbr : 0 ≤ m.br ∧ m.br ≤ 1000000) (hbw : 0 ≤ m.bw ∧ m.bw < 1000000) (hB : bnN m.br m.bw = B) (hv : m.val.length ≤ 1000) (hpw : 0 ≤ u.i1.pw ∧ u.i1.pw < 1000000) :
    (answerS 900 u.s u.ps m).2.1.err = 0 ∧ LvU B (K + 1) T (u.aft m) ∧ (u.aft m).s.epoch = u.s.epoch := by
  have hps := h.ps
  obtain ⟨_, _, a3, a4, _⟩ := ans7 900 u.s u.ps hr hk
  rw [hat] at a3 a4
  have hz := acc_zero u hv hbr hbw hpw (by rw [hB]; exact h.bal) (by omega)
  have hsm := acc_same 900 u.s u.ps 1 m.br m.bw m.val
  have e : u.aft m = u.acc m.br m.bw m.val := by unfold UR.aft; rw [a3]
  refine ⟨by rw [a4]; exact hz, ?_, ?_⟩
  · rw [e]
    refine ⟨acc_low u m.val hbr hbw hpw h.bal (Int.le_of_eq hB), Nat.le_trans (acc_len u _ _ _) (by omega), ?_, ?_⟩
    · show (acceptS 900 u.s u.ps 1 m.br m.bw m.val).2.1.epoch = 0 ∨ (acceptS 900 u.s u.ps 1 m.br m.bw m.val).2.1.epoch = 1
      rw [hsm.1]; exact h.ep
    · show T ≤ max (acceptS 900 u.s u.ps 1 m.br m.bw m.val).2.1.top (acceptS 900 u.s u.ps 1 m.br m.bw m.val).2.1.low ∧ max (acceptS 900 u.s u.ps 1 m.br m.bw m.val).2.1.top (acceptS 900 u.s u.ps 1 m.br m.bw m.val).2.1.low ≤ 64
      rw [hsm.2.1, hsm.2.2]; exact h.tl
  · rw [e]; exact hsm.1

def SPlan (p : PlP) (v : List UInt8) : Prop := ∃ q, GoodP p q ∧ v = plS q
theorem SPlan.sval {p : PlP} {v : List UInt8} (h : SPlan p v) : SVal p v := .inr h
theorem ownA_plan {g : AdvS} (hr : rightB g.old = true) (he : g.old.ep < 2147483647) (hc : ∀ c ∈ g.old.ch, ∃ u ∈ c, g.there u.toNat = true) : SPlan g.old (ownA g) := by
  have hR := rightP hr
  have h0 : (nextP g.old (thereL g)).2 = 0 := by
    unfold nextP
    rw [if_neg (by rintro (h | h); exact absurd hr (by rw [h]; decide); omega), if_neg]
    intro h
    obtain ⟨c, hcm, hce⟩ := List.any_eq_true.1 h
    obtain ⟨d, hd, rfl⟩ := List.mem_map.1 hcm
    obtain ⟨u, hu, ht⟩ := hc d hd
    have hrg := (hR.chain hd).2.1 u hu
    have : u ∈ stayS (thereL g) d := by
      unfold stayS
      refine List.mem_filter.2 ⟨hu, decide_eq_true ?_⟩
      unfold thereL
      refine List.mem_map.2 ⟨u.toNat, List.mem_filter.2 ⟨List.mem_range.2 (by omega), ht⟩, by omega⟩
    rw [of_decide_eq_true hce] at this
    cases this
  rcases SVal.own hr with h | h
  · unfold ownA at h
    rw [if_pos h0] at h
    have := decP_plS (nextP_right hr h0).1
    rw [h] at this
    exact absurd (congrArg Prod.snd this) decP_nil
  · exact h

structure Aliv (g : AdvS) : Prop where
  a1 : g.st = 1 → ∀ u : Nat, u < 7 → g.rep u = true → g.there u = true
  a2 : g.st = 2 → ∀ s, g.prop = some s → s.rnd = 1 ∧ ∀ x ∈ s.ans, x.2.ok = true
theorem takeB_yes {s : BSt} {f : Int} {x : BA} (hx : x.ok = true) : (takeB s f x).1.phase = s.phase := by
  unfold takeB; rw [if_pos hx]
theorem Aliv.told {k : Nat} {g g' : AdvS} {r : MS} (hA : AI k g) (h : Aliv g) (he : r.err = 0) (ht : tolR g r g') : Aliv g' := by
  unfold tolR at ht
  split at ht
  · obtain ⟨t1, t2, t3, t4, t5⟩ := ht
    have hrg := hA.rg
    have hcs : g.st = 1 ∨ g.st = 2 ∨ g.st = 3 ∨ g.st = 4 ∨ (g.st ≠ 1 ∧ g.st ≠ 2 ∧ g.st ≠ 3 ∧ g.st ≠ 4) := by omega
    rcases hcs with hs | hs | hs | hs | hs
    · obtain rfl := t1 hs
      unfold sealA
      split
      · refine ⟨fun h => absurd (show (2 : Int) = 1 from h) (by decide), fun _ s e => ?_⟩
        obtain rfl := Option.some.inj e
        exact ⟨rfl, fun x hx => by cases hx⟩
      · refine ⟨fun _ u hu hr => ?_, fun h2 => absurd hs (by rw [show g.st = 2 from h2]; decide)⟩
        show put7 g.there r.fr.toNat (decide (r.err = 0)) u = true
        have hr : put7 g.rep r.fr.toNat true u = true := hr
        unfold put7 at hr ⊢
        split
        · exact decide_eq_true he
        · rename_i hne
          rw [if_neg hne] at hr
          exact h.a1 hs u hu hr
    · obtain ⟨s, s', hp, hst, rfl⟩ := t2 hs
      obtain ⟨b1, b2⟩ := h.a2 hs s hp
      obtain ⟨sp, hsp, hPI⟩ := hA.s2 hs
      rw [hp] at hsp; cases hsp
      have key : s'.phase ≠ 4 ∧ s'.rnd = 1 ∧ ∀ x ∈ s'.ans, x.2.ok = true := by
        have tk : ∀ x : BA, x.ok = true → (takeB s r.fr x).1.phase ≠ 4 ∧ (takeB s r.fr x).1.rnd = 1 ∧ ∀ y ∈ (takeB s r.fr x).1.ans, y.2.ok = true := fun x hx => by
          obtain ⟨q1, q2⟩ := takeB_ans s r.fr x
          refine ⟨by rw [takeB_yes hx]; have := hPI.ph; omega, by rw [q2]; exact b1, fun y hy => ?_⟩
          rw [q1] at hy
          rcases List.mem_append.1 hy with hy | hy
          · exact b2 y hy
          · obtain rfl := List.mem_singleton.1 hy; exact hx
        unfold stepB at hst
        split at hst
        · unfold PromB at hst
          split at hst
          · have := tk (promA r.br r.bw r.val r.err) (by unfold promA; rw [if_pos he])
            split at hst
            · obtain ⟨v, _, rfl⟩ := hst
              exact ⟨show (2 : Int) ≠ 4 by decide, this.2.1, fun x hx => by cases hx⟩
            · subst hst; exact this
          · subst hst; exact ⟨by have := hPI.ph; omega, b1, b2⟩
        · subst hst
          unfold accB
          split
          · have := tk ⟨decide (r.err = 0), 0, 0, []⟩ (decide_eq_true he)
            split
            · exact ⟨show (3 : Int) ≠ 4 by decide, this.2.1, this.2.2⟩
            · exact this
          · exact ⟨by have := hPI.ph; omega, b1, b2⟩
      unfold outA
      rw [if_neg key.1]
      split
      · split
        · exact ⟨fun h => absurd (show (6 : Int) = 1 from h) (by decide), fun h => absurd (show (6 : Int) = 2 from h) (by decide)⟩
        · exact ⟨fun h => absurd (show (3 : Int) = 1 from h) (by decide), fun h => absurd (show (3 : Int) = 2 from h) (by decide)⟩
      · refine ⟨fun h1 => absurd hs (by rw [show g.st = 1 from h1]; decide), fun _ s e => ?_⟩
        obtain rfl := Option.some.inj e
        exact key.2
    · obtain rfl := t3 hs
      have : 3 ≤ (tellA g r r.fr.toNat).st := by
        unfold tellA
        rw [if_pos he]
        split
        · show (3 : Int) ≤ 4; decide
        · show 3 ≤ g.st; omega
      exact ⟨fun h => by omega, fun h => by omega⟩
    · obtain rfl := t4 hs
      refine ⟨fun h => ?_, fun h => ?_⟩ <;>
        · have h : (if r.err = 0 ∨ r.err = 8 then (5 : Int) else 6) = _ := h
          split at h <;> omega
    · obtain rfl := t5 hs.1 hs.2.1 hs.2.2.1 hs.2.2.2
      exact h
  · subst ht; exact h
theorem Aliv.push {g : AdvS} (h : Aliv g) : Aliv (pushA g) := by
  unfold pushA
  split
  · refine ⟨fun h => absurd (show (2 : Int) = 1 from h) (by decide), fun _ s e => ?_⟩
    obtain rfl := Option.some.inj e
    exact ⟨rfl, fun x hx => by cases hx⟩
  · exact h
end Go.Proofs.YtbmajijnjkicmaaGreatDoor

