/- Texts of this claim, joined. No condition. -/
import Derived.Test.YtdieogcemmnaaaaGreatDoorRJJ2
import Derived.Test.YtdieogcemmnaaaaGreatDoorRJJ4
import Derived.Test.YtdieogcemmnaaaaGreatDoorRJJ5
import Derived.Test.YtdieogcemmnaaaaGreatDoorRJJ6
import Derived.OpenShut
import Derived.ProofKit
import Derived.ShutString
import Derived.ChangeOld
import Derived.Below
import Derived.SizedLaws
import Derived.Lay
import Derived.LaidMore
import Derived.Test.YtdieogcemmnaaaaGreatDoorTie
import Derived.Test.YtdieogcemmnaaaaGreatDoorCards
import Derived.SevenTiedAt
import Derived.Deep.DeepHandedRow
import Derived.JoinedCond
set_option linter.unusedSimpArgs false
set_option linter.unusedVariables false

namespace Go.Proofs.YtdieogcemmnaaaaGreatDoor
set_option linter.unusedSimpArgs false
set_option linter.unusedVariables false
open Go.Proofs.YtdieogcemmnaaaaGreatDoor RX
set_option maxRecDepth 100000

theorem name03_ok (s : Nm) (hs : s.length ≤ 100000) : Tri Tryz.prog 78 #[sE s] HP.tt (fun v => HP.pure (v = .bool (nameOk s))) := by
  refine tri_of_tree (ρ := [.s s]) mixed Tryz.func78 tree_name03 ?_
  unfold t_name03
  simp only [T.den, E.prop, E.den, RX.look, F1.app, F2.app, Uni.int_i, Uni.nat_n, Uni.bool_c, Uni.str_s, Uni.adr_a, Uni.val_v, Uni.hp_p, hden, cden, V.den, W.den, A.den, BR.den, SA.den, FV.den, capV, exs, exP, allP, Cur.app, List.map_cons, List.map_nil, List.cons_append, List.nil_append, List.drop_succ_cons, List.drop_zero, List.length_cons, List.length_nil, Nat.zero_add, Nat.reduceAdd, Int.neg_neg, Bool.not_not, List.append_nil, Nat.add_zero, List.getElem?_cons_zero, List.getElem?_cons_succ, Decidable.not_not, semW_eq, ne_eq, Nat.reduceEqDiff, not_false_eq_true]
  have yes : ∀ {φ : Bool}, nameOk s = φ → HP.ent HP.tt (HP.pure (Value.bool φ = .bool (nameOk s))) := fun h => .of fun _ _ _ => (by show Value.bool _ = Value.bool _; rw [h])
  refine ⟨fun _ i => ∃ k : Nat, i = k ∧ k ≤ s.length ∧ ∀ c ∈ s.take k, c ≠ 47 ∧ c ≠ 0, fun _ i => s.length - i.toNat, ⟨0, rfl, Nat.zero_le _, by simp⟩, ?_⟩
  rintro _ _ ⟨k, rfl, hk, hb⟩
  refine ⟨fun hlt => ?_, fun hge => ?_⟩
  · obtain ⟨c, hc⟩ := getN (l := s) (k := k) (by omega)
    have hm := List.mem_of_getElem? hc
    refine ⟨c.toNat, strIx (by decide) (by kernel_rfl) rfl hc, fun h => yes ?_, fun h1 => ⟨c.toNat, strIx (by decide) (by kernel_rfl) rfl hc, fun h => yes ?_, fun h2 => ⟨inI64' _ (by omega) (by omega), fun _ => ⟨⟨k + 1, by omega, by omega, fun d hd => ?_⟩, by dsimp only; omega⟩⟩⟩⟩
    · have : c = 47 := UInt8.toNat_inj.1 (by have : (47 : UInt8).toNat = 47 := rfl; omega)
      subst this
      simp [nameOk, hm]
    · have : c = 0 := UInt8.toNat_inj.1 (by have : (0 : UInt8).toNat = 0 := rfl; omega)
      subst this
      simp [nameOk, hm]
    · rw [List.take_add_one, hc, List.mem_append] at hd
      rcases hd with hd | hd
      · exact hb d hd
      · simp at hd
        subst hd
        refine ⟨fun e => h1 (by rw [e]; rfl), fun e => h2 (by rw [e]; rfl)⟩
  · rw [List.take_of_length_le (by omega)] at hb
    have h47 : (47 : UInt8) ∉ s := fun h => (hb _ h).1 rfl
    have h0 : (0 : UInt8) ∉ s := fun h => (hb _ h).2 rfl
    refine ⟨fun h1 => ⟨fun h2 => ⟨fun h3 => yes ?_, fun h3 => yes ?_⟩, fun h2 => yes ?_⟩, fun h1 => yes ?_⟩
    · have h1' : 1 ≤ s.length := by omega
      have h2' : s.length ≤ 16 := by omega
      simp [nameOk, h47, h0, h1', h2', h3]
    · simp [nameOk, h3]
    · have h2' : ¬ s.length ≤ 16 := by omega
      simp [nameOk, h2']
    · have h1' : ¬ 1 ≤ s.length := by omega
      simp [nameOk, h1']
def kindF (T : List Nd) (j : Nat) : Value := .int .i64 (((nodeAt T j).map (·.kind)).getD 0)
def seenF (T : List Nd) (j : Nat) : Value := .int .i64 (refs T j)
def seenE (T : List Nd) (l : List (Nm × Nat)) (j : Nat) : Value := .int .i64 ((refs T j + cntE l j : Nat) : Int)
theorem refs_app (T : List Nd) (x : Nd) (k : Nat) : refs (T ++ [x]) k = refs T k + cntE x.ents k := by simp [refs]
theorem nodeAt_app (T : List Nd) (x : Nd) (k : Nat) : nodeAt (T ++ [x]) k = (nodeAt T k).or (if x.num = k then some x else none) := by
  unfold nodeAt
  rw [List.find?_append]
  congr 1
  by_cases e : x.num = k <;> simp [e]
theorem undInt : Tryz.prog.underlying 3 = some (.int .i64) := by kernel_rfl
theorem undBoR : Tryz.prog.underlying 4 = some .bool := by kernel_rfl
theorem infoInt' : ∃ i, Tryz.prog.info? 3 = some i ∧ i.size = 1 := by
  obtain ⟨i, hi, _, h2, _⟩ := info_parts infoInt
  exact ⟨i, hi, h2⟩
theorem infoBo' : ∃ i, Tryz.prog.info? 4 = some i ∧ i.size = 1 := by
  obtain ⟨i, hi, _, h2, _⟩ := info_parts (show (Tryz.prog.info? 4).map (fun i => (i.zero, i.size, i.bytes)) = some (some (.bool false), 1, 1) by kernel_rfl)
  exact ⟨i, hi, h2⟩
theorem undAr : Tryz.prog.underlying 147 = some (.array 64 3) := by kernel_rfl
theorem undArB : Tryz.prog.underlying 149 = some (.array 64 4) := by kernel_rfl
theorem ixI {b k : Nat} {x : Int} (hx : x = k) (hk : k < 64) {A : HP} : ORead Tryz.prog (idxS 147 (.pointer (some ⟨b, 0, none⟩)) (.int .i64 x)) A (.pointer (some ⟨b, k, none⟩)) := arIx undAr (by kernel_rfl) (by kernel_rfl) hx hk
theorem ixB {b k : Nat} {x : Int} (hx : x = k) (hk : k < 64) {A : HP} : ORead Tryz.prog (idxS 149 (.pointer (some ⟨b, 0, none⟩)) (.int .i64 x)) A (.pointer (some ⟨b, k, none⟩)) := arIx undArB (by kernel_rfl) (by kernel_rfl) hx hk
theorem ldI {b k : Nat} {e : TypeId} {f : Nat → Value} (hk : k < 64) {P : HP} (hP : HP.ent P (Ar e b (arF 64 f))) : ORead Tryz.prog (loadS 3 (.pointer (some ⟨b, k, none⟩))) P (f k) := ORead.ent hP (arLd undInt (by kernel_rfl) (by kernel_rfl) (arF_get hk))
theorem ldB {b k : Nat} {e : TypeId} {f : Nat → Value} (hk : k < 64) {P : HP} (hP : HP.ent P (Ar e b (arF 64 f))) : ORead Tryz.prog (loadS 4 (.pointer (some ⟨b, k, none⟩))) P (f k) := ORead.ent hP (arLd undBoR (by kernel_rfl) (by kernel_rfl) (arF_get hk))
theorem stI {b k : Nat} {e : TypeId} {f : Nat → Value} (x : Int) (hk : k < 64) {P : HP} (hP : HP.ent P (Ar e b (arF 64 f))) {C : Value → HP} (post : ∀ R h, (Ar e b (arF 64 fun j => if j = k then .int .i64 x else f j)).p R h → (C (.tuple #[])).p R h) : OTri Tryz.prog (storeS 3 (.pointer (some ⟨b, k, none⟩)) (.int .i64 x)) P C := by
  obtain ⟨i, hi, hz⟩ := infoInt'
  refine OTri.pre3 ((arSt hi hz rfl rfl (by rw [arF_len]; exact hk)).weak (fun _ _ h => h) ?_) hP
  rintro v R h ⟨rfl, H⟩
  rw [arF_set hk] at H
  exact post R h H
theorem stB {b k : Nat} {e : TypeId} {f : Nat → Value} (x : Bool) (hk : k < 64) {P : HP} (hP : HP.ent P (Ar e b (arF 64 f))) {C : Value → HP} (post : ∀ R h, (Ar e b (arF 64 fun j => if j = k then .bool x else f j)).p R h → (C (.tuple #[])).p R h) : OTri Tryz.prog (storeS 4 (.pointer (some ⟨b, k, none⟩)) (.bool x)) P C := by
  obtain ⟨i, hi, hz⟩ := infoBo'
  refine OTri.pre3 ((arSt hi hz rfl rfl (by rw [arF_len]; exact hk)).weak (fun _ _ h => h) ?_) hP
  rintro v R h ⟨rfl, H⟩
  rw [arF_set hk] at H
  exact post R h H
theorem Ar.congr {e : TypeId} {b : Nat} {f g : Nat → Value} (h : ∀ j < 64, f j = g j) {P : HP} (hP : HP.ent P (Ar e b (arF 64 f))) : HP.ent P (Ar e b (arF 64 g)) := by rw [← arF_congr h]; exact hP
def boolF (f : Nat → Bool) (j : Nat) : Value := .bool (f j)
theorem loadNd {a : Option Addr} {n : Nat} {es : List NodeE} {k : Nat} {x : NodeE} (hk : es[k]? = some x) {off : Nat} {t : TypeId} {d : TypeDesc} {v : Value} (hd : Tryz.prog.underlying t = some d) (ha : aggT Tryz.prog t = false) (hz : szT Tryz.prog t = 1) (hv : (nodeVs x)[off]? = some v) : ORead Tryz.prog (loadS t (.pointer (a.map fun y => (y.add (k * 5)).add off))) (Ls kNode a n es) v := Ls.load1 (K := kNode) hd ha hz hk hv
theorem loadE1 {a : Option Addr} {n : Nat} {es : List NodeE} {x : NodeE} (hx : x ∈ es) {k : Nat} {e : Nm × Nat} (hk : x.nd.ents[k]? = some e) {off : Nat} {t : TypeId} {d : TypeDesc} {v : Value} (hd : Tryz.prog.underlying t = some d) (ha : aggT Tryz.prog t = false) (hz : szT Tryz.prog t = 1) (hv : (entV e)[off]? = some v) : ORead Tryz.prog (loadS t (.pointer (x.ea.map fun y => (y.add (k * 2)).add off))) (Ls kNode a n es) v :=
  ORead.ent (.of fun R h H => (H.2.2 x hx).2) (Ls.load1 (K := kEnt) hd ha hz hk hv)
theorem undEs' : Tryz.prog.underlying 41 = some (.slice 140) := by kernel_rfl
theorem kind_step {T : List Nd} (hn : (T.map (·.num)).Nodup) {k : Nat} {x : Nd} (hk : T[k]? = some x) (j : Nat) : (if j = x.num then Value.int .i64 x.kind else kindF (T.take k) j) = kindF (T.take (k + 1)) j := by
  unfold kindF
  rw [List.take_add_one, hk, Option.toList_some, nodeAt_app]
  by_cases e : j = x.num
  · rw [if_pos e, if_pos e.symm]
    have : nodeAt (T.take k) j = none := by
      cases hq : nodeAt (T.take k) j with
      | none => rfl
      | some y =>
        exfalso
        obtain ⟨h1, h2⟩ := nodeAt_mem hq
        obtain ⟨i, hi⟩ := List.mem_iff_getElem?.1 h1
        rw [List.getElem?_take] at hi
        split at hi
        · rename_i hik
          have e1 : (T.map (·.num))[i]? = some j := by rw [List.getElem?_map, hi]; simp [h2]
          have e2 : (T.map (·.num))[k]? = some j := by rw [List.getElem?_map, hk]; simp [e]
          have := (List.getElem?_inj (by rw [List.length_map]; have := (List.getElem?_eq_some_iff.1 hi).1; omega) hn).1 (e1.trans e2.symm)
          omega
        · cases hi
    rw [this]; rfl
  · rw [if_neg e, if_neg (Ne.symm e), Option.or_none]
theorem seen_step (T : List Nd) {k : Nat} {x : Nd} (hk : T[k]? = some x) (j : Nat) : seenE (T.take k) (x.ents.take x.ents.length) j = seenF (T.take (k + 1)) j := by
  unfold seenE seenF
  rw [List.take_length, List.take_add_one, hk, Option.toList_some, refs_app]
theorem cntE_snocR (l : List (Nm × Nat)) (e : Nm × Nat) (j : Nat) : cntE (l ++ [e]) j = cntE l j + if j = e.2 then 1 else 0 := by
  unfold cntE
  rw [List.countP_append, List.countP_cons]
  by_cases h : j = e.2
  · simp [h]
  · simp [h, Ne.symm h]
theorem seenE_step (T : List Nd) {l : List (Nm × Nat)} {m : Nat} {e : Nm × Nat} (hm : l[m]? = some e) (j : Nat) : (if j = e.2 then Value.int .i64 (((refs T e.2 + cntE (l.take m) e.2 : Nat) : Int) + 1) else seenE T (l.take m) j) = seenE T (l.take (m + 1)) j := by
  unfold seenE
  rw [List.take_add_one, hm, Option.toList_some, cntE_snocR]
  by_cases h : j = e.2
  · subst h
    rw [if_pos rfl, if_pos rfl]
    congr 1
  · rw [if_neg h, if_neg h, Nat.add_zero]
theorem seen_le {T : List Nd} {k : Nat} {x : Nd} (hk : T[k]? = some x) (m j : Nat) : refs (T.take k) j + cntE (x.ents.take m) j ≤ refs T j := by
  have hlt := (List.getElem?_eq_some_iff.1 hk).1
  have e1 : T = T.take k ++ x :: T.drop (k + 1) := by
    conv => lhs; rw [← List.take_append_drop k T]
    rw [List.drop_eq_getElem_cons hlt]
    rw [List.getElem?_eq_getElem hlt] at hk
    rw [Option.some.inj hk]
  have e2 : refs T j = refs (T.take k) j + refs (x :: T.drop (k + 1)) j := by
    conv => lhs; rw [e1]
    unfold refs; rw [List.map_append, List.sum_append]
  rw [e2, refs_cons]
  have : cntE (x.ents.take m) j ≤ cntE x.ents j := by
    unfold cntE
    exact (List.take_sublist m x.ents).countP_le
  omega
set_option maxHeartbeats 16000000 in
theorem right04_ok {B : Nat} (hB : B ≤ 100000) (a : Option Addr) (n c : Nat) (es : List NodeE) (NS : List Nd) (hT : es.map (·.nd) = NS) (wf : TWf B NS) (hr : Reach NS) (h64 : n ≤ 64) :
    Tri Tryz.prog 26 #[.slice a n c] (Ls kNode a n es) (fun v => HP.and (v = .bool true) (Ls kNode a n es)) := by
  refine Tri.fact (φ := es.length = n ∧ (n ≠ 0 → a.isSome = true) ∧ (∀ x ∈ es, x.nd.ents.length ≠ 0 → x.ea.isSome = true)) (fun R h H => ⟨H.1, fun h => Ls.some H h, nodesEa H⟩) fun ⟨hl, ha, hea⟩ => ?_
  refine tri_of_tree (ρ := [.a a, .n n, .n c, .p (Ls kNode a n es)]) mixed Tryz.func26 tree_right04 ?_
  unfold t_right04
  simp (maxSteps := 10000000) only [T.den, E.prop, E.den, RX.look, F1.app, F2.app, Uni.int_i, Uni.nat_n, Uni.bool_c, Uni.str_s, Uni.adr_a, Uni.val_v, Uni.hp_p, hden, cden, V.den, W.den, A.den, BR.den, SA.den, FV.den, capV, exs, exP, allP, Cur.app, List.map_cons, List.map_nil, List.cons_append, List.nil_append, List.drop_succ_cons, List.drop_zero, List.length_cons, List.length_nil, Nat.zero_add, Nat.reduceAdd, Int.neg_neg, Bool.not_not, List.append_nil, Nat.add_zero, List.getElem?_cons_zero, List.getElem?_cons_succ, Decidable.not_not, semW_eq, semW_load, semW_store, semW_storeC, ne_eq, Nat.reduceEqDiff, not_false_eq_true, semW_ix]
  have hTl : NS.length = n := by rw [← hT, List.length_map, hl]
  have ex : ∀ k, k < n → ∃ x, es[k]? = some x ∧ x ∈ es ∧ NS[k]? = some x.nd ∧ GoodN B x.nd ∧ x.nd ∈ NS := fun k hk => by
    obtain ⟨x, hx⟩ := getN (l := es) (k := k) (by omega)
    have hxT : NS[k]? = some x.nd := by rw [← hT, List.getElem?_map, hx]; rfl
    exact ⟨x, hx, List.mem_of_getElem? hx, hxT, wf.good _ (List.mem_of_getElem? hxT), List.mem_of_getElem? hxT⟩
  have tgt64 : ∀ x ∈ NS, ∀ e ∈ x.ents, e.2 < 64 ∧ e.2 ≠ 0 ∧ nameOk e.1 = true := fun x hx e he => by
    obtain ⟨y, hy⟩ := Option.isSome_iff_exists.1 (wf.tgt x hx e he)
    have := (wf.at' hy).1.num
    rw [(wf.at' hy).2.1] at this
    exact ⟨this, ((wf.good x hx).name e he).2, ((wf.good x hx).name e he).1⟩
  have fls : ∀ {Q : HP}, (true = false) → Q.p = Q.p := fun _ => rfl
  intro b4 b5
  refine ⟨fun _ i P5 P4 => ∃ k : Nat, i = k ∧ k ≤ n ∧ HP.ent P5 (Ar 147 b5 (arF 64 (kindF (NS.take k)))) ∧ HP.ent P4 (Ar 147 b4 (arF 64 (seenF (NS.take k)))), fun _ i _ _ => n - i.toNat, ⟨0, rfl, Nat.zero_le _, by rw [List.take_zero]; exact .of fun _ _ h => h, by rw [List.take_zero]; exact .of fun _ _ h => h⟩, ?_⟩
  rintro _ _ P5 P4 ⟨k, rfl, hk, hP5, hP4⟩
  refine ⟨fun hlt => ⟨by omega, fun _ => ⟨ha (by omega), fun _ => ?_⟩⟩, fun hge => ?_⟩
  · obtain ⟨x, hx, hxm, hxT, hg, hxmT⟩ := ex k (by omega)
    have hn64 := hg.num
    refine ⟨x.nd.num, x.nd.kind, x.nd.links, x.da, x.nd.data.length, x.dc, x.ea, x.nd.ents.length, x.ec, loadNode hx, fun q => ⟨fun f => f = false, ?_, ?_⟩⟩
    · refine ⟨fun h => absurd h (by omega), fun _ => ⟨fun h => absurd h (by omega), fun _ => ⟨fun h0 => ⟨inI64' _ (by omega) (by omega), fun _ => ⟨by omega, fun _ => ⟨by omega, fun _ => ?_⟩⟩⟩, fun _ => rfl⟩⟩⟩
      obtain ⟨y, hy, hym, hyT, _, _⟩ := ex (k - 1) (by omega)
      have e1 : ((k : Int) - 1).toNat = k - 1 := by omega
      rw [e1]
      refine ⟨y.nd.num, loadNd hy undInt (by kernel_rfl) (by kernel_rfl) rfl, ?_⟩
      show decide ((x.nd.num : Int) ≤ (y.nd.num : Int)) = false
      have := List.pairwise_iff_getElem.1 wf.sorted (k - 1) k (by rw [List.length_map]; omega) (by rw [List.length_map]; omega) (by omega)
      rw [List.getElem_map, List.getElem_map] at this
      have g1 : NS[k - 1]'(by omega) = y.nd := by rw [List.getElem?_eq_getElem (by omega)] at hyT; exact Option.some.inj hyT
      have g2 : NS[k]'(by omega) = x.nd := by rw [List.getElem?_eq_getElem (by omega)] at hxT; exact Option.some.inj hxT
      rw [g1, g2] at this
      rw [decide_eq_false]
      omega
    · rintro f rfl
      refine ⟨fun h => Bool.noConfusion h, fun _ => ?_⟩
      have hkd := hg.kind
      have hdl := hg.data
      have hlp := hg.lpos
      refine ⟨fun k2 => ⟨fun h => ?_, fun _ => ⟨fun h => absurd h (by omega), fun _ => ⟨fun h => absurd h (by omega), fun _ => ?_⟩⟩⟩, fun k2 => ⟨fun h => ?_, fun k1 => ⟨fun h => ?_, fun _ => ⟨fun h => ?_, fun _ => ?_⟩⟩⟩⟩
      · exfalso
        rcases hkd with ⟨h1, _⟩ | ⟨_, h1⟩
        · omega
        · rw [h1] at h; simp at h
      · skip
        refine ⟨.pointer (some ⟨b5, x.nd.num, none⟩), ixI rfl hn64, stI x.nd.kind hn64 hP5 fun R h H => ⟨_, rfl, ?_, H⟩⟩
        have hP5' := Ar.congr (fun j _ => kind_step wf.nd hxT j) (.of fun R h H => H : HP.ent (Ar 147 b5 (arF 64 fun j => if j = x.nd.num then .int .i64 x.nd.kind else kindF (NS.take k) j)) _)
        clear H
        refine ⟨fun _ i P => ∃ m : Nat, i = m ∧ m ≤ x.nd.ents.length ∧ HP.ent P (Ar 147 b4 (arF 64 (seenE (NS.take k) (x.nd.ents.take m)))), fun _ i _ => x.nd.ents.length - i.toNat, ⟨0, rfl, Nat.zero_le _, by rw [List.take_zero]; exact hP4⟩, ?_⟩
        rintro _ _ P6 ⟨m, rfl, hm, hP6⟩
        refine ⟨fun hlt2 => ⟨by omega, fun _ => ⟨hea x hxm (by omega), fun _ => ?_⟩⟩, fun hge2 => ?_⟩
        · obtain ⟨e, he⟩ := getN (l := x.nd.ents) (k := m) (by omega)
          have hem := List.mem_of_getElem? he
          obtain ⟨t64, t0, tn⟩ := tgt64 _ hxmT e hem
          have hefew := hg.efew
          have hel : e.1.length ≤ 100000 := by
            have := tn
            simp [nameOk] at this
            omega
          refine ⟨e.1, e.2, loadEnt hxm he, fun q => ⟨fun f => f = false, ?_, ?_⟩⟩
          · refine (name03_ok e.1 hel).weak (fun _ _ h => h) ?_
            rintro v R h rfl
            have lastF : decide ((63 : Int) < (e.2 : Int)) = false := by rw [decide_eq_false]; omega
            refine ⟨nameOk e.1, rfl, ⟨fun h => absurd tn h, fun _ => ⟨fun h0 => ⟨inI64' _ (by omega) (by omega), fun _ => ⟨by omega, fun _ => ⟨by omega, fun _ => ?_⟩⟩⟩, fun _ => ⟨fun h => absurd h (by omega), fun _ => lastF⟩⟩⟩, trivial⟩
            obtain ⟨p, hp⟩ := getN (l := x.nd.ents) (k := m - 1) (by omega)
            have e1 : ((m : Int) - 1).toNat = m - 1 := by omega
            rw [e1]
            refine ⟨p.1, loadE1 hxm hp undStr (by kernel_rfl) (by kernel_rfl) rfl, _, geqStr (by decide) (by kernel_rfl), ?_⟩
            have hs : p.1 < e.1 := by
              have := List.pairwise_iff_getElem.1 hg.sort (m - 1) m (by rw [List.length_map]; omega) (by rw [List.length_map]; omega) (by omega)
              rw [List.getElem_map, List.getElem_map] at this
              have g1 : x.nd.ents[m - 1]'(by omega) = p := by rw [List.getElem?_eq_getElem (by omega)] at hp; exact Option.some.inj hp
              have g2 : x.nd.ents[m]'(by omega) = e := by rw [List.getElem?_eq_getElem (by omega)] at he; exact Option.some.inj he
              rw [g1, g2] at this
              exact this
            refine ⟨fun h => ?_, fun _ => ⟨fun h => absurd h (by omega), fun _ => lastF⟩⟩
            rw [decide_eq_true hs] at h
            cases h
          · intro f hf
            replace hf : f = false := hf
            subst hf
            refine ⟨fun h => Bool.noConfusion h, fun _ => ?_⟩
            have hsl := seen_le hxT m e.2
            obtain ⟨y, hy⟩ := Option.isSome_iff_exists.1 (wf.tgt _ hxmT e hem)
            have hcy := wf.cnt' hy t0
            have hly := (wf.at' hy).1.lfew
            refine ⟨.pointer (some ⟨b4, e.2, none⟩), ixI rfl t64, ((refs (NS.take k) e.2 + cntE (x.nd.ents.take m) e.2 : Nat) : Int), ldI t64 hP6, ⟨inI64' _ (by omega) (by omega), fun _ => ⟨.pointer (some ⟨b4, e.2, none⟩), ixI rfl t64, stI _ t64 hP6 fun R h H => ⟨_, rfl, ⟨inI64' _ (by omega) (by omega), fun _ => ⟨⟨m + 1, by omega, by omega, Ar.congr (fun j _ => seenE_step _ he j) (.of fun _ _ h => h)⟩, by dsimp only; omega⟩⟩, H⟩⟩⟩⟩
        · obtain rfl : m = x.nd.ents.length := by omega
          exact ⟨inI64' _ (by omega) (by omega), fun _ => ⟨⟨k + 1, by omega, by omega, hP5', Ar.congr (fun j _ => seen_step NS hxT j) hP6⟩, by dsimp only; omega⟩⟩
      · exfalso
        rcases hkd with ⟨h1, _⟩ | ⟨h1, _⟩
        · exact h h1
        · exact k2 h1
      · exfalso
        rcases hkd with ⟨_, _, h1⟩ | ⟨h1, _⟩
        · exact h h1
        · exact k2 h1
      · exfalso
        rcases hkd with ⟨_, h1, _⟩ | ⟨h1, _⟩
        · rw [h1] at h; simp at h
        · exact k2 h1
      · skip
        refine ⟨.pointer (some ⟨b5, x.nd.num, none⟩), ixI rfl hn64, stI x.nd.kind hn64 hP5 fun R h H => ⟨_, rfl, ?_, H⟩⟩
        have hP5' := Ar.congr (fun j _ => kind_step wf.nd hxT j) (.of fun R h H => H : HP.ent (Ar 147 b5 (arF 64 fun j => if j = x.nd.num then .int .i64 x.nd.kind else kindF (NS.take k) j)) _)
        clear H
        refine ⟨fun _ i P => ∃ m : Nat, i = m ∧ m ≤ x.nd.ents.length ∧ HP.ent P (Ar 147 b4 (arF 64 (seenE (NS.take k) (x.nd.ents.take m)))), fun _ i _ => x.nd.ents.length - i.toNat, ⟨0, rfl, Nat.zero_le _, by rw [List.take_zero]; exact hP4⟩, ?_⟩
        rintro _ _ P6 ⟨m, rfl, hm, hP6⟩
        refine ⟨fun hlt2 => ⟨by omega, fun _ => ⟨hea x hxm (by omega), fun _ => ?_⟩⟩, fun hge2 => ?_⟩
        · obtain ⟨e, he⟩ := getN (l := x.nd.ents) (k := m) (by omega)
          have hem := List.mem_of_getElem? he
          obtain ⟨t64, t0, tn⟩ := tgt64 _ hxmT e hem
          have hefew := hg.efew
          have hel : e.1.length ≤ 100000 := by
            have := tn
            simp [nameOk] at this
            omega
          refine ⟨e.1, e.2, loadEnt hxm he, fun q => ⟨fun f => f = false, ?_, ?_⟩⟩
          · refine (name03_ok e.1 hel).weak (fun _ _ h => h) ?_
            rintro v R h rfl
            have lastF : decide ((63 : Int) < (e.2 : Int)) = false := by rw [decide_eq_false]; omega
            refine ⟨nameOk e.1, rfl, ⟨fun h => absurd tn h, fun _ => ⟨fun h0 => ⟨inI64' _ (by omega) (by omega), fun _ => ⟨by omega, fun _ => ⟨by omega, fun _ => ?_⟩⟩⟩, fun _ => ⟨fun h => absurd h (by omega), fun _ => lastF⟩⟩⟩, trivial⟩
            obtain ⟨p, hp⟩ := getN (l := x.nd.ents) (k := m - 1) (by omega)
            have e1 : ((m : Int) - 1).toNat = m - 1 := by omega
            rw [e1]
            refine ⟨p.1, loadE1 hxm hp undStr (by kernel_rfl) (by kernel_rfl) rfl, _, geqStr (by decide) (by kernel_rfl), ?_⟩
            have hs : p.1 < e.1 := by
              have := List.pairwise_iff_getElem.1 hg.sort (m - 1) m (by rw [List.length_map]; omega) (by rw [List.length_map]; omega) (by omega)
              rw [List.getElem_map, List.getElem_map] at this
              have g1 : x.nd.ents[m - 1]'(by omega) = p := by rw [List.getElem?_eq_getElem (by omega)] at hp; exact Option.some.inj hp
              have g2 : x.nd.ents[m]'(by omega) = e := by rw [List.getElem?_eq_getElem (by omega)] at he; exact Option.some.inj he
              rw [g1, g2] at this
              exact this
            refine ⟨fun h => ?_, fun _ => ⟨fun h => absurd h (by omega), fun _ => lastF⟩⟩
            rw [decide_eq_true hs] at h
            cases h
          · intro f hf
            replace hf : f = false := hf
            subst hf
            refine ⟨fun h => Bool.noConfusion h, fun _ => ?_⟩
            have hsl := seen_le hxT m e.2
            obtain ⟨y, hy⟩ := Option.isSome_iff_exists.1 (wf.tgt _ hxmT e hem)
            have hcy := wf.cnt' hy t0
            have hly := (wf.at' hy).1.lfew
            refine ⟨.pointer (some ⟨b4, e.2, none⟩), ixI rfl t64, ((refs (NS.take k) e.2 + cntE (x.nd.ents.take m) e.2 : Nat) : Int), ldI t64 hP6, ⟨inI64' _ (by omega) (by omega), fun _ => ⟨.pointer (some ⟨b4, e.2, none⟩), ixI rfl t64, stI _ t64 hP6 fun R h H => ⟨_, rfl, ⟨inI64' _ (by omega) (by omega), fun _ => ⟨⟨m + 1, by omega, by omega, Ar.congr (fun j _ => seenE_step _ he j) (.of fun _ _ h => h)⟩, by dsimp only; omega⟩⟩, H⟩⟩⟩⟩
        · obtain rfl : m = x.nd.ents.length := by omega
          exact ⟨inI64' _ (by omega) (by omega), fun _ => ⟨⟨k + 1, by omega, by omega, hP5', Ar.congr (fun j _ => seen_step NS hxT j) hP6⟩, by dsimp only; omega⟩⟩
  · obtain rfl : k = n := by omega
    rw [List.take_of_length_le (by omega)] at hP5 hP4
    obtain ⟨r, r1, r2⟩ := wf.root
    have hk0 : kindF NS 0 = .int .i64 1 := by unfold kindF; rw [r1, Option.map_some, Option.getD_some, r2]
    have l0 := ldI (k := 0) (by omega) hP5
    rw [hk0] at l0
    refine ⟨1, l0, fun h => absurd rfl h, fun _ => ?_⟩
    refine ⟨fun _ i => ∃ m : Nat, i = m ∧ m ≤ k, fun _ i => k - i.toNat, ⟨0, rfl, Nat.zero_le _⟩, ?_⟩
    rintro _ _ ⟨m, rfl, hm⟩
    refine ⟨fun hlt => ⟨fun f => f = false, ⟨by omega, fun _ => ⟨ha (by omega), fun _ => ?_⟩⟩, ?_⟩, fun hge1 => ?_⟩
    · obtain ⟨x, hx, hxm, hxT, hg, hxmT⟩ := ex m (by omega)
      have hn64 := hg.num
      refine ⟨x.nd.num, loadNd hx undInt (by kernel_rfl) (by kernel_rfl) rfl, fun hpos => ⟨x.nd.num, loadNd hx undInt (by kernel_rfl) (by kernel_rfl) rfl, .pointer (some ⟨b4, x.nd.num, none⟩), ixI rfl hn64, refs NS x.nd.num, ldI hn64 hP4, x.nd.links, loadNd hx undInt (by kernel_rfl) (by kernel_rfl) rfl, ?_⟩, fun _ => rfl⟩
      show (!decide ((refs NS x.nd.num : Int) = x.nd.links)) = false
      rw [decide_eq_true (wf.cnt _ hxmT (by omega))]
      rfl
    · intro f hf
      replace hf : f = false := hf
      subst hf
      exact ⟨fun h => Bool.noConfusion h, fun _ => ⟨inI64' _ (by omega) (by omega), fun _ => ⟨⟨m + 1, by omega, by omega⟩, by dsimp only; omega⟩⟩⟩
    refine ⟨fun _ i => ∃ m : Nat, i = m ∧ m ≤ 64, fun _ i => 64 - i.toNat, ⟨0, rfl, Nat.zero_le _⟩, ?_⟩
    rintro _ _ ⟨m, rfl, hm⟩
    refine ⟨fun hlt => ?_, fun hge2 => ?_⟩
    · have hm64 : m < 64 := by omega
      refine ⟨.pointer (some ⟨b4, m, none⟩), ixI rfl hm64, refs NS m, ldI hm64 hP4, fun hpos => ⟨.pointer (some ⟨b5, m, none⟩), ixI rfl hm64, ((nodeAt NS m).map fun z : Nd => z.kind).getD 0, ldI hm64 hP5, fun h => ?_, fun _ => ⟨inI64' _ (by omega) (by omega), fun _ => ⟨⟨m + 1, by omega, by omega⟩, by dsimp only; omega⟩⟩⟩, fun _ => ⟨inI64' _ (by omega) (by omega), fun _ => ⟨⟨m + 1, by omega, by omega⟩, by dsimp only; omega⟩⟩⟩
      exfalso
      have : ∃ x ∈ NS, ∃ e ∈ x.ents, e.2 = m := Classical.byContradiction fun hno => by
        have := refs_zero (T := NS) (k := m) fun x hx e he h => hno ⟨x, hx, e, he, h⟩
        omega
      obtain ⟨x, hx, e, he, rfl⟩ := this
      obtain ⟨y, hy⟩ := Option.isSome_iff_exists.1 (wf.tgt x hx e he)
      rw [hy, Option.map_some, Option.getD_some] at h
      rcases (wf.at' hy).1.kind with ⟨h1, _⟩ | ⟨h1, _⟩ <;> omega
    intro b6
    refine ⟨fun i P => ∃ r : Nat, i = r ∧ r ≤ k ∧ ∃ f : Nat → Bool, HP.ent P (Ar 149 b6 (arF 64 (boolF f))) ∧ ∀ j, Dn NS r j → f j = true, fun i _ => k - i.toNat, ⟨0, rfl, Nat.zero_le _, fun j => j == 0, .of fun _ _ h => h, fun j ⟨l, h1, h2⟩ => by obtain rfl := List.length_eq_zero_iff.1 (Nat.le_zero.1 h1); cases h2; rfl⟩, ?_⟩
    rintro _ P7 ⟨r, rfl, hrk, f7, hP7, hf7⟩
    refine ⟨fun hlt => ?_, fun hge3 => ?_⟩
    · refine ⟨fun i P => ∃ m : Nat, i = m ∧ m ≤ k ∧ ∃ f : Nat → Bool, HP.ent P (Ar 149 b6 (arF 64 (boolF f))) ∧ (∀ j, Dn NS r j → f j = true) ∧ ∀ i', i' < m → ∀ x, NS[i']? = some x → Dn NS r x.num → ∀ e ∈ x.ents, f e.2 = true, fun i _ => k - i.toNat, ⟨0, rfl, Nat.zero_le _, f7, hP7, hf7, fun i' h => absurd h (by omega)⟩, ?_⟩
      rintro _ P8 ⟨m, rfl, hm, f8, hP8, hf8, hg8⟩
      refine ⟨fun hlt2 => ?_, fun hge4 => ⟨inI64' _ (by omega) (by omega), fun _ => ⟨⟨r + 1, by omega, by omega, f8, hP8, fun j hj => ?_⟩, by dsimp only; omega⟩⟩⟩
      · obtain ⟨x, hx, hxm, hxT, hg, hxmT⟩ := ex m (by omega)
        have hn64 := hg.num
        have hefew := hg.efew
        refine ⟨fun i P => ∃ u : Nat, i = u ∧ u ≤ x.nd.ents.length ∧ ∃ f : Nat → Bool, HP.ent P (Ar 149 b6 (arF 64 (boolF f))) ∧ (∀ j, Dn NS r j → f j = true) ∧ (∀ i', i' < m → ∀ x, NS[i']? = some x → Dn NS r x.num → ∀ e ∈ x.ents, f e.2 = true) ∧ (Dn NS r x.nd.num → ∀ e ∈ x.nd.ents.take u, f e.2 = true), fun i _ => x.nd.ents.length - i.toNat, ⟨0, rfl, Nat.zero_le _, f8, hP8, hf8, hg8, fun _ e he => by simp at he⟩, ?_⟩
        rintro _ P9 ⟨u, rfl, hu, f9, hP9, hf9, hg9, hh9⟩
        refine ⟨by omega, fun _ => ⟨ha (by omega), fun _ => ⟨x.ea, x.nd.ents.length, x.ec, loadNd hx undEs' (by kernel_rfl) (by kernel_rfl) rfl, fun hlt3 => ⟨x.nd.num, loadNd hx undInt (by kernel_rfl) (by kernel_rfl) rfl, .pointer (some ⟨b6, x.nd.num, none⟩), ixB rfl hn64, f9 x.nd.num, ldB hn64 hP9, fun hrc => ?_, fun hrc => ?_⟩, fun hge5 => ?_⟩⟩⟩
        · obtain ⟨e, he⟩ := getN (l := x.nd.ents) (k := u) (by omega)
          have hem := List.mem_of_getElem? he
          obtain ⟨t64, t0, tn⟩ := tgt64 _ hxmT e hem
          refine ⟨x.ea, x.nd.ents.length, x.ec, loadNd hx undEs' (by kernel_rfl) (by kernel_rfl) rfl, by omega, fun _ => ⟨by omega, fun _ => ⟨hea x hxm (by omega), fun _ => ⟨e.2, loadE1 hxm he undInt (by kernel_rfl) (by kernel_rfl) rfl, .pointer (some ⟨b6, e.2, none⟩), ixB rfl t64, stB true t64 hP9 fun R h H => ⟨_, rfl, ⟨inI64' _ (by omega) (by omega), fun _ => ⟨⟨u + 1, by omega, by omega, fun j => if j = e.2 then true else f9 j, Ar.congr (fun j _ => ?_) (.of fun _ _ h => h), fun j hj => ?_, fun i' hi' x' hx' hd' e' he' => ?_, fun hd' e' he' => ?_⟩, by dsimp only; omega⟩⟩, H⟩⟩⟩⟩⟩
          · show (if j = e.2 then Value.bool true else Value.bool (f9 j)) = Value.bool (if j = e.2 then true else f9 j)
            split <;> rfl
          · dsimp only; rw [hf9 j hj]; split <;> rfl
          · dsimp only; rw [hg9 i' hi' x' hx' hd' e' he']; split <;> rfl
          · dsimp only
            rw [List.take_add_one, he, List.mem_append] at he'
            rcases he' with he' | he'
            · rw [hh9 hd' e' he']; split <;> rfl
            · simp at he'; rw [he', if_pos rfl]
        · exact ⟨inI64' _ (by omega) (by omega), fun _ => ⟨⟨u + 1, by omega, by omega, f9, hP9, hf9, hg9, fun hd => absurd (hf9 _ hd) hrc⟩, by dsimp only; omega⟩⟩
        · obtain rfl : u = x.nd.ents.length := by omega
          rw [List.take_length] at hh9
          refine ⟨inI64' _ (by omega) (by omega), fun _ => ⟨⟨m + 1, by omega, by omega, f9, hP9, hf9, fun i' hi' x' hx' hd' => ?_⟩, by dsimp only; omega⟩⟩
          rcases Nat.lt_or_eq_of_le (Nat.le_of_lt_succ hi') with h | h
          · exact hg9 i' h x' hx' hd'
          · subst h
            rw [hxT] at hx'; cases hx'
            exact hh9 hd'
      · rcases hj.step with h | ⟨x, hx, hd, e, he, rfl⟩
        · exact hf8 j h
        · obtain ⟨i, hi⟩ := List.mem_iff_getElem?.1 hx
          have := (List.getElem?_eq_some_iff.1 hi).1
          exact hg8 i (by omega) x hi hd e he
    · obtain rfl : r = k := by omega
      refine ⟨fun _ i => ∃ m : Nat, i = m ∧ m ≤ r, fun _ i => r - i.toNat, ⟨0, rfl, Nat.zero_le _⟩, ?_⟩
      rintro _ _ ⟨m, rfl, hm⟩
      refine ⟨fun hlt => ⟨by omega, fun _ => ⟨ha (by omega), fun _ => ?_⟩⟩, fun _ => .of fun R h H => ⟨trivial, H⟩⟩
      obtain ⟨x, hx, hxm, hxT, hg, hxmT⟩ := ex m (by omega)
      have hn64 := hg.num
      have hd := Reach.dn wf hr x.nd hxmT
      rw [hTl] at hd
      exact ⟨x.nd.num, loadNd hx undInt (by kernel_rfl) (by kernel_rfl) rfl, .pointer (some ⟨b6, x.nd.num, none⟩), ixB rfl hn64, f7 x.nd.num, ldB hn64 hP7, fun h => absurd (hf7 _ hd) h, fun _ => ⟨inI64' _ (by omega) (by omega), fun _ => ⟨⟨m + 1, by omega, by omega⟩, by dsimp only; omega⟩⟩⟩
end Go.Proofs.YtdieogcemmnaaaaGreatDoor



namespace Go.Proofs.YtdieogcemmnaaaaGreatDoor
set_option linter.unusedSimpArgs false
set_option linter.unusedVariables false
open Go.Proofs.YtdieogcemmnaaaaGreatDoor RX
set_option maxRecDepth 100000

set_option maxHeartbeats 16000000 in
theorem right04_any (a : Option Addr) (n c : Nat) (es : List NodeE) (M : Nat) (hMb : M ≤ 1000000000) (hM : ∀ x ∈ es, x.nd.ents.length ≤ M) (hN : ∀ x ∈ es, ∀ e ∈ x.nd.ents, e.1.length ≤ 100000) (h64 : n ≤ 64) :
    Tri Tryz.prog 26 #[.slice a n c] (Ls kNode a n es) (fun v => HP.ex fun f : Bool => HP.and (v = .bool f) (Ls kNode a n es)) := by
  refine Tri.fact (φ := es.length = n ∧ (n ≠ 0 → a.isSome = true) ∧ (∀ x ∈ es, x.nd.ents.length ≠ 0 → x.ea.isSome = true)) (fun R h H => ⟨H.1, fun h => Ls.some H h, nodesEa H⟩) fun ⟨hl, ha, hea⟩ => ?_
  refine tri_of_tree (ρ := [.a a, .n n, .n c, .p (Ls kNode a n es)]) mixed Tryz.func26 tree_right04 ?_
  unfold t_right04
  simp (maxSteps := 10000000) only [T.den, E.prop, E.den, RX.look, F1.app, F2.app, Uni.int_i, Uni.nat_n, Uni.bool_c, Uni.str_s, Uni.adr_a, Uni.val_v, Uni.hp_p, hden, cden, V.den, W.den, A.den, BR.den, SA.den, FV.den, capV, exs, exP, allP, Cur.app, List.map_cons, List.map_nil, List.cons_append, List.nil_append, List.drop_succ_cons, List.drop_zero, List.length_cons, List.length_nil, Nat.zero_add, Nat.reduceAdd, Int.neg_neg, Bool.not_not, List.append_nil, Nat.add_zero, List.getElem?_cons_zero, List.getElem?_cons_succ, Decidable.not_not, semW_eq, semW_load, semW_store, semW_storeC, ne_eq, Nat.reduceEqDiff, not_false_eq_true, semW_ix]
  have ex : ∀ k, k < n → ∃ x, es[k]? = some x ∧ x ∈ es := fun k hk => by
    obtain ⟨x, hx⟩ := getN (l := es) (k := k) (by omega)
    exact ⟨x, hx, List.mem_of_getElem? hx⟩
  intro b4 b5
  refine ⟨fun _ i P5 P4 => ∃ k : Nat, i = k ∧ k ≤ n ∧ (∀ j x, j < k → es[j]? = some x → x.nd.num < 64 ∧ ∀ e ∈ x.nd.ents, e.2 < 64) ∧ (∃ g : Nat → Int, HP.ent P5 (Ar 147 b5 (arF 64 fun j => .int .i64 (g j)))) ∧ ∃ s : Nat → Nat, HP.ent P4 (Ar 147 b4 (arF 64 fun j => .int .i64 (s j))) ∧ ∀ j, s j ≤ k * M, fun _ i _ _ => n - i.toNat, ⟨0, rfl, Nat.zero_le _, fun _ _ h => absurd h (by omega), ⟨fun _ => 0, .of fun _ _ h => h⟩, fun _ => 0, .of fun _ _ h => h, fun _ => Nat.zero_le _⟩, ?_⟩
  rintro _ _ P5 P4 ⟨k, rfl, hk, hin, ⟨g, hP5⟩, s, hP4, hs⟩
  refine ⟨fun hlt => ⟨by omega, fun _ => ⟨ha (by omega), fun _ => ?_⟩⟩, fun hge => ?_⟩
  · obtain ⟨x, hx, hxm⟩ := ex k (by omega)
    have hxM := hM x hxm
    refine ⟨x.nd.num, x.nd.kind, x.nd.links, x.da, x.nd.data.length, x.dc, x.ea, x.nd.ents.length, x.ec, loadNode hx, fun q => ⟨fun f => f = false → x.nd.num < 64, ?_, ?_⟩⟩
    · refine ⟨fun h => absurd h (by omega), fun _ => ⟨fun h hf => ?_, fun h63 => ⟨fun h0 => ⟨inI64' _ (by omega) (by omega), fun _ => ⟨by omega, fun _ => ⟨by omega, fun _ => ?_⟩⟩⟩, fun _ _ => by omega⟩⟩⟩
      · cases hf
      · obtain ⟨y, hy, hym⟩ := ex (k - 1) (by omega)
        have e1 : ((k : Int) - 1).toNat = k - 1 := by omega
        rw [e1]
        exact ⟨y.nd.num, loadNd hy undInt (by kernel_rfl) (by kernel_rfl) rfl, fun _ => by omega⟩
    · intro f hf
      refine ⟨fun h => .of fun R h H => ⟨_, rfl, H⟩, fun h => ?_⟩
      have hn64 : x.nd.num < 64 := hf (by simpa using h)
      refine ⟨fun _ => ⟨fun _ => .of fun R h H => ⟨_, rfl, H⟩, fun _ => ⟨fun _ => .of fun R h H => ⟨_, rfl, H⟩, fun _ => ⟨fun _ => .of fun R h H => ⟨_, rfl, H⟩, fun _ => ?_⟩⟩⟩, fun _ => ⟨fun _ => .of fun R h H => ⟨_, rfl, H⟩, fun _ => ⟨fun _ => .of fun R h H => ⟨_, rfl, H⟩, fun _ => ⟨fun _ => .of fun R h H => ⟨_, rfl, H⟩, fun _ => ?_⟩⟩⟩⟩
      all_goals
        refine ⟨.pointer (some ⟨b5, x.nd.num, none⟩), ixI rfl hn64, stI x.nd.kind hn64 hP5 fun R h H => ⟨_, rfl, ?_, H⟩⟩
        have hP5' := Ar.congr (g := fun j => .int .i64 (if j = x.nd.num then x.nd.kind else g j)) (fun j _ => by split <;> rfl) (.of fun R h H => H : HP.ent (Ar 147 b5 (arF 64 fun j => if j = x.nd.num then .int .i64 x.nd.kind else .int .i64 (g j))) _)
        clear H
        refine ⟨fun _ i P => ∃ m : Nat, i = m ∧ m ≤ x.nd.ents.length ∧ (∀ j e, j < m → x.nd.ents[j]? = some e → e.2 < 64) ∧ ∃ s : Nat → Nat, HP.ent P (Ar 147 b4 (arF 64 fun j => .int .i64 (s j))) ∧ ∀ j, s j ≤ k * M + m, fun _ i _ => x.nd.ents.length - i.toNat, ⟨0, rfl, Nat.zero_le _, fun _ _ h => absurd h (by omega), s, hP4, fun j => by have := hs j; omega⟩, ?_⟩
        rintro _ _ P6 ⟨m, rfl, hm, hie, s6, hP6, hs6⟩
        refine ⟨fun hlt2 => ⟨by omega, fun _ => ⟨hea x hxm (by omega), fun _ => ?_⟩⟩, fun hge2 => ?_⟩
        · obtain ⟨e, he⟩ := getN (l := x.nd.ents) (k := m) (by omega)
          have hem := List.mem_of_getElem? he
          refine ⟨e.1, e.2, loadEnt hxm he, fun q => ⟨fun f => f = false → e.2 < 64, ?_, ?_⟩⟩
          · refine (name03_ok e.1 (hN x hxm e hem)).weak (fun _ _ h => h) ?_
            rintro v R h rfl
            have last : (decide ((63 : Int) < (e.2 : Int)) = false → e.2 < 64) := fun hf => by have := of_decide_eq_false hf; omega
            refine ⟨nameOk e.1, rfl, ⟨fun _ hf => (by cases hf), fun _ => ⟨fun h0 => ⟨inI64' _ (by omega) (by omega), fun _ => ⟨by omega, fun _ => ⟨by omega, fun _ => ?_⟩⟩⟩, fun _ => ⟨fun _ hf => (by cases hf), fun _ => last⟩⟩⟩, trivial⟩
            obtain ⟨p, hp⟩ := getN (l := x.nd.ents) (k := m - 1) (by omega)
            have e1 : ((m : Int) - 1).toNat = m - 1 := by omega
            rw [e1]
            exact ⟨p.1, loadE1 hxm hp undStr (by kernel_rfl) (by kernel_rfl) rfl, _, geqStr (by decide) (by kernel_rfl), fun _ hf => (by cases hf), fun _ => ⟨fun _ hf => (by cases hf), fun _ => last⟩⟩
          · intro f hf
            refine ⟨fun h => .of fun R h H => ⟨_, rfl, H⟩, fun h => ?_⟩
            have t64 : e.2 < 64 := hf (by simpa using h)
            have hse := hs6 e.2
            have hk9 : k * M ≤ 64 * 1000000000 := Nat.mul_le_mul (by omega) hMb
            refine ⟨.pointer (some ⟨b4, e.2, none⟩), ixI rfl t64, (s6 e.2 : Int), ldI t64 hP6, ⟨inI64' _ (by omega) (by omega), fun _ => ⟨.pointer (some ⟨b4, e.2, none⟩), ixI rfl t64, stI _ t64 hP6 fun R h H => ⟨_, rfl, ⟨inI64' _ (by omega) (by omega), fun _ => ⟨⟨m + 1, by omega, by omega, fun j e' hj he' => ?_, fun j => if j = e.2 then s6 e.2 + 1 else s6 j, Ar.congr (fun j _ => ?_) (.of fun _ _ h => h), fun j => ?_⟩, by dsimp only; omega⟩⟩, H⟩⟩⟩⟩
            · rcases Nat.lt_or_eq_of_le (Nat.le_of_lt_succ hj) with h | h
              · exact hie j e' h he'
              · subst h; rw [he] at he'; cases he'; exact t64
            · dsimp only
              split
              · congr 1
              · rfl
            · dsimp only
              have := hs6 j
              split <;> omega
        · obtain rfl : m = x.nd.ents.length := by omega
          refine ⟨inI64' _ (by omega) (by omega), fun _ => ⟨⟨k + 1, by omega, by omega, fun j y hj hy => ?_, ⟨_, hP5'⟩, s6, hP6, fun j => ?_⟩, by dsimp only; omega⟩⟩
          · rcases Nat.lt_or_eq_of_le (Nat.le_of_lt_succ hj) with h | h
            · exact hin j y h hy
            · subst h; rw [hx] at hy; cases hy
              refine ⟨hn64, fun e he => ?_⟩
              obtain ⟨i, hi⟩ := List.mem_iff_getElem?.1 he
              exact hie i e (List.getElem?_eq_some_iff.1 hi).1 hi
          · have := hs6 j; rw [Nat.succ_mul]; omega
  · obtain rfl : k = n := by omega
    have ex' : ∀ m, m < k → ∃ x, es[m]? = some x ∧ x ∈ es ∧ x.nd.num < 64 ∧ ∀ e ∈ x.nd.ents, e.2 < 64 := fun m hm => by
      obtain ⟨x, hx, hxm⟩ := ex m hm
      exact ⟨x, hx, hxm, hin m x hm hx⟩
    have l0 := ldI (k := 0) (by omega) hP5
    refine ⟨g 0, l0, fun _ => .of fun R h H => ⟨_, rfl, H⟩, fun _ => ?_⟩
    refine ⟨fun _ i => ∃ m : Nat, i = m ∧ m ≤ k, fun _ i => k - i.toNat, ⟨0, rfl, Nat.zero_le _⟩, ?_⟩
    rintro _ _ ⟨m, rfl, hm⟩
    refine ⟨fun hlt => ⟨fun f => True, ⟨by omega, fun _ => ⟨ha (by omega), fun _ => ?_⟩⟩, ?_⟩, fun hge1 => ?_⟩
    · obtain ⟨x, hx, hxm, hn64, _⟩ := ex' m (by omega)
      exact ⟨x.nd.num, loadNd hx undInt (by kernel_rfl) (by kernel_rfl) rfl, fun hpos => ⟨x.nd.num, loadNd hx undInt (by kernel_rfl) (by kernel_rfl) rfl, .pointer (some ⟨b4, x.nd.num, none⟩), ixI rfl hn64, s x.nd.num, ldI hn64 hP4, x.nd.links, loadNd hx undInt (by kernel_rfl) (by kernel_rfl) rfl, trivial⟩, fun _ => trivial⟩
    · intro f _
      exact ⟨fun h => .of fun R h H => ⟨_, rfl, H⟩, fun _ => ⟨inI64' _ (by omega) (by omega), fun _ => ⟨⟨m + 1, by omega, by omega⟩, by dsimp only; omega⟩⟩⟩
    refine ⟨fun _ i => ∃ m : Nat, i = m ∧ m ≤ 64, fun _ i => 64 - i.toNat, ⟨0, rfl, Nat.zero_le _⟩, ?_⟩
    rintro _ _ ⟨m, rfl, hm⟩
    refine ⟨fun hlt => ?_, fun hge2 => ?_⟩
    · have hm64 : m < 64 := by omega
      exact ⟨.pointer (some ⟨b4, m, none⟩), ixI rfl hm64, s m, ldI hm64 hP4, fun hpos => ⟨.pointer (some ⟨b5, m, none⟩), ixI rfl hm64, g m, ldI hm64 hP5, fun h => .of fun R h H => ⟨_, rfl, H⟩, fun _ => ⟨inI64' _ (by omega) (by omega), fun _ => ⟨⟨m + 1, by omega, by omega⟩, by dsimp only; omega⟩⟩⟩, fun _ => ⟨inI64' _ (by omega) (by omega), fun _ => ⟨⟨m + 1, by omega, by omega⟩, by dsimp only; omega⟩⟩⟩
    intro b6
    refine ⟨fun i P => ∃ r : Nat, i = r ∧ r ≤ k ∧ ∃ f : Nat → Bool, HP.ent P (Ar 149 b6 (arF 64 (boolF f))), fun i _ => k - i.toNat, ⟨0, rfl, Nat.zero_le _, fun j => j == 0, .of fun _ _ h => h⟩, ?_⟩
    rintro _ P7 ⟨r, rfl, hrk, f7, hP7⟩
    refine ⟨fun hlt => ?_, fun hge3 => ?_⟩
    · refine ⟨fun i P => ∃ m : Nat, i = m ∧ m ≤ k ∧ ∃ f : Nat → Bool, HP.ent P (Ar 149 b6 (arF 64 (boolF f))), fun i _ => k - i.toNat, ⟨0, rfl, Nat.zero_le _, f7, hP7⟩, ?_⟩
      rintro _ P8 ⟨m, rfl, hm, f8, hP8⟩
      refine ⟨fun hlt2 => ?_, fun hge4 => ⟨inI64' _ (by omega) (by omega), fun _ => ⟨⟨r + 1, by omega, by omega, f8, hP8⟩, by dsimp only; omega⟩⟩⟩
      obtain ⟨x, hx, hxm, hn64, ht64⟩ := ex' m (by omega)
      have hxM := hM x hxm
      refine ⟨fun i P => ∃ u : Nat, i = u ∧ u ≤ x.nd.ents.length ∧ ∃ f : Nat → Bool, HP.ent P (Ar 149 b6 (arF 64 (boolF f))), fun i _ => x.nd.ents.length - i.toNat, ⟨0, rfl, Nat.zero_le _, f8, hP8⟩, ?_⟩
      rintro _ P9 ⟨u, rfl, hu, f9, hP9⟩
      refine ⟨by omega, fun _ => ⟨ha (by omega), fun _ => ⟨x.ea, x.nd.ents.length, x.ec, loadNd hx undEs' (by kernel_rfl) (by kernel_rfl) rfl, fun hlt3 => ⟨x.nd.num, loadNd hx undInt (by kernel_rfl) (by kernel_rfl) rfl, .pointer (some ⟨b6, x.nd.num, none⟩), ixB rfl hn64, f9 x.nd.num, ldB hn64 hP9, fun hrc => ?_, fun hrc => ?_⟩, fun hge5 => ?_⟩⟩⟩
      · obtain ⟨e, he⟩ := getN (l := x.nd.ents) (k := u) (by omega)
        have t64 := ht64 e (List.mem_of_getElem? he)
        refine ⟨x.ea, x.nd.ents.length, x.ec, loadNd hx undEs' (by kernel_rfl) (by kernel_rfl) rfl, by omega, fun _ => ⟨by omega, fun _ => ⟨hea x hxm (by omega), fun _ => ⟨e.2, loadE1 hxm he undInt (by kernel_rfl) (by kernel_rfl) rfl, .pointer (some ⟨b6, e.2, none⟩), ixB rfl t64, stB true t64 hP9 fun R h H => ⟨_, rfl, ⟨inI64' _ (by omega) (by omega), fun _ => ⟨⟨u + 1, by omega, by omega, fun j => if j = e.2 then true else f9 j, Ar.congr (fun j _ => ?_) (.of fun _ _ h => h)⟩, by dsimp only; omega⟩⟩, H⟩⟩⟩⟩⟩
        show (if j = e.2 then Value.bool true else Value.bool (f9 j)) = Value.bool (if j = e.2 then true else f9 j)
        split <;> rfl
      · exact ⟨inI64' _ (by omega) (by omega), fun _ => ⟨⟨u + 1, by omega, by omega, f9, hP9⟩, by dsimp only; omega⟩⟩
      · exact ⟨inI64' _ (by omega) (by omega), fun _ => ⟨⟨m + 1, by omega, by omega, f9, hP9⟩, by dsimp only; omega⟩⟩
    · obtain rfl : r = k := by omega
      refine ⟨fun _ i => ∃ m : Nat, i = m ∧ m ≤ r, fun _ i => r - i.toNat, ⟨0, rfl, Nat.zero_le _⟩, ?_⟩
      rintro _ _ ⟨m, rfl, hm⟩
      refine ⟨fun hlt => ⟨by omega, fun _ => ⟨ha (by omega), fun _ => ?_⟩⟩, fun _ => .of fun R h H => ⟨_, rfl, H⟩⟩
      obtain ⟨x, hx, hxm, hn64, _⟩ := ex' m (by omega)
      exact ⟨x.nd.num, loadNd hx undInt (by kernel_rfl) (by kernel_rfl) rfl, .pointer (some ⟨b6, x.nd.num, none⟩), ixB rfl hn64, f7 x.nd.num, ldB hn64 hP7, fun h => .of fun R h H => ⟨_, rfl, H⟩, fun _ => ⟨inI64' _ (by omega) (by omega), fun _ => ⟨⟨m + 1, by omega, by omega⟩, by dsimp only; omega⟩⟩⟩
theorem right04_both (a : Option Addr) (n c : Nat) (es : List NodeE) (NS : List Nd) (hT : es.map (·.nd) = NS) (hM : ∀ x ∈ NS, x.ents.length ≤ 1000000000) (hN : ∀ x ∈ NS, ∀ e ∈ x.ents, e.1.length ≤ 100000) (h64 : n ≤ 64) :
    Tri Tryz.prog 26 #[.slice a n c] (Ls kNode a n es) (fun v => HP.ex fun f : Bool => HP.and (v = .bool f ∧ (TWf 100000 NS → Reach NS → f = true)) (Ls kNode a n es)) := by
  by_cases h : TWf 100000 NS ∧ Reach NS
  · exact (right04_ok (B := 100000) (by omega) a n c es NS hT h.1 h.2 h64).weak (fun _ _ h => h) fun v R h ⟨e, H⟩ => ⟨true, ⟨e, fun _ _ => rfl⟩, H⟩
  · refine (right04_any a n c es 1000000000 (Nat.le_refl _) (fun x hx => hM x.nd (by rw [← hT]; exact List.mem_map.2 ⟨x, hx, rfl⟩)) (fun x hx => hN x.nd (by rw [← hT]; exact List.mem_map.2 ⟨x, hx, rfl⟩)) h64).weak (fun _ _ h => h) fun v R h' ⟨f, e, H⟩ => ⟨f, ⟨e, fun h1 h2 => absurd ⟨h1, h2⟩ h⟩, H⟩
end Go.Proofs.YtdieogcemmnaaaaGreatDoor



namespace Go.Proofs.YtdieogcemmnaaaaGreatDoor
set_option linter.unusedSimpArgs false
set_option linter.unusedVariables false
open Go.Proofs.YtdieogcemmnaaaaGreatDoor RX
set_option maxRecDepth 100000

theorem shareN6 (a : Option Addr) (n c : Nat) (es : List NodeE) (hn : es.length = n) : HP.ent (OwN a n c es) (Ls kNode a n es) := fun R h d H => by
  obtain ⟨R1, h1, q1, q2, q3, q4, H1⟩ := OwC.share _ _ _ _ _ _ R h d H.1
  exact ⟨R1, h1, q1, q2, q3, q4, hn, H1, fun x hx => nodeHp_pers x R1 h h1 ((nodeHp x).mono q1 (PH.le.refl _) (H.2 x hx))⟩
theorem dec6_small (q : List UInt8) : ∀ x ∈ (dec6 q).1, x.ents.length ≤ q.length + 1 ∧ ∀ e ∈ x.ents, e.1.length ≤ 16 := fun x hx => by
  unfold dec6 at hx
  obtain ⟨s', h1, rfl⟩ := loopR_all nodeR6_le _ _ x hx
  have h0 := toldR_len (numR (q, false) 8).2 64
  have h8 : (numR (q, false) 8).2.1.length ≤ q.length := numR_le (q, false) 8
  have h4 := nodeS4_le s'
  have ht := toldR_len (nodeS4 s') 4194240
  refine ⟨?_, fun e he => ?_⟩
  · have := loopR_len2 entR_shrinks (toldR (nodeS4 s') 4194240).1 (toldR (nodeS4 s') 4194240).2
    show (loopR entR (toldR (nodeS4 s') 4194240).1 (toldR (nodeS4 s') 4194240).2).1.length ≤ _
    omega
  · obtain ⟨s2, _, rfl⟩ := loopR_all entR_le _ _ e he
    have h2 := toldR_most s2 (m := 16) (by omega)
    have h3 : (bytesR s2 16).1.length ≤ (toldR s2 16).1 := takeR_len _ _
    show (bytesR s2 16).1.length ≤ 16
    omega
theorem num1_wrap (s : RS) : IntKind.i64.wrap (((numR s 1).1 : Nat) : Int) = (((numR s 1).1 % 256 : Nat) : Int) := by
  have := numR_lt s 1
  have h2 : (256 : Nat) ^ 1 = 256 := by decide
  rw [Nat.mod_eq_of_lt (by omega)]
  exact wrap_in (inI64 _ (by omega) (by omega))
def Snap6 (l : List UInt8) (S : HP) (v : Value) : HP := HP.ex fun u : Int => HP.ex fun a : Option Addr => HP.ex fun c : Nat => HP.ex fun es : List NodeE => HP.ex fun k : Int =>
  HP.and (v = .tuple #[.int .i64 u, .slice a es.length c, .int .i64 k] ∧ (decS wholeS l ≠ none → k = 0)) (HP.sep (Ls kNode a es.length es) S)
set_option maxHeartbeats 4000000 in
theorem r6Decode_ok (a : Option Addr) (n c : Nat) (l : List UInt8) (S : HP) (hr : RdL S a n (l.map u8v)) (hl : l.length = n) (hc : n ≤ c) (ha : n ≠ 0 → a.isSome = true) (hb : n ≤ 1000) :
    Tri Tryz.prog 41 #[.slice a n c] S (Snap6 l S) := by
  refine tri_of_tree (ρ := [.a a, .n n, .n c, .p S]) mixed Tryz.func41 tree_r6Decode ?_
  unfold t_r6Decode
  simp only [T.den, E.prop, E.den, RX.look, F1.app, F2.app, Uni.int_i, Uni.nat_n, Uni.bool_c, Uni.str_s, Uni.adr_a, Uni.val_v, Uni.hp_p, hden, cden, V.den, W.den, A.den, BR.den, SA.den, FV.den, capV, exs, exP, allP, Cur.app, List.map_cons, List.map_nil, List.cons_append, List.nil_append, List.drop_succ_cons, List.drop_zero, List.length_cons, List.length_nil, Nat.zero_add, Nat.reduceAdd, Int.neg_neg, Bool.not_not, List.append_nil, Nat.add_zero, List.getElem?_cons_zero, List.getElem?_cons_succ, Decidable.not_not, semW_eq, semW_load, semW_append, ne_eq, Nat.reduceEqDiff, not_false_eq_true]
  have bad : decS wholeS l = none → ∀ {A : HP}, HP.ent A S → HP.ent A (Snap6 l S (.tuple #[.int .i64 0, .slice none 0 0, .int .i64 3])) := fun h A hA => by
    refine hA.trans (.of fun R h' H => ?_)
    exact ⟨0, none, 0, [], 3, ⟨rfl, fun e => absurd h e⟩, HP.sep_mono (HP.tt_sep H) (fun y _ => ⟨rfl, RoC.nil _ _ R y, fun _ h => (by cases h)⟩) fun _ h => h⟩
  refine (r2Unwrap_ok a n c l S hr hl hc ha (by omega)).weak (fun _ _ h => h) ?_
  rintro v R h ⟨a', c', rfl, H⟩
  refine ⟨a', _, c', OwB a' _ c' _, _, S, rfl, ?_, HP.sep_comm H⟩
  clear H
  cases hu : unwrapS l with
  | none => exact ⟨fun _ => bad (by unfold decS; rw [hu]) (HP.ent.refl _), fun h => (by simp at h)⟩
  | some q =>
    refine ⟨fun h => absurd rfl h, fun _ b => ?_⟩
    simp only [Option.getD_some]
    have hq := unwrapS_len hu
    have hdec := dec6_ok hu (by omega)
    have hsm := dec6_small q
    refine ((dNumber_ok b (q, false) 8 (by omega)).preE7 (drep_init b a' c' q (by omega))).weak (fun _ _ h => h) ?_
    rintro v R h ⟨rfl, H⟩
    refine ⟨_, _, rfl, ?_, H⟩
    clear H
    refine (dCount_ok b _ 64 (by omega)).weak (fun _ _ h => h) ?_
    rintro v R h ⟨rfl, H⟩
    refine ⟨_, _, rfl, fun x0 => ?_, H⟩
    clear H
    have h8 : (numR (q, false) 8).2.1.length ≤ q.length := numR_le (q, false) 8
    have hN64 := toldR_most (numR (q, false) 8).2 (m := 64) (by omega)
    have hS1 := toldR_len (numR (q, false) 8).2 64
    have hd6 : dec6 q = loopR nodeR6 (toldR (numR (q, false) 8).2 64).1 (toldR (numR (q, false) 8).2 64).2 := rfl
    generalize (toldR (numR (q, false) 8).2 64).1 = N at *
    generalize (toldR (numR (q, false) 8).2 64).2 = s1 at *
    refine ⟨fun sa sn sc i P Q => ∃ (j : Nat) (es : List NodeE) (s : RS), i = j ∧ sn = es.length ∧ es.length = j ∧ HP.ent P (OwN sa es.length sc es) ∧ Q = DRep b s ∧ Sofar nodeR6 N s1 (j, s) (es.map (·.nd)), fun _ _ _ i _ _ => N - i.toNat, ⟨0, [], s1, rfl, rfl, rfl, .of fun R h H => ⟨⟨rfl, .inr ⟨x0, #[], rfl, H, Nat.le_refl _, by unfold maxLen; omega, rfl, rfl⟩⟩, fun _ h => (by cases h)⟩, rfl, Sofar.init _ _ _⟩, ?_⟩
    rintro sa _ sc _ P _ ⟨j, es, s, rfl, rfl, hj, hP, rfl, hs⟩
    have hjN : j ≤ N := hs.1
    refine ⟨fun hlt => ⟨s.2, drep_rd b s, fun hw => ?_, fun hw => ?_⟩, fun hge => ?_⟩
    · have hw : s.2 = false := by simpa using hw
      have hsl := hs.2.1 hw
      simp only [List.length_map] at hsl
      refine (dNumber_ok b s 1 (by omega)).weak (fun _ _ h => h) ?_
      rintro v R h ⟨rfl, H⟩
      refine ⟨_, _, rfl, fun _ => ?_, H⟩
      clear H
      refine (dNumber_ok b _ 1 (by omega)).weak (fun _ _ h => h) ?_
      rintro v R h ⟨rfl, H⟩
      refine ⟨_, _, rfl, ?_, H⟩
      clear H
      refine (dNumber_ok b _ 2 (by omega)).weak (fun _ _ h => h) ?_
      rintro v R h ⟨rfl, H⟩
      refine ⟨_, _, rfl, ?_, H⟩
      clear H
      refine (dBytes_ok b _ 512 (by omega)).weak (fun _ _ h => h) ?_
      rintro v R h ⟨da, dc, rfl, H⟩
      refine ⟨da, _, dc, _, _, rfl, ?_, HP.sep_comm H⟩
      clear H
      refine (dCount_ok b (nodeS4 s) 4194240 (by omega)).weak (fun _ _ h => h) ?_
      rintro v R h ⟨rfl, H⟩
      refine ⟨_, _, rfl, ?_, H⟩
      clear H
      have hM2 := toldR_lt (nodeS4 s) 4194240
      have hT1 := toldR_len (nodeS4 s) 4194240
      have h4 := nodeS4_le s
      have hn6 : nodeR6 s = (⟨(numR s 1).1 % 256, (((numR (numR s 1).2 1).1 % 256 : Nat) : Int), intOf64 (numR (numR (numR s 1).2 1).2 2).1, (bytesR (numR (numR (numR s 1).2 1).2 2).2 512).1, (loopR entR (toldR (nodeS4 s) 4194240).1 (toldR (nodeS4 s) 4194240).2).1⟩,
        (loopR entR (toldR (nodeS4 s) 4194240).1 (toldR (nodeS4 s) 4194240).2).2) := rfl
      generalize (toldR (nodeS4 s) 4194240).1 = M at *
      generalize (toldR (nodeS4 s) 4194240).2 = t1 at *
      rw [num1_wrap, num1_wrap]
      refine ⟨fun i Q ea en ec Pe => ∃ (m : Nat) (ll : List (Nm × Nat)) (t : RS), i = m ∧ Q = DRep b t ∧ en = ll.length ∧ HP.ent Pe (OwE ea ll.length ec ll) ∧ Sofar entR M t1 (m, t) ll, fun i _ _ _ _ _ => M - i.toNat, ⟨0, [], t1, rfl, rfl, rfl, .of fun R h _ => OwC.nil _ _ R h, Sofar.init _ _ _⟩, ?_⟩
      rintro _ _ ea _ ec Pe ⟨m, ll, t, rfl, rfl, rfl, hPe, ht⟩
      have hmM : m ≤ M := ht.1
      refine ⟨fun hlt2 => ⟨t.2, drep_rd b t, fun hw2 => ?_, fun hw2 => ?_⟩, fun hge2 => ?_⟩
      · have hw2 : t.2 = false := by simpa using hw2
        have htl := ht.2.1 hw2
        simp only at htl
        refine (dBytes_ok b t 16 (by omega)).weak (fun _ _ h => h) ?_
        rintro v R h ⟨na, nc, rfl, H⟩
        refine ⟨na, _, nc, _, _, rfl, ⟨_, convW6 (RdL.ow _ _ _ _ _ _) rfl, ?_⟩, HP.sep_comm H⟩
        clear H
        refine (dNumber_ok b _ 1 (by omega)).weak (fun _ _ h => h) ?_
        rintro v R h ⟨rfl, H⟩
        refine ⟨_, _, rfl, fun w => ?_, H⟩
        clear H
        rw [num1_wrap]
        refine OTri.pre3 ((appE ea ll.length ec ll w (entR t).1 (by omega)).weak (fun _ _ h => h) ?_) (hPe.sep _)
        rintro v R h ⟨a2, c2, rfl, H⟩
        refine ⟨a2, _, c2, _, rfl, ⟨inI64 _ (by omega) (by omega), fun _ => ⟨⟨m + 1, ll ++ [(entR t).1], (entR t).2, by omega, rfl, by simp, ?_, ht.next entR_shrinks (by show m < M; omega) hw2⟩, by dsimp only; omega⟩⟩, HP.sep_left H⟩
        rw [List.length_append]; exact HP.ent.refl _
      all_goals
        have hfin2 : loopR entR M t1 = (ll, t) := by
          rw [ht.2.2, loopR_end entR (by first | exact .inl (by show M - m = 0; omega) | exact .inr (by simpa using hw2))]; simp
        rw [hfin2] at hn6
        have hMx : ll.length ≤ 2000 := by
          have := loopR_len2 entR_shrinks M t1
          rw [hfin2] at this
          simp only at this
          omega
        intro w
        refine OTri.pre3 ((appN sa es.length sc es w ⟨(nodeR6 s).1, da, dc, ea, ec⟩ (by omega)).weak (fun _ _ h => h) ?_) ?_
        · rintro v R h ⟨a2, c2, rfl, H⟩
          have hnx := hs.next nodeR6_shrinks (by show j < N; omega) hw
          rw [hn6] at hnx
          refine ⟨a2, _, c2, _, rfl, ⟨inI64 _ (by omega) (by omega), fun _ => ⟨⟨j + 1, es ++ [⟨(nodeR6 s).1, da, dc, ea, ec⟩], t, by omega, by simp, by simp; omega, ?_, rfl, ?_⟩, by dsimp only; omega⟩⟩, HP.sep_left H⟩
          · rw [List.length_append]; exact HP.ent.refl _
          · rw [List.map_append, List.map_singleton, hn6]; exact hnx
        · rw [hn6]
          exact (HP.ent.sep2 hP (HP.ent.sep2 (HP.ent.refl _) (HP.ent.sep2 (OwC.share _ _ _ _ _ _) (hPe.trans (shareE _ _ _ _ rfl)))))
    all_goals
      have hfin : dec6 q = (es.map (·.nd), s) := by
        rw [hd6, hs.2.2, loopR_end nodeR6 (by first | exact .inl (by show N - j = 0; omega) | exact .inr (by simpa using hw))]; simp
      rw [hfin] at hdec hsm
      simp only at hdec hsm
      refine (dEnd_ok b s).weak (fun _ _ h => h) ?_
      rintro v R h ⟨rfl, H⟩
      refine ⟨_, _, rfl, ⟨fun h1 => bad (Classical.byContradiction fun hne => ?_) (HP.ent.refl _), fun h1 => ⟨fun h2 => bad (Classical.byContradiction fun hne => ?_) (HP.ent.refl _), fun h2 => ⟨fun h3 => bad (Classical.byContradiction fun hne => ?_) (HP.ent.refl _), fun h3 => ?_⟩⟩⟩, H⟩
      · have hf := hdec hne
        exact h1 (if_neg fun e => e.elim (fun e => by rw [hf.1] at e; cases e) fun e => e hf.2.1)
      · have hf := (hdec hne).2.2.1
        have h2 : intOf64 (numR (q, false) 8).1 < 0 := h2
        omega
      · have hf := (hdec hne).2.2.2.1
        have h3 : 4294967296 < intOf64 (numR (q, false) 8).1 := h3
        omega
      clear H
      refine ((right04_both sa es.length sc es (es.map (·.nd)) rfl (fun x hx => by have := (hsm x hx).1; omega) (fun x hx e he => by have := (hsm x hx).2 e he; omega) (by omega)).preE7 (hP.trans (shareN6 sa es.length sc es rfl))).weak (fun _ _ h => h) ?_
      rintro v R h ⟨f, ⟨rfl, hf⟩, H⟩
      refine ⟨f, Ls kNode sa es.length es, rfl, ⟨fun hf1 => bad (Classical.byContradiction fun hne => ?_) (HP.ent.refl _), fun hf1 => .of fun R h H => ⟨_, sa, sc, es, 0, ⟨rfl, fun _ => rfl⟩, HP.sep_comm H⟩⟩, H⟩
      exact hf1 (hf (hdec hne).2.2.2.2.1 (hdec hne).2.2.2.2.2)
end Go.Proofs.YtdieogcemmnaaaaGreatDoor



namespace Go.Proofs.YtdieogcemmnaaaaGreatDoor
open Go.Proofs.YtdieogcemmnaaaaGreatDoor RX
set_option maxRecDepth 100000

theorem takeR_app (l r : List UInt8) : takeR (l ++ r, false) l.length = (l, (r, false)) := by
  unfold takeR
  rw [if_neg (by simp), if_neg (by simp)]
  simp
theorem numR_app {l r : List UInt8} {n : Nat} (h : l.length = n) : numR (l ++ r, false) n = (beV l, (r, false)) := by
  unfold numR; rw [← h, takeR_app]
theorem bytesR_len' (d : List UInt8) (m : Int) (h : (d.length : Int) ≤ m) (h2 : d.length < 4294967296) : bytesR (lenB' d, false) m = (d, ([], false)) := by
  have h4 : (256 : Nat) ^ 4 = 4294967296 := by decide
  have e : toldR (lenB' d, false) m = (d.length, (d, false)) := by
    unfold toldR lenB'
    rw [numR_app (beN_len _ _), beV_beN 4 _ (by omega)]
    rw [if_neg (by simp), if_neg (by omega)]
  unfold bytesR
  rw [e]
  have := takeR_app d []
  rw [List.append_nil] at this
  exact this
theorem ent_of {x y : LogM} (h : entD (wrapS (logB x)) = some y) : y.kind = ((byteI x.kind).toNat : Int) ∧ (x.pl.length ≤ 65536 → y.pl = x.pl) := by
  have hd : entD (wrapS (logB x)) = if 65536 < (wrapS (logB x)).length then none else match unwrapS (wrapS (logB x)) with
    | none => none
    | some q => if (logR (q, false)).2.2 = true ∨ (logR (q, false)).2.1 ≠ [] then none else if logOk (logR (q, false)).1 = true then some (logR (q, false)).1 else none := rfl
  rw [h, unwrap_wrap] at hd
  have hy : y = (logR (logB x, false)).1 := by
    split at hd
    · cases hd
    · simp only at hd
      split at hd
      · cases hd
      · split at hd
        · exact Option.some.inj hd
        · cases hd
  have eB : logB x = [byteI x.kind] ++ (beN (linksN x.cl) 4 ++ (beN (linksN x.bi) 4 ++ (beN (linksN x.nu) 4 ++ ([byteI x.st] ++ (beN (linksN x.bk) 8 ++ lenB' x.pl))))) := by
    unfold logB; simp only [List.append_assoc]
  have eR : logR (logB x, false) = (⟨(((beV [byteI x.kind]) % 256 : Nat) : Int), ((beV (beN (linksN x.cl) 4) : Nat) : Int), ((beV (beN (linksN x.bi) 4) : Nat) : Int), ((beV (beN (linksN x.nu) 4) : Nat) : Int), (((beV [byteI x.st]) % 256 : Nat) : Int), intOf64 (beV (beN (linksN x.bk) 8)), (bytesR (lenB' x.pl, false) 65536).1⟩, (bytesR (lenB' x.pl, false) 65536).2) := by
    rw [eB]
    have one : ∀ k : UInt8, [k].length = 1 := fun _ => rfl
    dsimp only [logR]
    simp only [numR_app (one _), numR_app (beN_len _ _)]
  rw [eR] at hy
  refine ⟨?_, fun hl => ?_⟩
  · rw [hy]
    show ((((beV [byteI x.kind]) % 256 : Nat)) : Int) = _
    have h1 : beV [byteI x.kind] = (byteI x.kind).toNat := by simp [beV]
    have h2 := (byteI x.kind).toNat_lt
    rw [h1, Nat.mod_eq_of_lt (by omega)]
  · rw [hy]
    show (bytesR (lenB' x.pl, false) 65536).1 = x.pl
    rw [bytesR_len' x.pl 65536 (by omega) (by omega)]
def Quiet (what : Int) (l : List UInt8) : Prop := ∀ p, takeP p what l = { p with nx := p.nx + 1 }
theorem quiet_ne {what : Int} (h : what ≠ 1) (l : List UInt8) : Quiet what l := fun p => by unfold takeP; rw [if_pos h]
theorem quiet_none {l : List UInt8} (h : entD l = none) : Quiet 1 l := fun p => by unfold takeP; rw [if_neg (by simp), h]
theorem quiet_bad {raw : List UInt8} (h : callD raw = none) (hl : raw.length ≤ 65536) : Quiet 1 (wrapS (logB ⟨1, 0, 0, 0, 0, -1, raw⟩)) := fun p => by
  unfold takeP
  rw [if_neg (by simp)]
  split
  · rfl
  · rename_i y hy
    obtain ⟨h1, h2⟩ := ent_of hy
    have h1 : y.kind = 1 := h1
    have h2 : y.pl = raw := h2 hl
    unfold logP
    rw [if_pos h1, h2, h]
theorem quiet_worse {raw : List UInt8} (h : decS wholeS raw = none) (hl : raw.length ≤ 65536) : Quiet 1 (wrapS (logB ⟨2, 0, 0, 0, 0, -1, raw⟩)) := fun p => by
  unfold takeP
  rw [if_neg (by simp)]
  split
  · rfl
  · rename_i y hy
    obtain ⟨h1, h2⟩ := ent_of hy
    have h1 : y.kind = 2 := h1
    have h2 : y.pl = raw := h2 hl
    unfold logP
    rw [if_neg (by rw [h1]; decide), if_pos h1, h2]
    unfold snapP
    rw [h]
theorem step_up (p : RpP) {x : Step16} (h : x.what = 0) : (takeP p (cellS x).1 (cellS x).2).up = p.up := by
  unfold cellS
  rw [if_pos h]
  unfold takeP
  rw [if_neg (by simp)]
  simp only
  split
  · rfl
  · rename_i y hy
    have h1 : y.kind = 1 := (ent_of hy).1
    unfold logP
    rw [if_pos h1]
    split <;> rfl
theorem rpTakeQ {b : Nat} {s : RpS} {B : Nat} (hB : B ≤ 100000) (wf : TWf B s.t.pub) (what : Int) (a : Option Addr) (n c : Nat) (l : List UInt8) (S : HP) (hr : RdL S a n (l.map u8v)) (hl : l.length = n) (hc : n ≤ c) (ha : n ≠ 0 → a.isSome = true) (hnx : -9223372036854775808 ≤ s.nx + 1 ∧ s.nx + 1 ≤ 9223372036854775807) (hq : Quiet what l) :
    Tri Tryz.prog 35 #[.pointer (some ⟨b, 0, none⟩), .agg #[.int .i64 what, .slice a n c]] (HP.sep (RpRep b s) S) (fun v => HP.ex fun s' : RpS => HP.and (v = .tuple #[] ∧ s'.up = s.up ∧ s'.t.pub = s.t.pub ∧ s'.nx = s.nx + 1) (HP.sep (RpRep b s') S)) := by
  refine (rpTakeO hB wf what a n c l S hr hl hc ha hnx).weak (fun _ _ h => h) ?_
  rintro v R h ⟨s', ⟨e, hs⟩, H⟩
  rw [hq s.pub] at hs
  exact ⟨s', ⟨e, congrArg RpP.up hs, congrArg RpP.T hs, congrArg RpP.nx hs⟩, H⟩
theorem rpTakeQ0 {b : Nat} {s : RpS} {B : Nat} (hB : B ≤ 100000) (wf : TWf B s.t.pub) (what : Int) (hnx : -9223372036854775808 ≤ s.nx + 1 ∧ s.nx + 1 ≤ 9223372036854775807) (hw : what ≠ 1) :
    Tri Tryz.prog 35 #[.pointer (some ⟨b, 0, none⟩), .agg #[.int .i64 what, .slice none 0 0]] (RpRep b s) (fun v => HP.ex fun s' : RpS => HP.and (v = .tuple #[] ∧ s'.up = s.up ∧ s'.t.pub = s.t.pub ∧ s'.nx = s.nx + 1) (RpRep b s')) := by
  refine (rpTake0 hB wf what hnx).weak (fun _ _ h => h) ?_
  rintro v R h ⟨s', ⟨e, hs⟩, H⟩
  rw [quiet_ne hw [] s.pub] at hs
  exact ⟨s', ⟨e, congrArg RpP.up hs, congrArg RpP.T hs, congrArg RpP.nx hs⟩, H⟩
end Go.Proofs.YtdieogcemmnaaaaGreatDoor



namespace Go.Proofs.YtdieogcemmnaaaaGreatDoor
set_option linter.unusedSimpArgs false
set_option linter.unusedVariables false
open Go.Proofs.YtdieogcemmnaaaaGreatDoor RX
set_option maxRecDepth 100000

set_option maxHeartbeats 4000000 in
theorem replayJunk_ok (a : Option Addr) (n c : Nat) (L : List Step16) (ra : Option Addr) (rn rc : Nat) (raw : List UInt8) (hrl : raw.length = rn) (hrc : rn ≤ rc) : Tri Tryz.prog 10 #[.slice a n c, .slice ra rn rc] (HP.sep (Ls kStep16 a n L) (RoB ra rn raw)) (fun v => HP.pure (v = .bool true)) := by
  refine Tri.fact (φ := St16 a n L ∧ (rn ≠ 0 → ra.isSome = true)) (fun R h H => ⟨St16.of (HP.sep_left H), fun hn => RoC.some (HP.sep_right H) (Nat.pos_of_ne_zero hn)⟩) fun ⟨st, hra⟩ => ?_
  have hl := st.len
  subst hrl
  refine tri_of_tree (ρ := [.a a, .n n, .n c, .p (Ls kStep16 a n L), .a ra, .n raw.length, .n rc, .p (RoB ra raw.length raw)]) mixed Tryz.func10 tree_replayJunk ?_
  unfold t_replayJunk
  simp (maxSteps := 3000000) only [T.den, E.prop, E.den, RX.look, F1.app, F2.app, Uni.int_i, Uni.nat_n, Uni.bool_c, Uni.str_s, Uni.adr_a, Uni.val_v, Uni.hp_p, hden, cden, V.den, W.den, A.den, BR.den, SA.den, FV.den, capV, exs, exP, allP, Cur.app, List.map_cons, List.map_nil, List.cons_append, List.nil_append, List.drop_succ_cons, List.drop_zero, List.length_cons, List.length_nil, Nat.zero_add, Nat.reduceAdd, Int.neg_neg, Bool.not_not, List.append_nil, Nat.add_zero, List.getElem?_cons_zero, List.getElem?_cons_succ, Decidable.not_not, semW_eq, semW_load, ne_eq, Nat.reduceEqDiff, not_false_eq_true]
  refine speaks16_ok.weak (fun _ _ _ => trivial) ?_
  rintro v R h rfl
  refine ⟨true, rfl, ⟨fun h => by simp at h, fun _ => ?_⟩, trivial⟩
  refine (great16_ok a n c L).weak (fun _ _ h => h) ?_
  rintro v R h ⟨g, ⟨rfl, hg⟩, H⟩
  refine ⟨g, rfl, ⟨fun _ => .of fun R h H => trivial, fun hg0 => ⟨fun _ => .of fun R h H => trivial, fun h1000 => ?_⟩⟩, H⟩
  clear H
  have h60 := hg (by simpa using hg0)
  have hr : RdL (RoB ra raw.length raw) ra raw.length (raw.map u8v) := RdL.ro _ _ _ _
  refine (r7Decode_ok ra raw.length rc raw _ hr rfl hrc hra (by omega)).weak (fun _ _ h => h) ?_
  rintro v R h ⟨x, xa, xc, k7, ⟨rfl, hk7⟩, H⟩
  refine ⟨x.kind, x.cl, x.bi, x.nu, x.st, x.bk, xa, x.pl.length, xc, OwB xa x.pl.length xc x.pl, k7, rfl, fun _ => ⟨fun _ => .of fun R h H => trivial, fun hk7n => ?_⟩, H⟩
  clear H
  have hent : entD raw = none := Classical.byContradiction fun h => hk7n (hk7 h)
  refine rpNew_ok.weak (fun _ _ h => h) ?_
  rintro v R h ⟨b, s0, ⟨rfl, p1, p2, p3, p4, p5, p6⟩, H⟩
  refine ⟨b, RpRep b s0, rfl, ?_, H⟩
  clear H
  have wf0 : TWf (1 + 0) s0.t.pub := by rw [p5]; exact newT_wf
  refine ⟨fun i Q => ∃ (j : Nat) (s : RpS), i = j ∧ j ≤ n ∧ Q = RpRep b s ∧ s.up = -1 ∧ TWf (1 + j) s.t.pub ∧ 0 ≤ s.nx ∧ s.nx ≤ j, fun i _ => n - i.toNat, ⟨0, s0, rfl, Nat.zero_le _, rfl, p2, wf0, by omega, by omega⟩, ?_⟩
  rintro _ _ ⟨j, s, rfl, hj, rfl, su, wfs, sn1, sn2⟩
  refine ⟨fun hlt => ⟨by omega, fun _ => ⟨st.is (by omega), fun _ => ?_⟩⟩, fun hge => ?_⟩
  · obtain ⟨x1, hx⟩ : ∃ x, L[j]? = some x := ⟨_, List.getElem?_eq_getElem (by omega)⟩
    have hxm := List.mem_of_getElem? hx
    have nxt : IntKind.i64.min ≤ (j : Int) + 1 ∧ (j : Int) + 1 ≤ IntKind.i64.max := inI64' _ (by omega) (by omega)
    refine ⟨x1.what, x1.low, x1.id_cl, x1.id_bi, x1.id_nu, x1.call_kind, x1.call_path, x1.call_other, x1.call_off, x1.call_n, x1.call_dataa, x1.call_data.length, x1.call_datac, x1.rawa, x1.raw.length, x1.rawc, Step16.load hx, fun q => ⟨fun h0 => ?_, fun _ => ⟨nxt, fun _ => ⟨⟨j + 1, s, by omega, by omega, rfl, su, wfs.mono (by omega), sn1, by omega⟩, by dsimp only; omega⟩⟩⟩⟩
    refine (cell16_ok a n L hxm (by rw [h0]; decide) (by rw [h0]; decide) 0).weak (fun _ _ h => h) ?_
    rintro v R h ⟨a', c', ⟨rfl, e1, e2⟩, H⟩
    refine ⟨_, a', _, c', RoB a' (cellS x1).2.length (cellS x1).2, rfl, ?_, H⟩
    clear H
    refine (rpTakeO (by omega) wfs (cellS x1).1 a' (cellS x1).2.length c' (cellS x1).2 _ (RdL.ro _ _ _ _) rfl e1 e2 (by omega)).weak (fun _ _ h => h) ?_
    rintro v R h ⟨s', ⟨rfl, hs'⟩, H⟩
    refine ⟨RpRep b s', rfl, ⟨nxt, fun _ => ⟨⟨j + 1, s', by omega, by omega, rfl, ?_, ?_, ?_, ?_⟩, by dsimp only; omega⟩⟩, H⟩
    · have := congrArg RpP.up hs'
      rw [step_up s.pub h0] at this
      exact this.trans su
    · have := takeP_wf (p := s.pub) (B := 1 + j) (by omega) wfs (cellS x1).1 (cellS x1).2
      rw [← hs'] at this
      exact this
    · have := congrArg RpP.nx hs'
      rw [takeP_nx] at this
      have e : s'.nx = s.nx + 1 := this
      omega
    · have := congrArg RpP.nx hs'
      rw [takeP_nx] at this
      have e : s'.nx = s.nx + 1 := this
      omega
  obtain rfl : j = n := by omega
  clear p1 p2 p3 p4 p5 p6 wf0
  have f1 := few_nodes wfs
  refine (rpNodes_ok (by omega) wfs).weak (fun _ _ h => h) ?_
  rintro v' R h ⟨na, nc, rfl, g1, g2, gd, gl1, gl2, ⟨fs, hfs, H1⟩, H2⟩
  refine ⟨na, s.t.pub.length, nc, Ls kNode na s.t.pub.length fs, rfl, ?_, ⟨g1, g2, gd, gl1, gl2, H1, H2⟩⟩
  clear H1 H2
  refine rpNext_ok.weak (fun _ _ h => h) ?_
  rintro v R h ⟨rfl, H⟩
  refine ⟨_, rfl, ?_, H⟩
  clear H
  refine (r7Bytes_ok ⟨1, 0, 0, 0, 0, -1, raw⟩ ra rc (RoB ra raw.length raw) hr hra (by show raw.length ≤ _; omega)).weak (fun _ _ h => h) ?_
  rintro v R h ⟨ba, bc, rfl, H⟩
  have hb1 := OwC.le (HP.sep_left H)
  have hb2 : (wrapS (logB ⟨1, 0, 0, 0, 0, -1, raw⟩)).length ≠ 0 → ba.isSome = true := fun hn => OwC.some (HP.sep_left H) (Nat.pos_of_ne_zero hn)
  refine ⟨ba, _, bc, OwB ba (wrapS (logB ⟨1, 0, 0, 0, 0, -1, raw⟩)).length bc (wrapS (logB ⟨1, 0, 0, 0, 0, -1, raw⟩)), rfl, ?_, H⟩
  clear H
  refine (r7Bytes_ok ⟨2, 0, 0, 0, 0, -1, raw⟩ ra rc (RoB ra raw.length raw) hr hra (by show raw.length ≤ _; omega)).weak (fun _ _ h => h) ?_
  rintro v R h ⟨wa, wc, rfl, H⟩
  have hw1 := OwC.le (HP.sep_left H)
  have hw2 : (wrapS (logB ⟨2, 0, 0, 0, 0, -1, raw⟩)).length ≠ 0 → wa.isSome = true := fun hn => OwC.some (HP.sep_left H) (Nat.pos_of_ne_zero hn)
  refine ⟨wa, _, wc, OwB wa (wrapS (logB ⟨2, 0, 0, 0, 0, -1, raw⟩)).length wc (wrapS (logB ⟨2, 0, 0, 0, 0, -1, raw⟩)), rfl, ?_, H⟩
  clear H
  generalize hbad : wrapS (logB ⟨1, 0, 0, 0, 0, -1, raw⟩) = bad at *
  generalize hworse : wrapS (logB ⟨2, 0, 0, 0, 0, -1, raw⟩) = worse at *

  refine (rpTakeQ0 (by omega) wfs 2 (by omega) (by decide)).weak (fun _ _ h => h) ?_
  rintro v R h ⟨s1, ⟨rfl, u1, t1, n1⟩, H⟩
  refine ⟨RpRep b s1, rfl, ?_, H⟩
  clear H
  have wf1 : TWf (1 + j) s1.t.pub := by rw [t1]; exact wfs
  refine (rpTakeQ (by omega) wf1 1 ra raw.length rc raw _ hr rfl hrc hra (by omega) (quiet_none hent)).weak (fun _ _ h => h) ?_
  rintro v R h ⟨s2, ⟨rfl, u2, t2, n2⟩, H⟩
  refine ⟨RpRep b s2, rfl, ?_, H⟩
  clear H
  have wf2 : TWf (1 + j) s2.t.pub := by rw [t2]; exact wf1
  refine (r5Decode_ok ra raw.length rc raw _ hr rfl hrc hra (by omega)).weak (fun _ _ h => h) ?_
  rintro v R h ⟨cx, ca, cc, k5, ⟨rfl, hk5⟩, H⟩
  refine ⟨cx.kind, cx.path, cx.other, cx.off, cx.n, ca, cx.data.length, cc, OwB ca cx.data.length cc cx.data, k5, rfl, fun _ => ⟨fun hk5n => ?_, fun _ => ⟨inI64 _ (by omega) (by omega), fun _ => ?_⟩⟩, H⟩
  · clear H
    have hcall : callD raw = none := Classical.byContradiction fun h => hk5n (hk5 h)
    have q3 := quiet_bad hcall (by omega)
    rw [hbad] at q3
    refine (rpTakeQ (by omega) wf2 1 ba bad.length bc bad _ (RdL.ow _ _ _ _ _ _) rfl hb1 hb2 (by omega) q3).weak (fun _ _ h => h) ?_
    rintro v R h ⟨s3, ⟨rfl, u3, t3, n3⟩, H⟩
    refine ⟨RpRep b s3, rfl, ?_, H⟩
    clear H
    have wf3 : TWf (1 + j) s3.t.pub := by rw [t3]; exact wf2
    refine (r6Decode_ok ra raw.length rc raw _ hr rfl hrc hra (by omega)).weak (fun _ _ h => h) ?_
    rintro v R h ⟨u, ea, ec, es, k6, ⟨rfl, hk6⟩, H⟩
    refine ⟨u, ea, es.length, ec, Ls kNode ea es.length es, k6, rfl, ⟨fun hk6n => ?_, fun _ => ⟨inI64 _ (by omega) (by omega), fun _ => ?_⟩⟩, H⟩
    · clear H
      have hsn : decS wholeS raw = none := Classical.byContradiction fun h => hk6n (hk6 h)
      have q4 := quiet_worse hsn (by omega)
      rw [hworse] at q4
      refine (rpTakeQ (by omega) wf3 1 wa worse.length wc worse _ (RdL.ow _ _ _ _ _ _) rfl hw1 hw2 (by omega) q4).weak (fun _ _ h => h) ?_
      rintro v R h ⟨s4, ⟨rfl, u4, t4, n4⟩, H⟩
      refine ⟨RpRep b s4, rfl, ?_, H⟩
      clear H
      have wf4 : TWf (1 + j) s4.t.pub := by rw [t4]; exact wf3
      refine (rpTakeQ0 (by omega) wf4 0 (by omega) (by decide)).weak (fun _ _ h => h) ?_
      rintro v R h ⟨s9, ⟨rfl, u9, t9, n9⟩, H⟩
      refine ⟨RpRep b s9, rfl, ?_, H⟩
      clear H
      have wf9 : TWf (1 + j) s9.t.pub := by rw [t9]; exact wf4
      have ht9 : s9.t.pub = s.t.pub := by rw [t9, t4, t3, t2, t1]
      refine rpSnapped_ok.weak (fun _ _ h => h) ?_
      rintro v R h ⟨rfl, H⟩
      refine ⟨s9.up, s9.at', rfl, ?_, H⟩
      clear H
      refine rpNext_ok.weak (fun _ _ h => h) ?_
      rintro v R h ⟨rfl, H⟩
      refine ⟨_, rfl, ⟨inI64 _ (by omega) (by omega), fun _ => ⟨fun _ => ?_, fun h => absurd (by omega) h⟩⟩, H⟩
      clear H
      have f9 := few_nodes wf9
      refine (rpNodes_ok (by omega) wf9).weak (fun _ _ h => h) ?_
      rintro v' R h ⟨nb, nd, rfl, g1, g2, gd, gl1, gl2, ⟨gs, hgs, H1⟩, H2⟩
      refine ⟨nb, s9.t.pub.length, nd, Ls kNode nb s9.t.pub.length gs, rfl, ?_, ⟨g1, g2, gd, gl1, gl2, H1, H2⟩⟩
      clear H1 H2
      refine (sameNodes_ok nb s9.t.pub.length nd gs na s.t.pub.length nc fs (esBN (by omega) wf9 hgs) (by omega)).weak (fun _ _ h => h) ?_
      rintro v' R h ⟨rfl, H⟩
      have hup : s9.up = -1 := by omega
      refine ⟨_, rfl, ⟨fun _ => .of fun R h H => ?_, fun h => absurd ?_ h⟩, H⟩
      · show Value.bool _ = _
        rw [hup]; rfl
      · rw [hfs, hgs, ht9]; simp
    · clear H
      refine (rpTakeQ0 (by omega) wf3 0 (by omega) (by decide)).weak (fun _ _ h => h) ?_
      rintro v R h ⟨s9, ⟨rfl, u9, t9, n9⟩, H⟩
      refine ⟨RpRep b s9, rfl, ?_, H⟩
      clear H
      have wf9 : TWf (1 + j) s9.t.pub := by rw [t9]; exact wf3
      have ht9 : s9.t.pub = s.t.pub := by rw [t9, t3, t2, t1]
      refine rpSnapped_ok.weak (fun _ _ h => h) ?_
      rintro v R h ⟨rfl, H⟩
      refine ⟨s9.up, s9.at', rfl, ?_, H⟩
      clear H
      refine rpNext_ok.weak (fun _ _ h => h) ?_
      rintro v R h ⟨rfl, H⟩
      refine ⟨_, rfl, ⟨inI64 _ (by omega) (by omega), fun _ => ⟨fun _ => ?_, fun h => absurd (by omega) h⟩⟩, H⟩
      clear H
      have f9 := few_nodes wf9
      refine (rpNodes_ok (by omega) wf9).weak (fun _ _ h => h) ?_
      rintro v' R h ⟨nb, nd, rfl, g1, g2, gd, gl1, gl2, ⟨gs, hgs, H1⟩, H2⟩
      refine ⟨nb, s9.t.pub.length, nd, Ls kNode nb s9.t.pub.length gs, rfl, ?_, ⟨g1, g2, gd, gl1, gl2, H1, H2⟩⟩
      clear H1 H2
      refine (sameNodes_ok nb s9.t.pub.length nd gs na s.t.pub.length nc fs (esBN (by omega) wf9 hgs) (by omega)).weak (fun _ _ h => h) ?_
      rintro v' R h ⟨rfl, H⟩
      have hup : s9.up = -1 := by omega
      refine ⟨_, rfl, ⟨fun _ => .of fun R h H => ?_, fun h => absurd ?_ h⟩, H⟩
      · show Value.bool _ = _
        rw [hup]; rfl
      · rw [hfs, hgs, ht9]; simp
  · clear H
    refine (r6Decode_ok ra raw.length rc raw _ hr rfl hrc hra (by omega)).weak (fun _ _ h => h) ?_
    rintro v R h ⟨u, ea, ec, es, k6, ⟨rfl, hk6⟩, H⟩
    refine ⟨u, ea, es.length, ec, Ls kNode ea es.length es, k6, rfl, ⟨fun hk6n => ?_, fun _ => ⟨inI64 _ (by omega) (by omega), fun _ => ?_⟩⟩, H⟩
    · clear H
      have hsn : decS wholeS raw = none := Classical.byContradiction fun h => hk6n (hk6 h)
      have q4 := quiet_worse hsn (by omega)
      rw [hworse] at q4
      refine (rpTakeQ (by omega) wf2 1 wa worse.length wc worse _ (RdL.ow _ _ _ _ _ _) rfl hw1 hw2 (by omega) q4).weak (fun _ _ h => h) ?_
      rintro v R h ⟨s3, ⟨rfl, u3, t3, n3⟩, H⟩
      refine ⟨RpRep b s3, rfl, ?_, H⟩
      clear H
      have wf3 : TWf (1 + j) s3.t.pub := by rw [t3]; exact wf2
      refine (rpTakeQ0 (by omega) wf3 0 (by omega) (by decide)).weak (fun _ _ h => h) ?_
      rintro v R h ⟨s9, ⟨rfl, u9, t9, n9⟩, H⟩
      refine ⟨RpRep b s9, rfl, ?_, H⟩
      clear H
      have wf9 : TWf (1 + j) s9.t.pub := by rw [t9]; exact wf3
      have ht9 : s9.t.pub = s.t.pub := by rw [t9, t3, t2, t1]
      refine rpSnapped_ok.weak (fun _ _ h => h) ?_
      rintro v R h ⟨rfl, H⟩
      refine ⟨s9.up, s9.at', rfl, ?_, H⟩
      clear H
      refine rpNext_ok.weak (fun _ _ h => h) ?_
      rintro v R h ⟨rfl, H⟩
      refine ⟨_, rfl, ⟨inI64 _ (by omega) (by omega), fun _ => ⟨fun _ => ?_, fun h => absurd (by omega) h⟩⟩, H⟩
      clear H
      have f9 := few_nodes wf9
      refine (rpNodes_ok (by omega) wf9).weak (fun _ _ h => h) ?_
      rintro v' R h ⟨nb, nd, rfl, g1, g2, gd, gl1, gl2, ⟨gs, hgs, H1⟩, H2⟩
      refine ⟨nb, s9.t.pub.length, nd, Ls kNode nb s9.t.pub.length gs, rfl, ?_, ⟨g1, g2, gd, gl1, gl2, H1, H2⟩⟩
      clear H1 H2
      refine (sameNodes_ok nb s9.t.pub.length nd gs na s.t.pub.length nc fs (esBN (by omega) wf9 hgs) (by omega)).weak (fun _ _ h => h) ?_
      rintro v' R h ⟨rfl, H⟩
      have hup : s9.up = -1 := by omega
      refine ⟨_, rfl, ⟨fun _ => .of fun R h H => ?_, fun h => absurd ?_ h⟩, H⟩
      · show Value.bool _ = _
        rw [hup]; rfl
      · rw [hfs, hgs, ht9]; simp
    · clear H
      refine (rpTakeQ0 (by omega) wf2 0 (by omega) (by decide)).weak (fun _ _ h => h) ?_
      rintro v R h ⟨s9, ⟨rfl, u9, t9, n9⟩, H⟩
      refine ⟨RpRep b s9, rfl, ?_, H⟩
      clear H
      have wf9 : TWf (1 + j) s9.t.pub := by rw [t9]; exact wf2
      have ht9 : s9.t.pub = s.t.pub := by rw [t9, t2, t1]
      refine rpSnapped_ok.weak (fun _ _ h => h) ?_
      rintro v R h ⟨rfl, H⟩
      refine ⟨s9.up, s9.at', rfl, ?_, H⟩
      clear H
      refine rpNext_ok.weak (fun _ _ h => h) ?_
      rintro v R h ⟨rfl, H⟩
      refine ⟨_, rfl, ⟨inI64 _ (by omega) (by omega), fun _ => ⟨fun _ => ?_, fun h => absurd (by omega) h⟩⟩, H⟩
      clear H
      have f9 := few_nodes wf9
      refine (rpNodes_ok (by omega) wf9).weak (fun _ _ h => h) ?_
      rintro v' R h ⟨nb, nd, rfl, g1, g2, gd, gl1, gl2, ⟨gs, hgs, H1⟩, H2⟩
      refine ⟨nb, s9.t.pub.length, nd, Ls kNode nb s9.t.pub.length gs, rfl, ?_, ⟨g1, g2, gd, gl1, gl2, H1, H2⟩⟩
      clear H1 H2
      refine (sameNodes_ok nb s9.t.pub.length nd gs na s.t.pub.length nc fs (esBN (by omega) wf9 hgs) (by omega)).weak (fun _ _ h => h) ?_
      rintro v' R h ⟨rfl, H⟩
      have hup : s9.up = -1 := by omega
      refine ⟨_, rfl, ⟨fun _ => .of fun R h H => ?_, fun h => absurd ?_ h⟩, H⟩
      · show Value.bool _ = _
        rw [hup]; rfl
      · rw [hfs, hgs, ht9]; simp
end Go.Proofs.YtdieogcemmnaaaaGreatDoor



namespace Go.Proofs.YtdieogcemmnaaaaGreatDoor
open Go.Proofs.YtdieogcemmnaaaaGreatDoor RX
open Go.ChangeShapes Go.WideShapes Go.ChangeAt Go.RowKit
set_option maxRecDepth 100000

theorem fours_name : Tryz.prog.globalNamed "tideline/check.fours" = some 0 := by kernel_rfl
theorem fours_type : (Tryz.prog.globals[(0 : Nat)]?).map (·.type) = some 316 := by kernel_rfl
theorem cells32 : Tryz.prog.cellsOf 243 = 1 := by kernel_rfl
theorem gr_of {w : World} {x : String × DataW Unit} {r : List (String × DataW Unit)} {ps : List MemPlace} (h : DataW.LaidVars Tryz.prog w (x :: ("tideline/check.fours", Rows.laid_tideline_check_fours) :: r) ps) : GR (allOf w) := by
  obtain ⟨_, _, _, _, _, q1, _, _, _, _, h2, _⟩ := h
  obtain ⟨g, t, cs, fuel, p, q, hg, ht, hv, htr, _, _⟩ := h2
  rw [fours_name] at hg
  cases hg
  rw [fours_type] at ht
  cases ht
  unfold World.var? at hv
  rw [fours_name] at hv
  simp only [Option.bind_some] at hv
  obtain ⟨ty, fr, hh⟩ : ∃ ty fr, w.heap[(0 : Nat)]? = some (.cells cs ty fr) := by
    split at hv
    · rename_i c ty fr e; cases hv; exact ⟨ty, fr, e⟩
    · cases hv
  refine ⟨cs, ty, fr, hh, fun i v hi => ?_⟩
  obtain ⟨xs, m, _, hx, hl, hn, hel⟩ := DataW.trod_array undF htr
  have hi16 : i < 16 := (List.getElem?_eq_some_iff.1 hi).1
  have hd : xs.map (·.1) = fours.map fun n : Nat => DataW.lit (.int .u32 ((n : Nat) : Int)) := by
    have := congrArg Prod.fst hx
    unfold Rows.laid_tideline_check_fours at this
    injection this with this
    exact this.symm
  have h1 := hel i hi16
  rw [cells32, Nat.mul_one] at h1
  have h3 : (xs.map (·.1))[i]? = some (DataW.lit (.int .u32 (v : Int))) := by rw [hd, List.getElem?_map, hi]; rfl
  rw [List.getElem?_map] at h3
  obtain ⟨y, hy, hy2⟩ := Option.map_eq_some_iff.1 h3
  rw [hy] at h1
  obtain ⟨z, hz, hz2, _⟩ := DataW.trod_int und32 h1
  rw [hz2] at hy2
  have e : z = (v : Int) := by
    injection hy2 with e
    injection e
  subst e
  have h5 : (List.take 1 (cs.toList.drop i))[0]? = some (Value.int .u32 (v : Int)) := by rw [hz]; rfl
  rw [List.getElem?_take, if_pos (by decide), List.getElem?_drop, Nat.add_zero] at h5
  simpa using h5
end Go.Proofs.YtdieogcemmnaaaaGreatDoor



namespace Go.Proofs.YtdieogcemmnaaaaGreatDoor
open Go.RowKit Go.ChangeShapes Go.WideShapes Go.Deep RX
set_option maxRecDepth 100000

theorem two {A B : HP} {R : PH} (a : A.p R PH.none') (b : B.p R PH.none') : (HP.sep A B).p R PH.none' := ⟨PH.none', PH.none', PH.dj_none _, PH.le.refl _, PH.le.refl _, a, b⟩
end Go.Proofs.YtdieogcemmnaaaaGreatDoor



namespace Go.Proofs.YtdieogcemmnaaaaGreatDoor
open Go.RowKit Go.ChangeShapes Go.WideShapes Go.Deep RX

set_option maxRecDepth 100000 in
theorem replayJunk_walk {H : Type} (enc : TypeId × Value → H) (base : Nat) (v0 v1 : Value) (w : World)
    (k0 : Value.okWide Tryz.prog w .any base 54 v0) (h0 : ∃ d p, DataW.Trod enc Tryz.prog w 0 (fun _ => true) true 54 v0 d p ∧ SmallU Tryz.prog 54 d)
    (k1 : Value.okWide Tryz.prog w .any base 28 v1) (h1 : ∃ d p, DataW.Trod enc Tryz.prog w 0 (fun _ => true) true 28 v1 d p ∧ SmallU Tryz.prog 28 d) (hG : GR (allOf w)) :
    Calls Tryz.prog 10 #[v0, v1] w fun e w' => e = .returned (.bool true) ∧ Below w.heap.size w w' := by
  obtain ⟨a0, l0, c0, rfl, b0, z0⟩ := slice_openU kStep16 Tryz.underlying54 (by kernel_rfl) (of_decide_eq_true (by kernel_rfl)) Step16.of_trod k0 h0
  obtain ⟨a1, l1, c1, rfl, b1, z1⟩ := bytes_openRU k1 h1
  exact Tri.run (replayJunk_ok a0 l0.length c0 l0 a1 l1.length c1 l1 rfl b1.2) (two (z0 _) (z1 _)) hG
end Go.Proofs.YtdieogcemmnaaaaGreatDoor



namespace Go.Proofs.YtdieogcemmnaaaaGreatDoor.replayJunk
open Go.ChangeShapes Go.WideShapes Go.ChangeAt Go.RowKit
set_option linter.unusedVariables false

theorem own : ownKnob Tryz.prog.godebug = none := by kernel_rfl
theorem laidOut : laidOutB Tryz.prog = true := by kernel_rfl

def laidL : List (String × DataW Unit) := [("unicode/utf8.acceptRanges", Rows.laid_unicode_utf8_acceptRanges), ("tideline/check.fours", Rows.laid_tideline_check_fours), ("unicode/utf8.first", Rows.laid_unicode_utf8_first)]
set_option maxRecDepth 100000 in
theorem plainL (w : World) : laidMetH Tryz.prog laidL w = laidMet Tryz.prog laidL w := MakeChecks.laidMetH_plain _ _ _ (by kernel_rfl)
set_option maxRecDepth 100000 in
theorem door_met (os : Os) (args : Array Value) : laidMetH Tryz.prog laidL ((World.laidAll Tryz.prog os laidL).forCall (fun _ _ => 0) ⟨#[], args, []⟩).memory := by
  rw [plainL]
  exact laidMet_laidAll _ (by kernel_rfl) (by kernel_rfl)
end Go.Proofs.YtdieogcemmnaaaaGreatDoor.replayJunk




namespace Go.Proofs.YtdieogcemmnaaaaGreatDoor.replayJunk
open Go.ChangeShapes Go.WideShapes Go.ChangeAt Go.RowKit
set_option linter.unusedVariables false

set_option maxRecDepth 100000 in
theorem witU (os : Os) (H : Type) (enc : TypeId × Value → H) : ∃ x, DataW.whole enc Tryz.prog ((World.laidAll Tryz.prog os laidL).forCall (fun _ _ => 0) ⟨#[], #[.slice none 0 0, .slice none 0 0], []⟩).memory Tryz.f10.params.toList Rows.replayJunkSpec.vars false #[.slice none 0 0, .slice none 0 0].toList 8 = some x ∧ Rows.uptoSmall H (x.1 ++ x.2.1) = true := by
  have h : (match DataW.whole enc Tryz.prog ((World.laidAll Tryz.prog os laidL).forCall (fun _ _ => 0) ⟨#[], #[.slice none 0 0, .slice none 0 0], []⟩).memory Tryz.f10.params.toList Rows.replayJunkSpec.vars false #[.slice none 0 0, .slice none 0 0].toList 8 with | some x => Rows.uptoSmall H (x.1 ++ x.2.1) | none => false) = true := by kernel_rfl
  revert h
  cases DataW.whole enc Tryz.prog ((World.laidAll Tryz.prog os laidL).forCall (fun _ _ => 0) ⟨#[], #[.slice none 0 0, .slice none 0 0], []⟩).memory Tryz.f10.params.toList Rows.replayJunkSpec.vars false #[.slice none 0 0, .slice none 0 0].toList 8 with
  | none => intro h; cases h
  | some x => intro h; exact ⟨x, rfl, h⟩
set_option maxRecDepth 100000 in
theorem okB (os : Os) : Input.okWideB Tryz.prog ((World.laidAll Tryz.prog os laidL).forCall (fun _ _ => 0) ⟨#[], #[.slice none 0 0, .slice none 0 0], []⟩) 10 ⟨#[], #[.slice none 0 0, .slice none 0 0], []⟩ = true := by kernel_rfl
set_option maxRecDepth 100000 in
theorem lifted (os : Os) (started : os.Started) (H : Type) (enc : TypeId × Value → H) (F : Stop.Interp) :
    ReturnsInHanded {} Tryz.checked os 10 .any ((Rows.OpenSpec.upto Rows.replayJunkSpec).preRow enc Tryz.prog Tryz.f10 Rows.replayJunkUptoRow.domain false Rows.replayJunkUptoRow.laid) (((Rows.OpenSpec.upto Rows.replayJunkSpec).at F).post enc Tryz.prog Tryz.f10 false true false false) := by
  obtain ⟨x, hx, hxk⟩ := witU os H enc
  refine returnsInHanded_of_row (C := Tryz.checked) (s := Rows.OpenSpec.upto Rows.replayJunkSpec) own started (by kernel_rfl) Tryz.func10
    ⟨World.laidAll Tryz.prog os laidL, fun _ _ => 0, ⟨#[], #[.slice none 0 0, .slice none 0 0], []⟩, World.laidAll_os _ _ _, World.shaped_of_ZipB (by kernel_rfl) (by kernel_rfl), (Input.okWide_of_okWideB (base := 0) (okB os)).1, (Input.okWide_of_okWideB (okB os)).2,
      OpenSpec.preRow_of_cond 8 hx rfl (fun k hk => by cases hk; exact hxk) (by kernel_rfl) (door_met os _), by
        simp only [Assume.holds]
        exact ⟨by simp, by simp, fun _ => Modest.zero, by simp, by simp⟩⟩ ?_
  intro W base args ds gs before hval0 hW hcnd hk0 hsz0 hX0 _ _
  have hX : laidMetH Tryz.prog laidL W := hX0
  have hk : Rows.uptoSmall H (ds ++ gs) = true := hk0 _ rfl
  suffices key : Calls Tryz.prog 10 args W fun e W' => ∃ v, e = .returned v ∧ Rows.replayJunkSpec.post enc Tryz.prog Tryz.f10 false true false false W args v W' from key
  have hG : GR (allOf W) := by rw [plainL] at hX; obtain ⟨_, hv, _⟩ := hX; exact gr_of hv
  have hval : ∀ (j : Nat) t v, Tryz.f10.params[j]? = some t → args[j]? = some v → Value.okWide Tryz.prog W .any base t v := hval0
  have hW' := hW
  obtain ⟨p, q, hA0, hV, rfl, hfz, hnd⟩ := hW
  have hA : DataW.TrodAll enc Tryz.prog W 0 (fun _ => true) true Tryz.f10.params.toList args.toList ds p := hA0
  have hsz : (DataW.weightsEach Tryz.prog (Tryz.f10.params.toList ++ Rows.replayJunkSpec.plain.varTypes Tryz.prog) (ds ++ gs)).all (· ≤ reachBytes) = true := hsz0
  clear hsz0
  rw [Tryz.params10] at hA hval hsz
  obtain ⟨v0, vs0, d0, ds0, p0, q0, hargs, rfl, rfl, h0, r0⟩ := trodAll_cons hA
  obtain ⟨v1, vs1, d1, ds1, p1, q1, rfl, rfl, rfl, h1, r1⟩ := trodAll_cons r0
  obtain ⟨rfl, rfl, rfl⟩ := trodAll_nil r1
  obtain rfl : args = #[v0, v1] := by cases args; simp_all
  obtain ⟨rfl, rfl⟩ := trodVars_none hV
  have lt0 : ∀ x ∈ p0, x.block < W.heap.size := by obtain ⟨m, hm⟩ := h0; exact DataW.trod_lt m _ _ _ hm
  have lt1 : ∀ x ∈ p1, x.block < W.heap.size := by obtain ⟨m, hm⟩ := h1; exact DataW.trod_lt m _ _ _ hm
  refine (replayJunk_walk enc base v0 v1 W (hval 0 54 v0 rfl rfl) ⟨_, _, h0, SmallU.arg hk (j := 0) rfl⟩ (hval 1 28 v1 rfl rfl) ⟨_, _, h1, SmallU.arg hk (j := 1) rfl⟩ hG).mono fun e W' ⟨he, bel⟩ => ?_
  subst he
  exact ⟨_, rfl, _, _, _, [], _, [], hW', trodAll_mk1 (shut_bool Tryz.underlying4 _), (trodAll_cons_mk (Below.trod laidOut (by kernel_rfl) (of_decide_eq_true (by kernel_rfl)) h0 bel lt0) (trodAll_cons_mk (Below.trod laidOut (by kernel_rfl) (of_decide_eq_true (by kernel_rfl)) h1 bel lt1) trodAll_mk0)), rfl, bel.frame _, fun h => by cases h⟩

end Go.Proofs.YtdieogcemmnaaaaGreatDoor.replayJunk




namespace Go.Proofs.YtdieogcemmnaaaaGreatDoor.replayJunk
open Go.ChangeShapes Go.WideShapes Go.ChangeAt Go.RowKit
set_option linter.unusedVariables false

theorem and2 {a b : Bool} (h1 : a = true) (h2 : b = true) : (a && b) = true := by rw [h1, h2]; rfl
theorem c0 : (fun (P : Program) (f : FuncId) (fn : Func) (s : ChangeSpec) (c : OpenClaim) => (c.wf (OpenSpec.ofChange s) : Bool)) Tryz.pinned.checked.prog 10 Tryz.f10 Rows.replayJunkSpec Rows.replayJunkUptoRow = true := by kernel_rfl
theorem c1 : (fun (P : Program) (f : FuncId) (fn : Func) (s : ChangeSpec) (c : OpenClaim) => (laidOutB P : Bool)) Tryz.pinned.checked.prog 10 Tryz.f10 Rows.replayJunkSpec Rows.replayJunkUptoRow = true := by kernel_rfl
theorem c2 : (fun (P : Program) (f : FuncId) (fn : Func) (s : ChangeSpec) (c : OpenClaim) => (mapsRowed P : Bool)) Tryz.pinned.checked.prog 10 Tryz.f10 Rows.replayJunkSpec Rows.replayJunkUptoRow = true := by kernel_rfl
theorem c3 : (fun (P : Program) (f : FuncId) (fn : Func) (s : ChangeSpec) (c : OpenClaim) => (fn.params.all (P.readableRec ·) : Bool)) Tryz.pinned.checked.prog 10 Tryz.f10 Rows.replayJunkSpec Rows.replayJunkUptoRow = true := by kernel_rfl
theorem c4 : (fun (P : Program) (f : FuncId) (fn : Func) (s : ChangeSpec) (c : OpenClaim) => (namedTie P c.named s.vars : Bool)) Tryz.pinned.checked.prog 10 Tryz.f10 Rows.replayJunkSpec Rows.replayJunkUptoRow = true := by kernel_rfl
theorem c5 : (fun (P : Program) (f : FuncId) (fn : Func) (s : ChangeSpec) (c : OpenClaim) => ((c.stops == []) : Bool)) Tryz.pinned.checked.prog 10 Tryz.f10 Rows.replayJunkSpec Rows.replayJunkUptoRow = true := by kernel_rfl
theorem c6 : (fun (P : Program) (f : FuncId) (fn : Func) (s : ChangeSpec) (c : OpenClaim) => ((P.stops == []) : Bool)) Tryz.pinned.checked.prog 10 Tryz.f10 Rows.replayJunkSpec Rows.replayJunkUptoRow = true := by kernel_rfl
theorem c7 : (fun (P : Program) (f : FuncId) (fn : Func) (s : ChangeSpec) (c : OpenClaim) => ((c.knobs == []) : Bool)) Tryz.pinned.checked.prog 10 Tryz.f10 Rows.replayJunkSpec Rows.replayJunkUptoRow = true := by kernel_rfl
theorem c8 : (fun (P : Program) (f : FuncId) (fn : Func) (s : ChangeSpec) (c : OpenClaim) => ((P.stopKnobs == []) : Bool)) Tryz.pinned.checked.prog 10 Tryz.f10 Rows.replayJunkSpec Rows.replayJunkUptoRow = true := by kernel_rfl
theorem c9 : (fun (P : Program) (f : FuncId) (fn : Func) (s : ChangeSpec) (c : OpenClaim) => ((c.inPlace == P.inPlace f) : Bool)) Tryz.pinned.checked.prog 10 Tryz.f10 Rows.replayJunkSpec Rows.replayJunkUptoRow = true := by kernel_rfl
theorem c10 : (fun (P : Program) (f : FuncId) (fn : Func) (s : ChangeSpec) (c : OpenClaim) => ((c.unfollowed == P.unfollowed f) : Bool)) Tryz.pinned.checked.prog 10 Tryz.f10 Rows.replayJunkSpec Rows.replayJunkUptoRow = true := by kernel_rfl
theorem c11 : (fun (P : Program) (f : FuncId) (fn : Func) (s : ChangeSpec) (c : OpenClaim) => ((c.recurses == P.recurses f) : Bool)) Tryz.pinned.checked.prog 10 Tryz.f10 Rows.replayJunkSpec Rows.replayJunkUptoRow = true := by kernel_rfl
theorem c12 : (fun (P : Program) (f : FuncId) (fn : Func) (s : ChangeSpec) (c : OpenClaim) => ((c.named == P.varsNamed f) : Bool)) Tryz.pinned.checked.prog 10 Tryz.f10 Rows.replayJunkSpec Rows.replayJunkUptoRow = true := by kernel_rfl
theorem c13 : (fun (P : Program) (f : FuncId) (fn : Func) (s : ChangeSpec) (c : OpenClaim) => ((c.maps == (fn.params.toList ++ s.plain.varTypes P).any (P.mapsRec ·)) : Bool)) Tryz.pinned.checked.prog 10 Tryz.f10 Rows.replayJunkSpec Rows.replayJunkUptoRow = true := by kernel_rfl
theorem c14 : (fun (P : Program) (f : FuncId) (fn : Func) (s : ChangeSpec) (c : OpenClaim) => ((c.ifaces == (fn.params.toList ++ s.plain.varTypes P).any (P.ifacesRec ·)) : Bool)) Tryz.pinned.checked.prog 10 Tryz.f10 Rows.replayJunkSpec Rows.replayJunkUptoRow = true := by kernel_rfl
theorem c15 : (fun (P : Program) (f : FuncId) (fn : Func) (s : ChangeSpec) (c : OpenClaim) => ((c.mapsOut == P.mapsAmong fn.resultTypes.toList) : Bool)) Tryz.pinned.checked.prog 10 Tryz.f10 Rows.replayJunkSpec Rows.replayJunkUptoRow = true := by kernel_rfl
theorem c16 : (fun (P : Program) (f : FuncId) (fn : Func) (s : ChangeSpec) (c : OpenClaim) => ((c.loops == (fn.params.toList ++ s.plain.varTypes P).any (P.loopsFrom ·)) : Bool)) Tryz.pinned.checked.prog 10 Tryz.f10 Rows.replayJunkSpec Rows.replayJunkUptoRow = true := by kernel_rfl
theorem c17 : (fun (P : Program) (f : FuncId) (fn : Func) (s : ChangeSpec) (c : OpenClaim) => ((c.wideKeys == (fn.params.toList ++ s.plain.varTypes P ++ fn.resultTypes.toList).any (P.wideKeysFrom ·)) : Bool)) Tryz.pinned.checked.prog 10 Tryz.f10 Rows.replayJunkSpec Rows.replayJunkUptoRow = true := by kernel_rfl
theorem c18 : (fun (P : Program) (f : FuncId) (fn : Func) (s : ChangeSpec) (c : OpenClaim) => (s.vars.all (P.varReadable ·) : Bool)) Tryz.pinned.checked.prog 10 Tryz.f10 Rows.replayJunkSpec Rows.replayJunkUptoRow = true := by kernel_rfl
theorem c19 : (fun (P : Program) (f : FuncId) (fn : Func) (s : ChangeSpec) (c : OpenClaim) => (fn.resultTypes.all (fun t => P.readableRec t && decide (t < P.types.size)) : Bool)) Tryz.pinned.checked.prog 10 Tryz.f10 Rows.replayJunkSpec Rows.replayJunkUptoRow = true := by kernel_rfl
theorem c20 : (fun (P : Program) (f : FuncId) (fn : Func) (s : ChangeSpec) (c : OpenClaim) => ((c.ifacesOut == fn.resultTypes.toList.any (P.ifacesRec ·)) : Bool)) Tryz.pinned.checked.prog 10 Tryz.f10 Rows.replayJunkSpec Rows.replayJunkUptoRow = true := by kernel_rfl
theorem c21 : (fun (P : Program) (f : FuncId) (fn : Func) (s : ChangeSpec) (c : OpenClaim) => ((c.loopsOut == fn.resultTypes.toList.any (P.loopsFrom ·)) : Bool)) Tryz.pinned.checked.prog 10 Tryz.f10 Rows.replayJunkSpec Rows.replayJunkUptoRow = true := by kernel_rfl
theorem c22 : (fun (P : Program) (f : FuncId) (fn : Func) (s : ChangeSpec) (c : OpenClaim) => ((c.plainKeys == P.plainKeys) : Bool)) Tryz.pinned.checked.prog 10 Tryz.f10 Rows.replayJunkSpec Rows.replayJunkUptoRow = true := by kernel_rfl
theorem c23 : (fun (P : Program) (f : FuncId) (fn : Func) (s : ChangeSpec) (c : OpenClaim) => (c.shortTexts.isNone : Bool)) Tryz.pinned.checked.prog 10 Tryz.f10 Rows.replayJunkSpec Rows.replayJunkUptoRow = true := by kernel_rfl
theorem c24 : (fun (P : Program) (f : FuncId) (fn : Func) (s : ChangeSpec) (c : OpenClaim) => (P.stopsHeard : Bool)) Tryz.pinned.checked.prog 10 Tryz.f10 Rows.replayJunkSpec Rows.replayJunkUptoRow = true := by kernel_rfl
theorem c25 : (fun (P : Program) (f : FuncId) (fn : Func) (s : ChangeSpec) (c : OpenClaim) => (P.mayEnter : Bool)) Tryz.pinned.checked.prog 10 Tryz.f10 Rows.replayJunkSpec Rows.replayJunkUptoRow = true := by kernel_rfl
theorem c26 : (fun (P : Program) (f : FuncId) (fn : Func) (s : ChangeSpec) (c : OpenClaim) => ((c.lifted == P.liftsFinal) : Bool)) Tryz.pinned.checked.prog 10 Tryz.f10 Rows.replayJunkSpec Rows.replayJunkUptoRow = true := by kernel_rfl
theorem c27 : (fun (P : Program) (f : FuncId) (fn : Func) (s : ChangeSpec) (c : OpenClaim) => ((P.make == some c.make) : Bool)) Tryz.pinned.checked.prog 10 Tryz.f10 Rows.replayJunkSpec Rows.replayJunkUptoRow = true := by kernel_rfl
theorem c28 : (fun (P : Program) (f : FuncId) (fn : Func) (s : ChangeSpec) (c : OpenClaim) => ((c.kinds == (if c.domain.isEmpty then [] else fn.params.toList.map fun t => match P.underlying t with | some (.int k) => some k | _ => none)) : Bool)) Tryz.pinned.checked.prog 10 Tryz.f10 Rows.replayJunkSpec Rows.replayJunkUptoRow = true := by kernel_rfl
theorem c29 : (fun (P : Program) (f : FuncId) (fn : Func) (s : ChangeSpec) (c : OpenClaim) => ((c.pinned == c.pinnedBy) : Bool)) Tryz.pinned.checked.prog 10 Tryz.f10 Rows.replayJunkSpec Rows.replayJunkUptoRow = true := by kernel_rfl
theorem c30 : (fun (P : Program) (f : FuncId) (fn : Func) (s : ChangeSpec) (c : OpenClaim) => ((c.veiled == (fn.params.toList ++ s.plain.varTypes P ++ fn.resultTypes.toList).any (P.veiledRec ·)) : Bool)) Tryz.pinned.checked.prog 10 Tryz.f10 Rows.replayJunkSpec Rows.replayJunkUptoRow = true := by kernel_rfl
theorem c31 : (fun (P : Program) (f : FuncId) (fn : Func) (s : ChangeSpec) (c : OpenClaim) => (c.veiledFits P fn.params.toList (fn.params.toList ++ s.plain.varTypes P ++ fn.resultTypes.toList) : Bool)) Tryz.pinned.checked.prog 10 Tryz.f10 Rows.replayJunkSpec Rows.replayJunkUptoRow = true := by kernel_rfl
theorem inst : Tryz.f10.isInstance Tryz.pinned.checked.prog Rows.replayJunkUptoRow.origin Rows.replayJunkUptoRow.targs := (of_decide_eq_true (by kernel_rfl))
theorem wrap : Tryz.f10.isWrapper Tryz.pinned.checked.prog Rows.replayJunkUptoRow.wrapper Rows.replayJunkUptoRow.mainSum := by unfold Func.isWrapper; first | (rw [if_pos (by decide +kernel)]; kernel_rfl) | (rw [if_neg (by decide +kernel)]; exact ⟨rfl, rfl⟩)
theorem nmd : Tryz.pinned.checked.prog.funcNamed Rows.replayJunkUptoRow.func = some 10 := by kernel_rfl
end Go.Proofs.YtdieogcemmnaaaaGreatDoor.replayJunk




namespace Go.Proofs.YtdieogcemmnaaaaGreatDoor.replayJunk
open Go.ChangeShapes Go.WideShapes Go.ChangeAt Go.RowKit
set_option linter.unusedVariables false

set_option maxRecDepth 100000 in
theorem closed : joinedFacts Tryz.pinned.checked.prog 10 Tryz.f10 Rows.replayJunkSpec Rows.replayJunkUptoRow = true := (and2 (and2 (and2 (and2 (and2 (and2 (and2 (and2 (and2 (and2 (and2 (and2 (and2 (and2 (and2 (and2 (and2 (and2 (and2 (and2 (and2 (and2 (and2 (and2 (and2 (and2 (and2 (and2 (and2 (and2 (and2 c0 c1) c2) c3) c4) c5) c6) c7) c8) c9) c10) c11) c12) c13) c14) c15) c16) c17) c18) c19) c20) c21) c22) c23) c24) c25) c26) c27) c28) c29) c30) c31)
theorem over : Rows.replayJunkUptoRow.holds Tryz.pinned (Rows.OpenSpec.upto Rows.replayJunkSpec) :=
  OpenClaim.holds_of_cond 10 Tryz.f10 rfl rfl rfl rfl rfl rfl rfl ⟨rfl, rfl, rfl, rfl, rfl⟩ rfl rfl rfl rfl rfl nmd Tryz.func10 closed inst wrap (fun os started H enc _ F => by rw [OpenClaim.pre_eq_preRow]; exact lifted os started H enc F)
end Go.Proofs.YtdieogcemmnaaaaGreatDoor.replayJunk


