/- Texts of this claim, joined. No condition. -/
import Derived.Test.YtdieogcemmnaaaaGreatDoorRJJ1
import Derived.Test.YtdieogcemmnaaaaGreatDoorRJJ2
import Derived.Test.YtdieogcemmnaaaaGreatDoorRJJ3
import Derived.SizedLaws
import Derived.ProofKit
import Derived.OpenShut
import Derived.Deep.Slices
import Derived.Lib.SmallJoins
import Derived.Below
import Derived.Laws.IdiomStrings
import Derived.KernelRfl
set_option linter.unusedSimpArgs false
set_option linter.unusedVariables false

namespace Go.Proofs.YtdieogcemmnaaaaGreatDoor
set_option linter.unusedSimpArgs false
set_option linter.unusedVariables false
open Go.Proofs.YtdieogcemmnaaaaGreatDoor RX
set_option maxRecDepth 100000

structure CallM where
  kind : Int
  path : Nm
  other : Nm
  off : Int
  n : Int
  da : Option Addr
  dl : Nat
  dc : Nat
def CallM.val (c : CallM) : Value := .agg #[.int .i64 c.kind, sE c.path, sE c.other, .int .i64 c.off, .int .i64 c.n, .slice c.da c.dl c.dc]
variable {b : Nat} {t : TS}
theorem tDir_ok : Tri Tryz.prog 60 #[] HP.tt (fun v => HP.ex fun nb => HP.ex fun mb => HP.and (v = .pointer (some ⟨nb, 0, none⟩)) (HP.sep (HP.one nb (.cells #[.int .i64 1, .int .i64 1, .slice none 0 0, .map (some mb)] 133 (0, 0))) (EntM mb []))) := by
  refine tri_of_tree (ρ := []) mixed Tryz.func60 tree_tDir ?_
  unfold t_tDir
  simp only [T.den, E.prop, E.den, RX.look, F1.app, F2.app, Uni.int_i, Uni.nat_n, Uni.bool_c, Uni.str_s, Uni.adr_a, Uni.val_v, Uni.hp_p, hden, cden, V.den, W.den, A.den, BR.den, SA.den, FV.den, capV, exs, exP, allP, Cur.app, List.map_cons, List.map_nil, List.cons_append, List.nil_append, List.drop_succ_cons, List.drop_zero, List.length_cons, List.length_nil, Nat.zero_add, Nat.reduceAdd, Int.neg_neg, Bool.not_not, List.append_nil, Nat.add_zero, List.getElem?_cons_zero, List.getElem?_cons_succ, Decidable.not_not, semW_eq, ne_eq, Nat.reduceEqDiff, not_false_eq_true]
  intro mb nb
  exact .of fun R h H => ⟨nb, mb, rfl, HP.sep_mono H (fun _ h => h) fun z hz => ⟨[], 0, ⟨MapI.nil 0, fun _ => rfl⟩, hz⟩⟩
theorem pubSet {i : Nat} {x y : HN} {k : Nat} {f : Nd → Nd} (hn : (t.pub.map (·.num)).Nodup) (hi : t.ns[i]? = some x) (hk : x.p.num = k) (hy : y.p = f x.p) : (t.setN i y).pub = setP t.pub k f := by
  unfold TS.pub TS.setN setP
  have hnd : (t.ns.map (·.p.num)).Nodup := by unfold TS.pub at hn; rw [List.map_map] at hn; exact hn
  refine List.ext_getElem? fun j => ?_
  rw [List.getElem?_map, List.getElem?_set, List.map_map, List.getElem?_map]
  split
  · rename_i e; subst e
    split
    · rw [hi]; simp [hy, hk]
    · rename_i h; exact absurd (List.getElem?_eq_some_iff.1 hi).1 h
  · rename_i e
    cases hj : t.ns[j]? with
    | none => rfl
    | some z =>
      have : ¬ z.p.num = k := fun q => by
        have h1 : (t.ns.map (·.p.num))[i]? = some k := by rw [List.getElem?_map, hi]; simp [hk]
        have h2 : (t.ns.map (·.p.num))[j]? = some k := by rw [List.getElem?_map, hj]; simp [q]
        obtain ⟨l1, e1⟩ := List.getElem?_eq_some_iff.1 h1
        obtain ⟨l2, e2⟩ := List.getElem?_eq_some_iff.1 h2
        rcases Nat.lt_or_gt_of_ne e with q | q
        · exact List.pairwise_iff_getElem.1 hnd _ _ l1 l2 q (e1.trans e2.symm)
        · exact List.pairwise_iff_getElem.1 hnd _ _ l2 l1 q (e2.trans e1.symm)
      simp [this]
theorem pubIns (y : HN) : (t.insN y).pub = insP y.p t.pub := by
  unfold TS.pub TS.insN
  induction t.ns with
  | nil => rfl
  | cons z r ih =>
    show (insH y (z :: r)).map (·.p) = insP y.p (z.p :: r.map (·.p))
    unfold insH insP
    split
    · rw [List.map_cons]; congr 1
    · rfl
theorem pubDrop (k : Nat) : (t.dropN k).pub = delP t.pub k := by
  unfold TS.pub TS.dropN delP
  rw [List.filter_map]; rfl
theorem idx_of {t : TS} {x : HN} (h : x ∈ t.ns) : ∃ i : Nat, t.ns[i]? = some x := List.mem_iff_getElem?.1 h
theorem undNP : Tryz.prog.underlying 121 = some (.pointer 133) := by kernel_rfl
theorem rdU {s : Sem Next} {S U : HP} {v : Value} (r : ORead Tryz.prog s S v) : ORead Tryz.prog s (HP.sep U S) v := r.imp fun _ _ H => HP.sep_right H
theorem putTail {t1 : TS} {x : HN} {i : Nat} (hi : t1.ns[i]? = some x) (hk : x.p.kind = 1) (nm : Nm) (k : Nat) {U : HP} {K : HP → HP → Prop} (hK : K HP.tt (TRep b (t1.setN i (x.setE (putE nm k x.p.ents))))) :
    ∃ q : Nat, ORead Tryz.prog (nilS (.pointer (some ⟨x.nb, 0, none⟩))) (HP.sep U (TRep b t1)) (.pointer (some ⟨q, 0, none⟩)) ∧ ∃ m : Nat, ORead Tryz.prog (loadS 131 (.pointer (some ⟨q, 3, none⟩))) (HP.sep U (TRep b t1)) (.map (some m)) ∧
      OTri Tryz.prog (updS 131 (.map (some m)) (sE nm) (.int .i64 k)) (HP.sep U (TRep b t1)) fun v => HP.ex fun a => HP.ex fun c => HP.and (v = .tuple #[]) (HP.and (K a c) (HP.sep a c)) := by
  have hm := List.mem_of_getElem? hi
  have he := ldEnts (b := b) hm
  have hmo : x.mapo = some x.mb := by unfold HN.mapo; rw [if_pos hk]
  rw [hmo] at he
  refine ⟨x.nb, nilChk', x.mb, rdU he, ?_⟩
  refine (entPut hi hk nm k).weak (fun _ _ H => HP.sep_right H) ?_
  rintro v R h ⟨rfl, H⟩
  exact ⟨_, _, rfl, hK, HP.tt_sep H⟩
theorem delTail {t1 : TS} {x : HN} {i : Nat} (hi : t1.ns[i]? = some x) (hk : x.p.kind = 1) (nm : Nm) (ts : Array TypeId) (ty : TypeId) (h0 : ts[0]? = some 131) {U : HP} {K : HP → HP → Prop} (hK : K HP.tt (TRep b (t1.setN i (x.setE (dropE nm x.p.ents))))) :
    ∃ q : Nat, ORead Tryz.prog (nilS (.pointer (some ⟨x.nb, 0, none⟩))) (HP.sep U (TRep b t1)) (.pointer (some ⟨q, 0, none⟩)) ∧ ∃ m : Nat, ORead Tryz.prog (loadS 131 (.pointer (some ⟨q, 3, none⟩))) (HP.sep U (TRep b t1)) (.map (some m)) ∧
      OTri Tryz.prog (delS ts ty (.map (some m)) (sE nm)) (HP.sep U (TRep b t1)) fun v => HP.ex fun a => HP.ex fun c => HP.and (v = .tuple #[]) (HP.and (K a c) (HP.sep a c)) := by
  have hm := List.mem_of_getElem? hi
  have he := ldEnts (b := b) hm
  have hmo : x.mapo = some x.mb := by unfold HN.mapo; rw [if_pos hk]
  rw [hmo] at he
  refine ⟨x.nb, nilChk', x.mb, rdU he, ?_⟩
  refine (entDel hi hk nm ts ty h0).weak (fun _ _ H => HP.sep_right H) ?_
  rintro v R h ⟨rfl, H⟩
  exact ⟨_, _, rfl, hK, HP.tt_sep H⟩
theorem NRep.newD {k : Nat} {kind : Int} (hk : kind = 1) {nb mb : Nat} {R h : PH} (H : (HP.sep (HP.one nb (.cells #[.int .i64 1, .int .i64 1, .slice none 0 0, .map (some mb)] 133 (0, 0))) (EntM mb [])).p R h) : (NRep ⟨newNd k kind, nb, mb, none, 0⟩).p R h := by
  subst hk
  exact HP.sep_mono H (fun _ h => h) fun z hz => HP.sep_mono (HP.tt_sep hz) (fun z _ => OwC.nil _ _ _ _) fun _ h => h
theorem NRep.newF {k : Nat} {kind : Int} (hk : ¬ kind = 1) {nb : Nat} {R h : PH} (H : (HP.one nb (.cells #[.int .i64 2, .int .i64 1, .slice none 0 0, .map none] 133 (0, 0))).p R h) : (NRep ⟨newNd k kind, nb, 0, none, 0⟩).p R h := by
  have e : newNd k kind = ⟨k, 2, 1, [], []⟩ := by unfold newNd; rw [if_neg hk]
  rw [e]
  exact HP.sep_mono (HP.sep_tt H) (fun _ h => h) fun z hz => HP.sep_mono (HP.sep_tt hz) (fun z _ => OwC.nil _ _ _ _) fun z _ => rfl
set_option maxHeartbeats 1000000 in
theorem tMake_ok {B : Nat} (wf : TWf B t.pub) (c : CallM) (S : HP) : Tri Tryz.prog 61 #[.pointer (some ⟨b, 0, none⟩), c.val] (HP.sep (TRep b t) S)
    (fun v => HP.ex fun t' : TS => HP.and (v = .int .i64 (makeS t.pub c.kind c.path).2 ∧ t'.pub = (makeS t.pub c.kind c.path).1) (HP.sep (TRep b t') S)) := by
  refine tri_of_tree (ρ := [.n b, .p (TRep b t), .i c.kind, .s c.path, .s c.other, .i c.off, .i c.n, .a c.da, .n c.dl, .n c.dc, .p S]) mixed Tryz.func61 tree_tMake ?_
  unfold t_tMake
  simp only [T.den, E.prop, E.den, RX.look, F1.app, F2.app, Uni.int_i, Uni.nat_n, Uni.bool_c, Uni.str_s, Uni.adr_a, Uni.val_v, Uni.hp_p, hden, cden, V.den, W.den, A.den, BR.den, SA.den, FV.den, capV, exs, exP, allP, Cur.app, List.map_cons, List.map_nil, List.cons_append, List.nil_append, List.drop_succ_cons, List.drop_zero, List.length_cons, List.length_nil, Nat.zero_add, Nat.reduceAdd, Int.neg_neg, Bool.not_not, List.append_nil, Nat.add_zero, List.getElem?_cons_zero, List.getElem?_cons_succ, Decidable.not_not, semW_eq, semW_load, semW_lookup, semW_lookupC, semW_update, semW_updateC, semW_updateK, semW_nil, ne_eq, Nat.reduceEqDiff, not_false_eq_true]
  intro x0
  refine (tPlace_ok wf c.path).weak (fun _ _ h => h) ?_
  rintro v R h ⟨rfl, H⟩
  obtain ⟨T1, hT1⟩ : ∃ q, makeS t.pub c.kind c.path = q := ⟨_, rfl⟩
  rw [hT1]
  unfold makeS at hT1
  by_cases hc : (placeS t.pub c.path).2.2 = 0
  · rw [if_neg (by simp [hc])] at hT1
    rw [if_pos hc]
    obtain ⟨xu, hxu, hxk, -⟩ := place_at hc
    obtain ⟨x, hx, hxp, hxm⟩ := hn_of (by rw [hxu]; rfl)
    have hpx : ptrOf t.ns (placeS t.pub c.path).1 = .pointer (some ⟨x.nb, 0, none⟩) := by unfold ptrOf; rw [hx]; rfl
    rw [hpx]
    refine ⟨.pointer (some ⟨x.nb, 0, none⟩), HP.tt, _, _, rfl, ⟨fun h => absurd hc h, fun _ => ⟨t.mb, ldNodes, t.ns.length, by rw [semW_len]; exact lenNodes (by have := nodup_of wf.sorted; unfold TS.pub at this; rw [List.map_map] at this; exact this), ?_⟩⟩, HP.tt_sep H⟩
    have hlen : t.pub.length = t.ns.length := by unfold TS.pub; rw [List.length_map]
    rw [hlen] at hT1
    refine ⟨fun hl => .of fun R h H => ⟨t, ⟨?_, ?_⟩, H⟩, fun hl => ?_⟩
    · rw [if_pos (by omega)] at hT1; rw [← hT1]
    · rw [if_pos (by omega)] at hT1; rw [← hT1]
    rw [if_neg (by omega)] at hT1
    obtain ⟨hf, hf64, hfj⟩ := free_spec wf.sorted (by omega)
    generalize hfe : freeS t.pub = f at *
    refine ⟨fun i => ∃ k : Nat, i = k ∧ k ≤ f, fun i => f - i.toNat, ⟨1, rfl, ?_⟩, ?_⟩
    · refine Nat.pos_of_ne_zero fun e => ?_
      obtain ⟨r, hr, _⟩ := wf.root
      rw [e, hr] at hf; cases hf
    rintro _ ⟨k, rfl, hk⟩
    refine ⟨t.mb, ldNodes, .pointer ((hnAt t.ns k).map fun x => ⟨x.nb, 0, none⟩), lkNode k, _, neqNilP (by kernel_rfl) undNP, ⟨fun h1 => ?_, fun h1 => ?_⟩⟩
    · have hkf : k ≠ f := fun e => by
        have : nodeAt t.pub k = none := by rw [e]; exact hf
        rw [nodeAt_pub] at this
        rw [Option.isSome_map] at h1
        cases hq : hnAt t.ns k with
        | none => rw [hq] at h1; cases h1
        | some _ => rw [hq] at this; cases this
      exact ⟨inI64' _ (by omega) (by omega), fun _ => ⟨⟨k + 1, by omega, by omega⟩, by dsimp only; omega⟩⟩
    · have hkf : k = f := by
        rcases Nat.lt_or_eq_of_le hk with h | h
        · have := hfj k h
          rw [nodeAt_pub, Option.isSome_map] at this
          rw [Option.isSome_map] at h1
          exact absurd this h1
        · exact h
      subst hkf
      have fin : ∀ (y : HN) (i : Nat), y.p = newNd k c.kind → (t.insN y).ns[i]? = some x → ((t.insN y).setN i (x.setE (putE (placeS t.pub c.path).2.1 k x.p.ents))).pub = T1.1 := fun y i hy hi => by
        rw [← hT1]
        rw [pubSet ?_ hi (hnAt_mem hx).2 (f := fE (putE (placeS t.pub c.path).2.1 k)) rfl, pubIns, hy]
        rw [pubIns, hy]
        refine nodup_of (insP_sorted wf.sorted fun n hn e => ?_)
        have := mem_nodeAt (nodup_of wf.sorted) hn
        rw [e] at this
        exact absurd (hf.symm.trans this) (by simp)
      refine ⟨fun hkind => ⟨t.mb, ldNodes, ?_⟩, fun hkind => ⟨t.mb, ldNodes, fun nb => ?_⟩⟩
      · refine tDir_ok.weak (fun _ _ h => h) ?_
        rintro v R h ⟨nb, mb, rfl, H⟩
        refine ⟨.pointer (some ⟨nb, 0, none⟩), NRep ⟨newNd k c.kind, nb, mb, none, 0⟩, rfl, ?_, ?_⟩
        · refine (nodePut (b := b) (t := t) ⟨newNd k c.kind, nb, mb, none, 0⟩).weak (fun _ _ h => h) ?_
          rintro v R h ⟨rfl, H⟩
          obtain ⟨i, hi⟩ := idx_of (t := t.insN ⟨newNd k c.kind, nb, mb, none, 0⟩) (x := x) ((insH_perm _ _).mem_iff.2 (by simp [hxm]))
          exact ⟨_, rfl, putTail hi (by rw [hxu] at hxp; cases hxp; exact hxk) _ k (.of fun R h H => ⟨_, ⟨by rw [← hT1], fin _ i rfl hi⟩, H⟩), H⟩
        · exact NRep.newD hkind H
      · refine (nodePut (b := b) (t := t) ⟨newNd k c.kind, nb, 0, none, 0⟩).weak (fun _ _ H => HP.sep_mono H (fun _ h => h) fun z hz => NRep.newF hkind hz) ?_
        rintro v R h ⟨rfl, H⟩
        obtain ⟨i, hi⟩ := idx_of (t := t.insN ⟨newNd k c.kind, nb, 0, none, 0⟩) (x := x) ((insH_perm _ _).mem_iff.2 (by simp [hxm]))
        exact ⟨_, rfl, putTail hi (by rw [hxu] at hxp; cases hxp; exact hxk) _ k (.of fun R h H => ⟨_, ⟨by rw [← hT1], fin _ i rfl hi⟩, H⟩), H⟩
  · refine ⟨.pointer none, HP.tt, (placeS t.pub c.path).2.1, (placeS t.pub c.path).2.2, ?_, ⟨fun _ => .of fun R h H => ⟨t, ⟨?_, ?_⟩, H⟩, fun h => absurd h hc⟩, HP.tt_sep H⟩
    · rw [if_neg hc]; rfl
    · rw [if_pos hc] at hT1; rw [← hT1]
    · rw [if_pos hc] at hT1; rw [← hT1]
theorem hnIdx {t : TS} {k : Nat} {n : Nd} (h : nodeAt t.pub k = some n) : ∃ (x : HN) (i : Nat), t.ns[i]? = some x ∧ x.p = n ∧ x.p.num = k ∧ hnAt t.ns k = some x ∧ ptrOf t.ns k = .pointer (some ⟨x.nb, 0, none⟩) ∧ x ∈ t.ns := by
  obtain ⟨x, hx, hxp, hxm⟩ := hn_of (t := t) (k := k) (by rw [h]; rfl)
  obtain ⟨i, hi⟩ := idx_of hxm
  refine ⟨x, i, hi, ?_, (hnAt_mem hx).2, hx, by unfold ptrOf; rw [hx]; rfl, hxm⟩
  rw [h] at hxp; exact (Option.some.inj hxp).symm
theorem TWf.nd {B : Nat} {T : List Nd} (wf : TWf B T) : (T.map (·.num)).Nodup := nodup_of wf.sorted
theorem pubNums {t : TS} {i : Nat} {x y : HN} (hi : t.ns[i]? = some x) (hy : y.p.num = x.p.num) : (t.setN i y).pub.map (·.num) = t.pub.map (·.num) := by
  unfold TS.pub TS.setN
  rw [List.map_map, List.map_map, List.map_set]
  refine List.ext_getElem? fun j => ?_
  rw [List.getElem?_set, List.getElem?_map]
  split
  · rename_i e; subst e
    split
    · rw [hi]; simp [hy]
    · rename_i h; rw [List.length_map] at h; exact absurd (List.getElem?_eq_some_iff.1 hi).1 h
  · rfl
set_option maxHeartbeats 1000000 in
theorem tRmdir_ok {B : Nat} (wf : TWf B t.pub) (c : CallM) (S : HP) : Tri Tryz.prog 62 #[.pointer (some ⟨b, 0, none⟩), c.val] (HP.sep (TRep b t) S)
    (fun v => HP.ex fun t' : TS => HP.and (v = .int .i64 (rmdirS t.pub c.path).2 ∧ t'.pub = (rmdirS t.pub c.path).1) (HP.sep (TRep b t') S)) := by
  refine tri_of_tree (ρ := [.n b, .p (TRep b t), .i c.kind, .s c.path, .s c.other, .i c.off, .i c.n, .a c.da, .n c.dl, .n c.dc, .p S]) mixed Tryz.func62 tree_tRmdir ?_
  unfold t_tRmdir
  simp only [T.den, E.prop, E.den, RX.look, F1.app, F2.app, Uni.int_i, Uni.nat_n, Uni.bool_c, Uni.str_s, Uni.adr_a, Uni.val_v, Uni.hp_p, hden, cden, V.den, W.den, A.den, BR.den, SA.den, FV.den, capV, exs, exP, allP, Cur.app, List.map_cons, List.map_nil, List.cons_append, List.nil_append, List.drop_succ_cons, List.drop_zero, List.length_cons, List.length_nil, Nat.zero_add, Nat.reduceAdd, Int.neg_neg, Bool.not_not, List.append_nil, Nat.add_zero, List.getElem?_cons_zero, List.getElem?_cons_succ, Decidable.not_not, semW_eq, semW_load, semW_lookup, semW_lookupC, semW_delete, semW_nil, ne_eq, Nat.reduceEqDiff, not_false_eq_true]
  intro x0
  refine (tEntry_ok wf c.path).weak (fun _ _ h => h) ?_
  rintro v R h ⟨rfl, H⟩
  obtain ⟨T1, hT1⟩ : ∃ q, rmdirS t.pub c.path = q := ⟨_, rfl⟩
  rw [hT1]
  unfold rmdirS at hT1
  by_cases hc : (entryS t.pub c.path).2.2.2 = 0
  · rw [if_neg (by simp [hc])] at hT1
    rw [if_pos hc]
    obtain ⟨xn, h1, h2, h3, -⟩ := entry_ok' hc
    obtain ⟨n, h4⟩ := Option.isSome_iff_exists.1 (wf.tgt xn (wf.at' h1).2.2 _ (lk_mem h3))
    simp only at h4
    rw [h4] at hT1
    simp only at hT1
    obtain ⟨x, i, hi, rfl, hin, hih, hip, him⟩ := hnIdx h1
    obtain ⟨y, j, hj, rfl, hjn, hjh, hjp, hjm⟩ := hnIdx h4
    rw [hip]
    have hlk := lkNode (b := b) (t := t) (entryS t.pub c.path).2.2.1
    rw [hjh] at hlk
    refine ⟨.pointer (some ⟨x.nb, 0, none⟩), HP.tt, _, _, _, rfl, ⟨fun h => absurd hc h, fun _ => ⟨t.mb, ldNodes, .pointer (some ⟨y.nb, 0, none⟩), hlk, y.nb, nilChk', y.p.kind, ldKind hjm, ⟨fun hk => .of fun R h H => ⟨t, ⟨?_, ?_⟩, H⟩, fun hk => ?_⟩⟩⟩, HP.tt_sep H⟩
    · rw [if_pos hk] at hT1; rw [← hT1]
    · rw [if_pos hk] at hT1; rw [← hT1]
    have hk' : y.p.kind = 1 := by simpa using hk
    rw [if_neg (by simp [hk'])] at hT1
    have he := ldEnts (b := b) hjm
    have hmo : y.mapo = some y.mb := by unfold HN.mapo; rw [if_pos hk']
    rw [hmo] at he
    refine ⟨y.nb, nilChk', y.mb, he, y.p.ents.length, by rw [semW_len]; exact lenEnts hjm hk' (nodupE (wf.at' h4).1.sort), ⟨fun hl => .of fun R h H => ⟨t, ⟨?_, ?_⟩, H⟩, fun hl => ?_⟩⟩
    · rw [if_pos (by intro e; rw [e] at hl; simp at hl)] at hT1; rw [← hT1]
    · rw [if_pos (by intro e; rw [e] at hl; simp at hl)] at hT1; rw [← hT1]
    have hl' : y.p.ents = [] := List.length_eq_zero_iff.1 (by omega)
    rw [if_neg (by simp [hl'])] at hT1
    refine delTail hi h2 _ _ _ rfl ⟨t.mb, ldNodes, ?_⟩
    refine (nodeDel (b := b) (t := t.setN i (x.setE (dropE (entryS t.pub c.path).2.1 x.p.ents))) (entryS t.pub c.path).2.2.1 _ _ rfl).weak (fun _ _ h => h) ?_
    rintro v R h ⟨rfl, H⟩
    refine ⟨_, rfl, .of fun R h H => ⟨_, ⟨?_, ?_⟩, H⟩, H⟩
    · rw [← hT1]
    · rw [← hT1, pubDrop, pubSet wf.nd hi hin (f := fE (dropE (entryS t.pub c.path).2.1)) rfl]
  · refine ⟨.pointer none, HP.tt, (entryS t.pub c.path).2.1, (entryS t.pub c.path).2.2.1, (entryS t.pub c.path).2.2.2, ?_, ⟨fun _ => .of fun R h H => ⟨t, ⟨?_, ?_⟩, H⟩, fun h => absurd h hc⟩, HP.tt_sep H⟩
    · rw [if_neg hc]; rfl
    · rw [if_pos hc] at hT1; rw [← hT1]
    · rw [if_pos hc] at hT1; rw [← hT1]
theorem setN_at {t : TS} {i j : Nat} {x y z : HN} (hi : t.ns[i]? = some x) (hj : t.ns[j]? = some y) : (t.setN i z).ns[j]? = some (if i = j then z else y) := by
  unfold TS.setN
  rw [List.getElem?_set]
  split
  · rename_i e; subst e
    rw [if_pos (List.getElem?_eq_some_iff.1 hi).1]
  · exact hj
set_option maxHeartbeats 1000000 in
theorem tUnlink_ok {B : Nat} (hB : B ≤ 1000000) (wf : TWf B t.pub) (c : CallM) (S : HP) : Tri Tryz.prog 63 #[.pointer (some ⟨b, 0, none⟩), c.val] (HP.sep (TRep b t) S)
    (fun v => HP.ex fun t' : TS => HP.and (v = .int .i64 (unlinkS t.pub c.path).2 ∧ t'.pub = (unlinkS t.pub c.path).1) (HP.sep (TRep b t') S)) := by
  refine tri_of_tree (ρ := [.n b, .p (TRep b t), .i c.kind, .s c.path, .s c.other, .i c.off, .i c.n, .a c.da, .n c.dl, .n c.dc, .p S]) mixed Tryz.func63 tree_tUnlink ?_
  unfold t_tUnlink
  simp only [T.den, E.prop, E.den, RX.look, F1.app, F2.app, Uni.int_i, Uni.nat_n, Uni.bool_c, Uni.str_s, Uni.adr_a, Uni.val_v, Uni.hp_p, hden, cden, V.den, W.den, A.den, BR.den, SA.den, FV.den, capV, exs, exP, allP, Cur.app, List.map_cons, List.map_nil, List.cons_append, List.nil_append, List.drop_succ_cons, List.drop_zero, List.length_cons, List.length_nil, Nat.zero_add, Nat.reduceAdd, Int.neg_neg, Bool.not_not, List.append_nil, Nat.add_zero, List.getElem?_cons_zero, List.getElem?_cons_succ, Decidable.not_not, semW_eq, semW_load, semW_store, semW_storeC, semW_lookup, semW_lookupC, semW_delete, semW_nil, ne_eq, Nat.reduceEqDiff, not_false_eq_true]
  intro x0
  refine (tEntry_ok wf c.path).weak (fun _ _ h => h) ?_
  rintro v R h ⟨rfl, H⟩
  obtain ⟨T1, hT1⟩ : ∃ q, unlinkS t.pub c.path = q := ⟨_, rfl⟩
  rw [hT1]
  unfold unlinkS at hT1
  by_cases hc : (entryS t.pub c.path).2.2.2 = 0
  · rw [if_neg (by simp [hc])] at hT1
    rw [if_pos hc]
    obtain ⟨xn, h1, h2, h3, -⟩ := entry_ok' hc
    obtain ⟨n, h4⟩ := Option.isSome_iff_exists.1 (wf.tgt xn (wf.at' h1).2.2 _ (lk_mem h3))
    simp only at h4
    rw [h4] at hT1
    simp only at hT1
    obtain ⟨x, i, hi, rfl, hin, hih, hip, him⟩ := hnIdx h1
    obtain ⟨y, j, hj, rfl, hjn, hjh, hjp, hjm⟩ := hnIdx h4
    rw [hip]
    have hlk := lkNode (b := b) (t := t) (entryS t.pub c.path).2.2.1
    rw [hjh] at hlk
    refine ⟨.pointer (some ⟨x.nb, 0, none⟩), HP.tt, _, _, _, rfl, ⟨fun h => absurd hc h, fun _ => ⟨t.mb, ldNodes, .pointer (some ⟨y.nb, 0, none⟩), hlk, y.nb, nilChk', y.p.kind, ldKind hjm, ⟨fun hk => .of fun R h H => ⟨t, ⟨?_, ?_⟩, H⟩, fun hk => ?_⟩⟩⟩, HP.tt_sep H⟩
    · rw [if_pos hk] at hT1; rw [← hT1]
    · rw [if_pos hk] at hT1; rw [← hT1]
    rw [if_neg hk] at hT1
    have hij : i ≠ j := fun e => by
      subst e; rw [hi] at hj; cases hj; exact hk h2
    have hj1 := setN_at (z := x.setE (dropE (entryS t.pub c.path).2.1 x.p.ents)) hi hj
    rw [if_neg hij] at hj1
    have hp1 : (t.setN i (x.setE (dropE (entryS t.pub c.path).2.1 x.p.ents))).pub = setP t.pub (entryS t.pub c.path).1 (fE (dropE (entryS t.pub c.path).2.1)) := pubSet wf.nd hi hin (f := fE (dropE (entryS t.pub c.path).2.1)) rfl
    have hn1 := (pubNums (y := x.setE (dropE (entryS t.pub c.path).2.1 x.p.ents)) hi rfl) ▸ wf.nd
    rw [← hp1] at hT1
    obtain ⟨t1, ht1⟩ : ∃ q, t.setN i (x.setE (dropE (entryS t.pub c.path).2.1 x.p.ents)) = q := ⟨_, rfl⟩
    rw [ht1] at hp1 hj1 hT1 hn1
    have hj2 := setN_at (z := y.setL (y.p.links - 1)) hj1 hj1
    rw [if_pos rfl] at hj2
    have hp2 : (t1.setN j (y.setL (y.p.links - 1))).pub = setP t1.pub (entryS t.pub c.path).2.2.1 (fL (-1)) := pubSet hn1 hj1 hjn (f := fL (-1)) rfl
    rw [← hp2] at hT1
    have hl1 := (wf.at' h4).1.lpos
    have hl2 := (wf.at' h4).1.lfew
    refine delTail hi h2 _ _ _ rfl ?_
    rw [ht1]
    refine ⟨y.nb, nilChk', y.p.links, ldLinks (List.mem_of_getElem? hj1), inI64' _ (by omega) (by omega), fun _ => ⟨y.nb, nilChk', ?_⟩⟩
    refine (linkStore (b := b) hj1 (y.p.links - 1)).weak (fun _ _ h => h) ?_
    rintro v R h ⟨rfl, H⟩
    refine ⟨_, rfl, ⟨y.nb, nilChk', y.p.links - 1, ldLinks (List.mem_of_getElem? hj2), ⟨fun h0 => ⟨t1.mb, ldNodes, ?_⟩, fun h0 => .of fun R h H => ⟨_, ⟨?_, ?_⟩, H⟩⟩⟩, H⟩
    · rw [if_pos (by omega)] at hT1
      refine (nodeDel (b := b) (t := t1.setN j (y.setL (y.p.links - 1))) (entryS t.pub c.path).2.2.1 _ _ rfl).weak (fun _ _ h => h) ?_
      rintro v R h ⟨rfl, H⟩
      exact ⟨_, rfl, .of fun R h H => ⟨_, ⟨by rw [← hT1], by rw [← hT1, pubDrop]⟩, H⟩, H⟩
    · rw [if_neg (by omega)] at hT1; rw [← hT1]
    · rw [if_neg (by omega)] at hT1; rw [← hT1]
  · refine ⟨.pointer none, HP.tt, (entryS t.pub c.path).2.1, (entryS t.pub c.path).2.2.1, (entryS t.pub c.path).2.2.2, ?_, ⟨fun _ => .of fun R h H => ⟨t, ⟨?_, ?_⟩, H⟩, fun h => absurd h hc⟩, HP.tt_sep H⟩
    · rw [if_neg hc]; rfl
    · rw [if_pos hc] at hT1; rw [← hT1]
    · rw [if_pos hc] at hT1; rw [← hT1]
set_option maxHeartbeats 1000000 in
theorem tLink_ok {B : Nat} (hB : B ≤ 1000000) (wf : TWf B t.pub) (c : CallM) (S : HP) : Tri Tryz.prog 64 #[.pointer (some ⟨b, 0, none⟩), c.val] (HP.sep (TRep b t) S)
    (fun v => HP.ex fun t' : TS => HP.and (v = .int .i64 (linkS t.pub c.path c.other).2 ∧ t'.pub = (linkS t.pub c.path c.other).1) (HP.sep (TRep b t') S)) := by
  refine tri_of_tree (ρ := [.n b, .p (TRep b t), .i c.kind, .s c.path, .s c.other, .i c.off, .i c.n, .a c.da, .n c.dl, .n c.dc, .p S]) mixed Tryz.func64 tree_tLink ?_
  unfold t_tLink
  simp only [T.den, E.prop, E.den, RX.look, F1.app, F2.app, Uni.int_i, Uni.nat_n, Uni.bool_c, Uni.str_s, Uni.adr_a, Uni.val_v, Uni.hp_p, hden, cden, V.den, W.den, A.den, BR.den, SA.den, FV.den, capV, exs, exP, allP, Cur.app, List.map_cons, List.map_nil, List.cons_append, List.nil_append, List.drop_succ_cons, List.drop_zero, List.length_cons, List.length_nil, Nat.zero_add, Nat.reduceAdd, Int.neg_neg, Bool.not_not, List.append_nil, Nat.add_zero, List.getElem?_cons_zero, List.getElem?_cons_succ, Decidable.not_not, semW_eq, semW_load, semW_store, semW_storeC, semW_update, semW_updateC, semW_updateK, semW_nil, ne_eq, Nat.reduceEqDiff, not_false_eq_true]
  intro x0
  refine (tFile_ok wf c.path).weak (fun _ _ h => h) ?_
  rintro v R h ⟨rfl, H⟩
  obtain ⟨T1, hT1⟩ : ∃ q, linkS t.pub c.path c.other = q := ⟨_, rfl⟩
  rw [hT1]
  unfold linkS at hT1
  by_cases hf : (fileS t.pub c.path).2 = 0
  · rw [if_neg (by simp [hf])] at hT1
    rw [if_pos hf]
    obtain ⟨n, h4, hk2, -⟩ := file_at wf hf
    obtain ⟨y, j, hj, rfl, hjn, hjh, hjp, hjm⟩ := hnIdx h4
    rw [hjp]
    refine ⟨.pointer (some ⟨y.nb, 0, none⟩), HP.tt, _, _, rfl, ⟨fun h => absurd hf h, fun _ => ?_⟩, HP.tt_sep H⟩
    refine (tPlace_ok wf c.other).weak (fun _ _ h => h) ?_
    rintro v R h ⟨rfl, H⟩
    by_cases hc : (placeS t.pub c.other).2.2 = 0
    · rw [if_neg (by simp [hc])] at hT1
      rw [if_pos hc]
      obtain ⟨xn, h1, h2, -⟩ := place_at hc
      obtain ⟨x, i, hi, rfl, hin, hih, hip, him⟩ := hnIdx h1
      rw [hip]
      have hij : i ≠ j := fun e => by
        subst e; rw [hi] at hj; cases hj; omega
      have hj1 := setN_at (z := x.setE (putE (placeS t.pub c.other).2.1 (fileS t.pub c.path).1 x.p.ents)) hi hj
      rw [if_neg hij] at hj1
      have hp1 : (t.setN i (x.setE (putE (placeS t.pub c.other).2.1 (fileS t.pub c.path).1 x.p.ents))).pub = setP t.pub (placeS t.pub c.other).1 (fE (putE (placeS t.pub c.other).2.1 (fileS t.pub c.path).1)) := pubSet wf.nd hi hin (f := fE (putE (placeS t.pub c.other).2.1 (fileS t.pub c.path).1)) rfl
      have hn1 := (pubNums (y := x.setE (putE (placeS t.pub c.other).2.1 (fileS t.pub c.path).1 x.p.ents)) hi rfl) ▸ wf.nd
      rw [← hp1] at hT1
      obtain ⟨t1, ht1⟩ : ∃ q, t.setN i (x.setE (putE (placeS t.pub c.other).2.1 (fileS t.pub c.path).1 x.p.ents)) = q := ⟨_, rfl⟩
      rw [ht1] at hp1 hj1 hT1 hn1
      have hp2 : (t1.setN j (y.setL (y.p.links + 1))).pub = setP t1.pub (fileS t.pub c.path).1 (fL 1) := pubSet hn1 hj1 hjn (f := fL 1) rfl
      rw [← hp2] at hT1
      have hl1 := (wf.at' h4).1.lpos
      have hl2 := (wf.at' h4).1.lfew
      refine ⟨.pointer (some ⟨x.nb, 0, none⟩), HP.tt, _, _, rfl, ⟨fun h => absurd hc h, fun _ => ?_⟩, HP.tt_sep H⟩
      refine putTail hi h2 _ _ ?_
      rw [ht1]
      refine ⟨y.nb, nilChk', y.p.links, rdU (ldLinks (List.mem_of_getElem? hj1)), inI64' _ (by omega) (by omega), fun _ => ⟨y.nb, nilChk', ?_⟩⟩
      refine (linkStore (b := b) hj1 (y.p.links + 1)).weak (fun _ _ H => HP.sep_right H) ?_
      rintro v R h ⟨rfl, H⟩
      exact ⟨HP.tt, _, rfl, .of fun R h H => ⟨_, ⟨by rw [← hT1], by rw [← hT1]⟩, H⟩, HP.tt_sep H⟩
    · refine ⟨.pointer none, HP.tt, (placeS t.pub c.other).2.1, (placeS t.pub c.other).2.2, ?_, ⟨fun _ => .of fun R h H => ⟨t, ⟨?_, ?_⟩, H⟩, fun h => absurd h hc⟩, HP.tt_sep H⟩
      · rw [if_neg hc]; rfl
      · rw [if_pos hc] at hT1; rw [← hT1]
      · rw [if_pos hc] at hT1; rw [← hT1]
  · refine ⟨.pointer none, HP.tt, (fileS t.pub c.path).1, (fileS t.pub c.path).2, ?_, ⟨fun _ => .of fun R h H => ⟨t, ⟨?_, ?_⟩, H⟩, fun h => absurd h hf⟩, HP.tt_sep H⟩
    · rw [if_neg hf]; rfl
    · rw [if_pos hf] at hT1; rw [← hT1]
    · rw [if_pos hf] at hT1; rw [← hT1]
set_option maxHeartbeats 1000000 in
theorem tRename_ok {B : Nat} (wf : TWf B t.pub) (c : CallM) (S : HP) : Tri Tryz.prog 65 #[.pointer (some ⟨b, 0, none⟩), c.val] (HP.sep (TRep b t) S)
    (fun v => HP.ex fun t' : TS => HP.and (v = .int .i64 (renameS t.pub c.path c.other).2 ∧ t'.pub = (renameS t.pub c.path c.other).1) (HP.sep (TRep b t') S)) := by
  refine tri_of_tree (ρ := [.n b, .p (TRep b t), .i c.kind, .s c.path, .s c.other, .i c.off, .i c.n, .a c.da, .n c.dl, .n c.dc, .p S]) mixed Tryz.func65 tree_tRename ?_
  unfold t_tRename
  simp only [T.den, E.prop, E.den, RX.look, F1.app, F2.app, Uni.int_i, Uni.nat_n, Uni.bool_c, Uni.str_s, Uni.adr_a, Uni.val_v, Uni.hp_p, hden, cden, V.den, W.den, A.den, BR.den, SA.den, FV.den, capV, exs, exP, allP, Cur.app, List.map_cons, List.map_nil, List.cons_append, List.nil_append, List.drop_succ_cons, List.drop_zero, List.length_cons, List.length_nil, Nat.zero_add, Nat.reduceAdd, Int.neg_neg, Bool.not_not, List.append_nil, Nat.add_zero, List.getElem?_cons_zero, List.getElem?_cons_succ, Decidable.not_not, semW_eq, semW_load, semW_update, semW_updateC, semW_updateK, semW_delete, semW_nil, ne_eq, Nat.reduceEqDiff, not_false_eq_true]
  intro x0
  refine (tEntry_ok wf c.path).weak (fun _ _ h => h) ?_
  rintro v R h ⟨rfl, H⟩
  obtain ⟨T1, hT1⟩ : ∃ q, renameS t.pub c.path c.other = q := ⟨_, rfl⟩
  rw [hT1]
  unfold renameS at hT1
  by_cases hc : (entryS t.pub c.path).2.2.2 = 0
  · rw [if_neg (by simp [hc])] at hT1
    rw [if_pos hc]
    obtain ⟨xn, h1, h2, h3, -⟩ := entry_ok' hc
    obtain ⟨x, i, hi, rfl, hin, hih, hip, him⟩ := hnIdx h1
    rw [hip]
    refine ⟨.pointer (some ⟨x.nb, 0, none⟩), HP.tt, _, _, _, rfl, ⟨fun h => absurd hc h, fun _ => ⟨fun he => .of fun R h H => ⟨t, ⟨?_, ?_⟩, H⟩, fun he => ?_⟩⟩, HP.tt_sep H⟩
    · rw [if_pos he] at hT1; rw [← hT1]
    · rw [if_pos he] at hT1; rw [← hT1]
    rw [if_neg he] at hT1
    refine (pInside_ok c.other c.path).weak (fun _ _ h => h) ?_
    rintro v R h rfl
    refine ⟨insideP c.other c.path, rfl, ⟨fun hs => .of fun R h H => ⟨t, ⟨?_, ?_⟩, H⟩, fun hs => ?_⟩, trivial⟩
    · rw [if_pos hs] at hT1; rw [← hT1]
    · rw [if_pos hs] at hT1; rw [← hT1]
    rw [if_neg hs] at hT1
    refine (tPlace_ok wf c.other).weak (fun _ _ h => h) ?_
    rintro v R h ⟨rfl, H⟩
    by_cases hd : (placeS t.pub c.other).2.2 = 0
    · rw [if_neg (by simp [hd])] at hT1
      rw [if_pos hd]
      obtain ⟨yn, g1, g2, -⟩ := place_at hd
      obtain ⟨y, j, hj, rfl, hjn, hjh, hjp, hjm⟩ := hnIdx g1
      rw [hjp]
      have hj1 := setN_at (z := x.setE (dropE (entryS t.pub c.path).2.1 x.p.ents)) hi hj
      obtain ⟨z, hz, hzn, hzk, hzb⟩ : ∃ z, (if i = j then x.setE (dropE (entryS t.pub c.path).2.1 x.p.ents) else y) = z ∧ z.p.num = (placeS t.pub c.other).1 ∧ z.p.kind = 1 ∧ z.nb = y.nb := by
        split
        · rename_i e; subst e; rw [hi] at hj; cases hj
          exact ⟨_, rfl, hjn, g2, rfl⟩
        · exact ⟨_, rfl, hjn, g2, rfl⟩
      rw [hz] at hj1
      have hp1 : (t.setN i (x.setE (dropE (entryS t.pub c.path).2.1 x.p.ents))).pub = setP t.pub (entryS t.pub c.path).1 (fE (dropE (entryS t.pub c.path).2.1)) := pubSet wf.nd hi hin (f := fE (dropE (entryS t.pub c.path).2.1)) rfl
      have hn1 := (pubNums (y := x.setE (dropE (entryS t.pub c.path).2.1 x.p.ents)) hi rfl) ▸ wf.nd
      rw [← hp1] at hT1
      obtain ⟨t1, ht1⟩ : ∃ q, t.setN i (x.setE (dropE (entryS t.pub c.path).2.1 x.p.ents)) = q := ⟨_, rfl⟩
      rw [ht1] at hp1 hj1 hT1 hn1
      have hp2 : (t1.setN j (z.setE (putE (placeS t.pub c.other).2.1 (entryS t.pub c.path).2.2.1 z.p.ents))).pub = setP t1.pub (placeS t.pub c.other).1 (fE (putE (placeS t.pub c.other).2.1 (entryS t.pub c.path).2.2.1)) := pubSet hn1 hj1 hzn (f := fE (putE (placeS t.pub c.other).2.1 (entryS t.pub c.path).2.2.1)) rfl
      rw [← hp2] at hT1
      refine ⟨.pointer (some ⟨y.nb, 0, none⟩), HP.tt, _, _, rfl, ⟨fun h => absurd hd h, fun _ => ?_⟩, HP.tt_sep H⟩
      refine delTail hi h2 _ _ _ rfl ?_
      rw [ht1, ← hzb]
      exact putTail hj1 hzk _ _ (.of fun R h H => ⟨_, ⟨by rw [← hT1], by rw [← hT1]⟩, H⟩)
    · refine ⟨.pointer none, HP.tt, (placeS t.pub c.other).2.1, (placeS t.pub c.other).2.2, ?_, ⟨fun _ => .of fun R h H => ⟨t, ⟨?_, ?_⟩, H⟩, fun h => absurd h hd⟩, HP.tt_sep H⟩
      · rw [if_neg hd]; rfl
      · rw [if_pos hd] at hT1; rw [← hT1]
      · rw [if_pos hd] at hT1; rw [← hT1]
  · refine ⟨.pointer none, HP.tt, (entryS t.pub c.path).2.1, (entryS t.pub c.path).2.2.1, (entryS t.pub c.path).2.2.2, ?_, ⟨fun _ => .of fun R h H => ⟨t, ⟨?_, ?_⟩, H⟩, fun h => absurd h hc⟩, HP.tt_sep H⟩
    · rw [if_neg hc]; rfl
    · rw [if_pos hc] at hT1; rw [← hT1]
    · rw [if_pos hc] at hT1; rw [← hT1]
end Go.Proofs.YtdieogcemmnaaaaGreatDoor



namespace Go.Proofs.YtdieogcemmnaaaaGreatDoor
set_option linter.unusedSimpArgs false
set_option linter.unusedVariables false
open Go.Proofs.YtdieogcemmnaaaaGreatDoor RX
set_option maxRecDepth 100000

variable {b : Nat} {t : TS}
theorem semW_sllo {i j : Nat} {t ty : TypeId} {u v : Value} (h : i ≠ j) : semW (.slice t (.tmp i) (some (.tmp j)) none none) ty [(i, u), (j, v)] = sliceS t u (some v) none none := by
  have hb : (i == j) = false := by simpa using h
  simp [semW, execOp, arW, sliceS, List.find?, hb]
structure CallD (c : CallM) (S : HP) (d : List UInt8) : Prop where
  rd : RdL S c.da c.dl (d.map u8v)
  len : d.length = c.dl
  some' : c.dl ≠ 0 → c.da.isSome = true
set_option maxHeartbeats 1000000 in
theorem tCut_ok {B : Nat} (wf : TWf B t.pub) (c : CallM) (S : HP) : Tri Tryz.prog 68 #[.pointer (some ⟨b, 0, none⟩), c.val] (HP.sep (TRep b t) S)
    (fun v => HP.ex fun t' : TS => HP.and (v = .int .i64 (cutS t.pub c.path c.n).2 ∧ t'.pub = (cutS t.pub c.path c.n).1) (HP.sep (TRep b t') S)) := by
  refine tri_of_tree (ρ := [.n b, .p (TRep b t), .i c.kind, .s c.path, .s c.other, .i c.off, .i c.n, .a c.da, .n c.dl, .n c.dc, .p S]) mixed Tryz.func68 tree_tCut ?_
  unfold t_tCut
  simp only [T.den, E.prop, E.den, RX.look, F1.app, F2.app, Uni.int_i, Uni.nat_n, Uni.bool_c, Uni.str_s, Uni.adr_a, Uni.val_v, Uni.hp_p, hden, cden, V.den, W.den, A.den, BR.den, SA.den, FV.den, capV, exs, exP, allP, Cur.app, List.map_cons, List.map_nil, List.cons_append, List.nil_append, List.drop_succ_cons, List.drop_zero, List.length_cons, List.length_nil, Nat.zero_add, Nat.reduceAdd, Int.neg_neg, Bool.not_not, List.append_nil, Nat.add_zero, List.getElem?_cons_zero, List.getElem?_cons_succ, Decidable.not_not, semW_eq, ne_eq, Nat.reduceEqDiff, not_false_eq_true]
  intro x0
  refine (tFile_ok wf c.path).weak (fun _ _ h => h) ?_
  rintro v R h ⟨rfl, H⟩
  obtain ⟨T1, hT1⟩ : ∃ q, cutS t.pub c.path c.n = q := ⟨_, rfl⟩
  rw [hT1]
  unfold cutS at hT1
  by_cases hf : (fileS t.pub c.path).2 = 0
  · rw [if_neg (by simp [hf])] at hT1
    rw [if_pos hf]
    obtain ⟨n, h4, hk2, -⟩ := file_at wf hf
    obtain ⟨y, j, hj, rfl, hjn, hjh, hjp, hjm⟩ := hnIdx h4
    rw [hjp]
    refine ⟨.pointer (some ⟨y.nb, 0, none⟩), HP.tt, _, _, rfl, ⟨fun h => absurd hf h, fun _ => ⟨fun h => .of fun R' h' H => ⟨t, ⟨?_, ?_⟩, H⟩, fun hn0 => ⟨fun h => .of fun R' h' H => ⟨t, ⟨?_, ?_⟩, H⟩, fun hn1 => ?_⟩⟩⟩, HP.tt_sep H⟩
    · rw [if_pos h] at hT1; rw [← hT1]
    · rw [if_pos h] at hT1; rw [← hT1]
    · rw [if_neg hn0, if_pos h] at hT1; rw [← hT1]
    · rw [if_neg hn0, if_pos h] at hT1; rw [← hT1]
    rw [if_neg hn0, if_neg hn1] at hT1
    obtain ⟨k, hk⟩ := Int.eq_ofNat_of_zero_le (Int.not_lt.1 hn0)
    rw [hk] at hT1 ⊢
    refine (tResize_ok hj k (by omega)).weak (fun _ _ H => HP.sep_right H) ?_
    rintro v R h ⟨a', c', ⟨rfl, ha⟩, H⟩
    refine ⟨HP.tt, _, rfl, .of fun R h H => ⟨_, ⟨by rw [← hT1], ?_⟩, H⟩, HP.tt_sep H⟩
    rw [← hT1]
    exact pubSet wf.nd hj hjn (f := fD fun l => sizeD l (k : Int).toNat) rfl
  · refine ⟨.pointer none, HP.tt, (fileS t.pub c.path).1, (fileS t.pub c.path).2, ?_, ⟨fun _ => .of fun R h H => ⟨t, ⟨?_, ?_⟩, H⟩, fun h => absurd h hf⟩, HP.tt_sep H⟩
    · rw [if_neg hf]; rfl
    · rw [if_pos hf] at hT1; rw [← hT1]
    · rw [if_pos hf] at hT1; rw [← hT1]
set_option maxHeartbeats 1000000 in
theorem tWrite_ok {B : Nat} (wf : TWf B t.pub) (c : CallM) (S : HP) (d : List UInt8) (hd : CallD c S d) : Tri Tryz.prog 66 #[.pointer (some ⟨b, 0, none⟩), c.val] (HP.sep (TRep b t) S)
    (fun v => HP.ex fun t' : TS => HP.and (v = .int .i64 (writeS t.pub c.path c.off d).2 ∧ t'.pub = (writeS t.pub c.path c.off d).1) (HP.sep (TRep b t') S)) := by
  refine tri_of_tree (ρ := [.n b, .p (TRep b t), .i c.kind, .s c.path, .s c.other, .i c.off, .i c.n, .a c.da, .n c.dl, .n c.dc, .p S]) mixed Tryz.func66 tree_tWrite ?_
  unfold t_tWrite
  simp only [T.den, E.prop, E.den, RX.look, F1.app, F2.app, Uni.int_i, Uni.nat_n, Uni.bool_c, Uni.str_s, Uni.adr_a, Uni.val_v, Uni.hp_p, hden, cden, V.den, W.den, A.den, BR.den, SA.den, FV.den, capV, exs, exP, allP, Cur.app, List.map_cons, List.map_nil, List.cons_append, List.nil_append, List.drop_succ_cons, List.drop_zero, List.length_cons, List.length_nil, Nat.zero_add, Nat.reduceAdd, Int.neg_neg, Bool.not_not, List.append_nil, Nat.add_zero, List.getElem?_cons_zero, List.getElem?_cons_succ, Decidable.not_not, semW_eq, semW_load, semW_nil, ne_eq, Nat.reduceEqDiff, not_false_eq_true]
  intro x0
  refine (tFile_ok wf c.path).weak (fun _ _ h => h) ?_
  rintro v R h ⟨rfl, H⟩
  obtain ⟨T1, hT1⟩ : ∃ q, writeS t.pub c.path c.off d = q := ⟨_, rfl⟩
  rw [hT1]
  unfold writeS at hT1
  by_cases hf : (fileS t.pub c.path).2 = 0
  · rw [if_neg (by simp [hf])] at hT1
    rw [if_pos hf]
    obtain ⟨n, h4, hk2, -⟩ := file_at wf hf
    obtain ⟨y, j, hj, rfl, hjn, hjh, hjp, hjm⟩ := hnIdx h4
    rw [hjp]
    have hlen := hd.len
    refine ⟨.pointer (some ⟨y.nb, 0, none⟩), HP.tt, _, _, rfl, ⟨fun h => absurd hf h, fun _ => ⟨fun h => .of fun R h H => ⟨t, ⟨?_, ?_⟩, H⟩, fun hn0 => ⟨fun h => .of fun R h H => ⟨t, ⟨?_, ?_⟩, H⟩, fun hn1 => ⟨inI64' _ (by omega) (by omega), fun _ => ⟨fun h => .of fun R h H => ⟨t, ⟨?_, ?_⟩, H⟩, fun hn2 => ⟨fun h => .of fun R h H => ⟨t, ⟨?_, ?_⟩, H⟩, fun hn3 => ?_⟩⟩⟩⟩⟩⟩, HP.tt_sep H⟩
    · rw [if_pos (by omega)] at hT1; rw [← hT1]
    · rw [if_pos (by omega)] at hT1; rw [← hT1]
    · rw [if_pos (by omega)] at hT1; rw [← hT1]
    · rw [if_pos (by omega)] at hT1; rw [← hT1]
    · rw [if_neg (by omega), if_pos (by omega)] at hT1; rw [← hT1]
    · rw [if_neg (by omega), if_pos (by omega)] at hT1; rw [← hT1]
    · rw [if_neg (by omega), if_neg (by omega), if_pos (List.length_eq_zero_iff.1 (by omega))] at hT1; rw [← hT1]
    · rw [if_neg (by omega), if_neg (by omega), if_pos (List.length_eq_zero_iff.1 (by omega))] at hT1; rw [← hT1]
    rw [if_neg (by omega), if_neg (by omega), if_neg (fun e => by rw [e] at hlen; simp at hlen; omega)] at hT1
    obtain ⟨k, hk⟩ := Int.eq_ofNat_of_zero_le (Int.not_lt.1 hn0)
    rw [hk] at hT1 hn2 ⊢
    have hN : max (y.p.data.length : Int) (k + c.dl) = ((max y.p.data.length (k + c.dl) : Nat) : Int) := by omega
    have hNb : max y.p.data.length (k + c.dl) ≤ 100000 := by have := (wf.at' h4).1.data; omega
    refine ⟨y.nb, nilChk', y.da, y.p.data.length, y.dc, rdU (ldData hjm), inI64' _ (by omega) (by omega), fun _ => ?_⟩
    rw [hN]
    refine (tResize_ok hj _ hNb).weak (fun _ _ H => HP.sep_right H) ?_
    rintro v R h ⟨a', c', ⟨rfl, ha⟩, H⟩
    obtain ⟨y1, hy1⟩ : ∃ q, y.setD a' c' (sizeD y.p.data (max y.p.data.length (k + c.dl))) = q := ⟨_, rfl⟩
    have hy1d : y1.p.data = sizeD y.p.data (max y.p.data.length (k + c.dl)) := by rw [← hy1]; rfl
    have hy1l : y1.p.data.length = max y.p.data.length (k + c.dl) := by rw [hy1d, sizeD_len]
    have hj1 : (t.setN j y1).ns[j]? = some y1 := by have := setN_at (z := y1) hj hj; rwa [if_pos rfl] at this
    have hjm1 := List.mem_of_getElem? hj1
    have hnb : y1.nb = y.nb := by rw [← hy1]; rfl
    have hda : y1.da = a' := by rw [← hy1]; rfl
    rw [hy1] at H
    have hcap : y1.p.data.length ≤ y1.dc := OwC.le (HP.sep_left (HP.sep_right (TRep.node H hjm1)))
    refine ⟨HP.tt, _, rfl, ?_, HP.tt_sep H⟩
    obtain ⟨j8, hj8, z1, z2, z3⟩ := info_parts info8
    have hcd : k < y1.dc := by omega
    have sl := slice_ok undB8 hj8 (HP.sep HP.tt (TRep b (t.setN j y1))) y1.da y1.p.data.length y1.dc (some k) none none (by simp; omega) (by simpa using hcap) (Nat.le_refl _) (fun h => by cases h)
    simp only [Option.getD_some, Option.getD_none, if_neg (show ¬ y1.dc = k by omega), show szT Tryz.prog 5 = 1 from by kernel_rfl, Nat.mul_one] at sl
    rw [← hnb]
    refine ⟨y1.nb, nilChk', y1.da, y1.p.data.length, y1.dc, rdU (ldData hjm1), y1.da.map (fun x => x.add k), y1.p.data.length - k, y1.dc - k, ?_, ?_⟩
    · rw [semW_sllo (by decide)]; exact sl
    rw [semW_copy (by decide)]
    have cp := cpData (b := b) (S := S) hj1 (ty := 3) (o := k) (dl := y1.p.data.length - k) (dc := y1.dc - k) (m := c.dl) (c2 := c.dc) (d := d) hd.rd hd.len hd.some' (fun e => by have := hd.some' (by omega); rw [e] at this; cases this) (by rw [hda]; exact ha) (by omega)
    have hmin : min c.dl (y1.p.data.length - k) = c.dl := by omega
    rw [hmin] at cp
    refine cp.weak (fun _ _ H => HP.sep_right H) ?_
    rintro v R h ⟨rfl, H⟩
    refine ⟨_, HP.tt, _, rfl, .of fun R h H => ⟨_, ⟨by rw [← hT1], ?_⟩, H⟩, HP.tt_sep H⟩
    rw [← hT1]
    have e1 : ((t.setN j y1).setN j (y1.setD y1.da y1.dc (y1.p.data.take k ++ d.take c.dl ++ y1.p.data.drop (k + c.dl)))) = t.setN j (y1.setD y1.da y1.dc (y1.p.data.take k ++ d.take c.dl ++ y1.p.data.drop (k + c.dl))) := by
      unfold TS.setN; simp only [List.set_set]
    rw [e1]
    refine pubSet wf.nd hj hjn (f := fD (wrote (k : Int).toNat d)) ?_
    have e2 : y1.p.data.take k ++ d.take c.dl ++ y1.p.data.drop (k + c.dl) = wrote (k : Int).toNat d y.p.data := by
      rw [hy1d]
      unfold wrote
      rw [hlen, List.take_of_length_le (Nat.le_of_eq hlen)]
      rfl
    rw [e2, ← hy1]; rfl
  · refine ⟨.pointer none, HP.tt, (fileS t.pub c.path).1, (fileS t.pub c.path).2, ?_, ⟨fun _ => .of fun R h H => ⟨t, ⟨?_, ?_⟩, H⟩, fun h => absurd h hf⟩, HP.tt_sep H⟩
    · rw [if_neg hf]; rfl
    · rw [if_pos hf] at hT1; rw [← hT1]
    · rw [if_pos hf] at hT1; rw [← hT1]
end Go.Proofs.YtdieogcemmnaaaaGreatDoor



namespace Go.Proofs.YtdieogcemmnaaaaGreatDoor
set_option linter.unusedSimpArgs false
set_option linter.unusedVariables false
open Go.Proofs.YtdieogcemmnaaaaGreatDoor RX
set_option maxRecDepth 100000

variable {b : Nat} {t : TS}
def readS (T : List Nd) (path : Nm) (off n : Int) : Int × List UInt8 :=
  if (fileS T path).2 ≠ 0 then ((fileS T path).2, []) else if off < 0 ∨ n < 0 ∨ 256 < n then (1, []) else match nodeAt T (fileS T path).1 with
    | none => (0, [])
    | some x => (0, (x.data.drop off.toNat).take n.toNat)
structure AnsM where
  err : Int := 0
  kind : Int := 0
  size : Int := 0
  links : Int := 0
  data : List UInt8 := []
  names : List Nm := []
def AnsM.at (a : AnsM) (da : Option Addr) (dc : Nat) (na : Option Addr) (nc : Nat) : Value :=
  .agg #[.int .i64 a.err, .int .i64 a.kind, .int .i64 a.size, .int .i64 a.links, .slice da a.data.length dc, .slice na a.names.length nc]

def HP.conj (A : HP) (C : HP) : HP := ⟨fun R h => A.p R h ∧ C.p R h, fun l1 l2 ⟨h1, h2⟩ => ⟨A.mono l1 l2 h1, C.mono l1 l2 h2⟩⟩
theorem Tri.draw {P : Program} {f : FuncId} {args : Array Value} {A : HP} {B : Value → HP} {α : Type} {A' : α → HP} (h : ∀ R h, A.p R h → ∃ x, (A' x).p R h) (t : ∀ x, Tri P f args (A' x) B) : Tri P f args A B := fun w R hh F s a => by
  obtain ⟨x, hx⟩ := h R hh a
  exact t x w R hh F s hx
theorem sort_eq {α : Type} [LT α] [LE α] [DecidableRel (α := α) (· ≤ ·)] (tr : ∀ a b c : α, a ≤ b → b ≤ c → a ≤ c) (tot : ∀ a b : α, a ≤ b ∨ b ≤ a) (anti : ∀ a b : α, a ≤ b → b ≤ a → a = b) {ys zs : List α} (h : ys.Perm zs) (hs : zs.Pairwise (· ≤ ·)) : (ys.mergeSort fun x y => decide (x ≤ y)) = zs := by
  refine List.Perm.eq_of_pairwise (le := (· ≤ ·)) (fun a b _ _ => anti a b) ?_ hs ((List.mergeSort_perm ys _).trans h)
  have := List.pairwise_mergeSort (le := fun x y : α => decide (x ≤ y)) (fun a b c h1 h2 => by simp only [decide_eq_true_eq] at *; exact tr a b c h1 h2) (fun a b => by simpa using tot a b) ys
  exact this.imp fun h => by simpa using h
theorem entsDraw {x : HN} (hx : x ∈ t.ns) {X : HP} {R h : PH} (H : (HP.sep X (TRep b t)).p R h) : ∃ q : AL Nm × Nat, (HP.sep X (HP.conj (TRep b t) ⟨fun _ h => x.p.kind = 1 → MapI q.1 q.2 ∧ (∀ k, alFind k q.1 = (lk x.p.ents k).map fun n => Value.int .i64 n) ∧ h x.mb = some (mapObj sE q.1 q.2), fun _ l hh hd => ⟨(hh hd).1, (hh hd).2.1, l _ _ (hh hd).2.2⟩⟩)).p R h := by
  obtain ⟨h1, h2, d, l1, l2, H1, H2⟩ := H
  by_cases hd : x.p.kind = 1
  · obtain ⟨l, c, hI, hk, hh⟩ := NRep.emap (TRep.node H2 hx) hd
    exact ⟨(l, c), h1, h2, d, l1, l2, H1, H2, fun _ => ⟨hI, hk, hh⟩⟩
  · exact ⟨([], 0), h1, h2, d, l1, l2, H1, H2, fun e => absurd e hd⟩
theorem sortedEnts {B : Nat} {x : HN} (hx : x ∈ t.ns) (g : GoodN B x.p) (hB : B ≤ 100000) (kx : Nat) :
    Tri Tryz.prog 74 #[.func (.func 138) #[] #[.pointer (some ⟨kx, 0, none⟩)]] (HP.sep (KBoxS kx x.mapo) (TRep b t))
      (fun v => HP.ex fun a => HP.ex fun cc => HP.and (v = .slice a x.p.ents.length cc) (HP.sep (OwS a x.p.ents.length cc (x.p.ents.map (·.1))) (HP.sep (KBoxS kx x.mapo) (TRep b t)))) := by
  by_cases hd : x.p.kind = 1
  · refine Tri.draw (fun R h H => entsDraw hx H) fun q => ?_
    obtain ⟨l, c⟩ := q
    refine Tri.fact (φ := MapI l c ∧ ∀ k, alFind k l = (lk x.p.ents k).map fun n => Value.int .i64 n) (fun R h H => ⟨((HP.sep_right H).2 hd).1, ((HP.sep_right H).2 hd).2.1⟩) fun ⟨hI, hk⟩ => ?_
    have hlen := EntM.len (mb := 0) (nodupE g.sort) hI hk
    have hmo : x.mapo = some x.mb := by unfold HN.mapo; rw [if_pos hd]
    have := g.efew
    refine (sortedS_ok kx x.mapo l c _ hI (fun y hy => ?_) (fun mb e R h H => ?_) (fun e => by rw [hmo] at e; cases e) (by omega)).weak (fun _ _ h => h) ?_
    · obtain ⟨k, v, z⟩ := y
      have h1 := alFind_mem k v z l hI.1 hy
      rw [hk] at h1
      obtain ⟨n, _, h2⟩ := Option.map_eq_some_iff.1 h1
      exact ⟨n, h2.symm⟩
    · rw [hmo] at e; cases e
      exact (H.2 hd).2.2
    · rintro v R h ⟨ys, a, cc, ⟨hp, rfl⟩, H⟩
      have hp2 : ys.Perm (x.p.ents.map (·.1)) := hp.trans (al_perm hI.1 (nodupE g.sort) (lk x.p.ents) (fun k => by rw [hk]; cases lk x.p.ents k <;> rfl) (fun k => lk_keys k x.p.ents))
      rw [sort_eq (fun a b c => List.le_trans) (fun a b => List.le_total a b) (fun a b => List.le_antisymm) hp2 (g.sort.imp fun h => List.le_of_lt h)] at H
      have hl : ys.length = x.p.ents.length := by rw [hp2.length_eq, List.length_map]
      rw [hl] at H ⊢
      exact ⟨a, cc, rfl, HP.sep_mono H (fun _ h => h) fun z hz => HP.sep_mono hz (fun _ h => h) fun u hu => hu.1⟩
  · have he : x.p.ents = [] := by
      rcases g.kind with ⟨h, _⟩ | ⟨_, h⟩
      · exact absurd h hd
      · exact h
    have hmo : x.mapo = none := by unfold HN.mapo; rw [if_neg hd]
    refine (sortedS_ok kx x.mapo [] 0 (TRep b t) (MapI.nil 0) (fun y hy => by cases hy) (fun mb e R h H => by rw [hmo] at e; cases e) (fun e => rfl) (by simp)).weak (fun _ _ h => h) ?_
    rintro v R h ⟨ys, a, cc, ⟨hp, rfl⟩, H⟩
    have : ys = [] := List.Perm.eq_nil (by simpa using hp)
    subst this
    rw [he]
    rw [List.mergeSort_nil] at H
    exact ⟨a, cc, rfl, H⟩
theorem nodsDraw {X : HP} {R h : PH} (H : (HP.sep X (TRep b t)).p R h) : ∃ q : AL Int × Nat, (HP.sep X (HP.conj (TRep b t) ⟨fun _ h => MapI q.1 q.2 ∧ (∀ k, alFind k q.1 = nodeV t.ns k) ∧ h t.mb = some (mapObj i64v q.1 q.2), fun _ l hh => ⟨hh.1, hh.2.1, l _ _ hh.2.2⟩⟩)).p R h := by
  obtain ⟨h1, h2, d, l1, l2, H1, H2⟩ := H
  obtain ⟨l, c, hI, hk, hh⟩ := TRep.nmap H2
  exact ⟨(l, c), h1, h2, d, l1, l2, H1, H2, hI, hk, hh⟩
theorem TWf.few {B : Nat} {t : TS} (wf : TWf B t.pub) : t.ns.length ≤ 64 := by
  have hp : ((t.ns.map fun x => (x.p.num : Int))).length ≤ 64 := by
    have hsub : ((t.pub.map (·.num)).filter fun k => decide (k < 64)).Perm ((List.range 64).filter fun k => (nodeAt t.pub k).isSome) := by
      refine (List.perm_ext_iff_of_nodup (wf.nd.sublist List.filter_sublist) (List.nodup_range.sublist List.filter_sublist)).2 fun k => ?_
      rw [List.mem_filter, List.mem_filter, List.mem_range]
      constructor
      · rintro ⟨h1, h2⟩
        obtain ⟨n, hn, rfl⟩ := List.mem_map.1 h1
        exact ⟨by simpa using h2, by rw [mem_nodeAt wf.nd hn]; rfl⟩
      · rintro ⟨h1, h2⟩
        obtain ⟨n, hn⟩ := Option.isSome_iff_exists.1 h2
        exact ⟨List.mem_map.2 ⟨n, (nodeAt_mem hn).1, (nodeAt_mem hn).2⟩, by simpa using h1⟩
    have h1 := hsub.length_eq
    have h2 := List.length_filter_le (fun k => (nodeAt t.pub k).isSome) (List.range 64)
    have h3 : ((t.pub.map (·.num)).filter fun k => decide (k < 64)) = t.pub.map (·.num) := by
      rw [List.filter_eq_self]
      intro k hk
      obtain ⟨n, hn, rfl⟩ := List.mem_map.1 hk
      simpa using (wf.good n hn).num
    rw [h3, List.length_map] at h1
    rw [show t.pub.length = t.ns.length from by unfold TS.pub; rw [List.length_map]] at h1
    rw [List.length_range] at h2
    rw [List.length_map]; omega
  simpa using hp
theorem sortedNodes {B : Nat} (wf : TWf B t.pub) (kx : Nat) :
    Tri Tryz.prog 71 #[.func (.func 135) #[] #[.pointer (some ⟨kx, 0, none⟩)]] (HP.sep (KBoxI kx (some t.mb)) (TRep b t))
      (fun v => HP.ex fun a => HP.ex fun cc => HP.and (v = .slice a t.ns.length cc) (HP.sep (OwI a t.ns.length cc (t.ns.map fun x => (x.p.num : Int))) (HP.sep (KBoxI kx (some t.mb)) (TRep b t)))) := by
  have hs : (t.ns.map fun x => (x.p.num : Int)).Pairwise (· < ·) := by
    have h1 := wf.sorted
    unfold TS.pub at h1
    rw [List.map_map] at h1
    have e : (t.ns.map fun x => (x.p.num : Int)) = (t.ns.map ((fun n : Nd => n.num) ∘ fun x : HN => x.p)).map (fun n : Nat => (n : Int)) := by rw [List.map_map]; rfl
    rw [e]
    exact List.Pairwise.map _ (fun a b h => by exact_mod_cast h) h1
  have hnd : (t.ns.map fun x => (x.p.num : Int)).Nodup := hs.imp fun h => by omega
  have hlen64 := wf.few
  refine Tri.draw (fun R h H => nodsDraw H) fun q => ?_
  obtain ⟨l, c⟩ := q
  refine Tri.fact (φ := MapI l c ∧ ∀ k, alFind k l = nodeV t.ns k) (fun R h H => ⟨(HP.sep_right H).2.1, (HP.sep_right H).2.2.1⟩) fun ⟨hI, hk⟩ => ?_
  have hp1 : (l.map (·.1)).Perm (t.ns.map fun x => (x.p.num : Int)) := al_perm hI.1 hnd (nodeV t.ns) (fun k => by rw [hk]) fun k => by
    unfold nodeV
    rw [Option.isSome_map, List.find?_isSome]
    simp [List.mem_map]
  have hlen : l.length = t.ns.length := by simpa using hp1.length_eq
  refine (sortedI_ok kx (some t.mb) l c _ hI (fun y hy => ?_) (fun mb e R h H => by cases e; exact H.2.2.2) (fun e => by cases e) (by omega)).weak (fun _ _ h => h) ?_
  · obtain ⟨k, v, z⟩ := y
    have h1 := alFind_mem k v z l hI.1 hy
    rw [hk] at h1
    obtain ⟨n, _, h2⟩ := Option.map_eq_some_iff.1 h1
    exact ⟨n.nb, h2.symm⟩
  · rintro v R h ⟨ys, a, cc, ⟨hp, rfl⟩, H⟩
    rw [sort_eq (fun a b c => Int.le_trans) (fun a b => Int.le_total a b) (fun a b => Int.le_antisymm) (hp.trans hp1) (hs.imp fun h => Int.le_of_lt h)] at H
    have hl : ys.length = t.ns.length := by rw [hp.length_eq, List.length_map, hlen]
    rw [hl] at H ⊢
    exact ⟨a, cc, rfl, HP.sep_mono H (fun _ h => h) fun z hz => HP.sep_mono hz (fun _ h => h) fun u hu => hu.1⟩
theorem RdL.sub {S : HP} {a : Option Addr} {n : Nat} {xs : List Value} (r : RdL S a n xs) (o k : Nat) (hk : o + k ≤ n) (z : Prop) [Decidable z] (hz : z → k = 0) : RdL S (if z then a else a.map fun x => x.add o) k ((xs.drop o).take k) where
  rd w R h F s H j u hj := by
    rw [List.getElem?_take] at hj
    split at hj
    · rename_i hjk
      rw [List.getElem?_drop] at hj
      obtain ⟨g, off, rfl, hc⟩ := r.rd w R h F s H (o + j) u hj
      rw [if_neg (fun h => by have := hz h; omega)]
      refine ⟨g, off + o, by rw [Option.map_some, RX.addr_add], ?_⟩
      rw [Nat.add_assoc]; exact hc
    · cases hj
  none R h H e := by
    split at e
    · rename_i h; exact hz h
    · have := r.none R h H (by simpa using e)
      omega
theorem semW_sllh {i j k : Nat} {t ty : TypeId} {u v x : Value} (h : i ≠ j) (h2 : i ≠ k) (h3 : j ≠ k) : semW (.slice t (.tmp i) (some (.tmp j)) (some (.tmp k)) none) ty [(i, u), (j, v), (k, x)] = sliceS t u (some v) (some x) none := by
  have hb : (i == j) = false := by simpa using h
  have hb2 : (i == k) = false := by simpa using h2
  have hb3 : (j == k) = false := by simpa using h3
  simp [semW, execOp, arW, sliceS, List.find?, hb, hb2, hb3]
def AnsR (da : Option Addr) (dc : Nat) (na : Option Addr) (nc : Nat) (a : AnsM) : HP := HP.sep (OwB da a.data.length dc a.data) (OwS na a.names.length nc a.names)
theorem AnsR.nil {a : AnsM} (hd : a.data = []) (hn : a.names = []) {A : HP} {R h : PH} (H : A.p R h) : (HP.sep (OwB none a.data.length 0 a.data) (HP.sep (OwS none a.names.length 0 a.names) A)).p R h := by
  rw [hd, hn]
  exact HP.sep_mono (HP.tt_sep H) (fun _ _ => OwC.nil _ _ _ _) fun z hz => HP.sep_mono (HP.tt_sep hz) (fun _ _ => OwC.nil _ _ _ _) fun _ h => h
def Told (b : Nat) (t : TS) (S : HP) (a : AnsM) (v : Value) : HP := HP.ex fun da => HP.ex fun dc => HP.ex fun na => HP.ex fun nc => HP.and (v = a.at da dc na nc) (HP.sep (OwB da a.data.length dc a.data) (HP.sep (OwS na a.names.length nc a.names) (HP.sep (TRep b t) S)))
theorem Told.nil {S : HP} {a : AnsM} {v : Value} (hd : a.data = []) (hn : a.names = []) (hv : v = a.at none 0 none 0) : HP.ent (HP.sep (TRep b t) S) (Told b t S a v) := .of fun R h H => ⟨none, 0, none, 0, hv, AnsR.nil hd hn H⟩
def readS' (T : List Nd) (path : Nm) (off n : Int) : AnsM := { err := (readS T path off n).1, data := (readS T path off n).2 }
def statS (T : List Nd) (path : Nm) : AnsM :=
  if (findS T path).2 ≠ 0 then { err := (findS T path).2 } else match nodeAt T (findS T path).1 with
    | none => {}
    | some x => { kind := x.kind, size := if x.kind = 1 then x.ents.length else x.data.length, links := x.links }
def listS (T : List Nd) (path : Nm) : AnsM :=
  if (findS T path).2 ≠ 0 then { err := (findS T path).2 } else match nodeAt T (findS T path).1 with
    | none => {}
    | some x => if x.kind ≠ 1 then { err := 23 } else { names := x.ents.map (·.1) }
set_option maxHeartbeats 1000000 in
theorem tList_ok {B : Nat} (hB : B ≤ 100000) (wf : TWf B t.pub) (c : CallM) (S : HP) : Tri Tryz.prog 70 #[.pointer (some ⟨b, 0, none⟩), c.val] (HP.sep (TRep b t) S) (Told b t S (listS t.pub c.path)) := by
  refine tri_of_tree (ρ := [.n b, .p (TRep b t), .i c.kind, .s c.path, .s c.other, .i c.off, .i c.n, .a c.da, .n c.dl, .n c.dc, .p S]) mixed Tryz.func70 tree_tList ?_
  unfold t_tList
  simp only [T.den, E.prop, E.den, RX.look, F1.app, F2.app, Uni.int_i, Uni.nat_n, Uni.bool_c, Uni.str_s, Uni.adr_a, Uni.val_v, Uni.hp_p, hden, cden, V.den, W.den, A.den, BR.den, SA.den, FV.den, capV, exs, exP, allP, Cur.app, List.map_cons, List.map_nil, List.cons_append, List.nil_append, List.drop_succ_cons, List.drop_zero, List.length_cons, List.length_nil, Nat.zero_add, Nat.reduceAdd, Int.neg_neg, Bool.not_not, List.append_nil, Nat.add_zero, List.getElem?_cons_zero, List.getElem?_cons_succ, Decidable.not_not, semW_eq, semW_load, semW_lookup, semW_lookupC, semW_nil, ne_eq, Nat.reduceEqDiff, not_false_eq_true]
  intro x0 x00
  refine (tFind_ok wf c.path).weak (fun _ _ h => h) ?_
  rintro v R h ⟨rfl, H⟩
  obtain ⟨T1, hT1⟩ : ∃ q, listS t.pub c.path = q := ⟨_, rfl⟩
  rw [hT1]
  unfold listS at hT1
  refine ⟨_, _, rfl, ?_, H⟩
  clear H
  obtain ⟨xn, hxn⟩ := Option.isSome_iff_exists.1 (findS_some wf c.path)
  obtain ⟨x, i, hi, rfl, hin, hih, hip, him⟩ := hnIdx hxn
  have hlk := lkNode (b := b) (t := t) (findS t.pub c.path).1
  rw [hih] at hlk
  refine ⟨fun hc => ?_, fun hc => ⟨t.mb, ldNodes, .pointer (some ⟨x.nb, 0, none⟩), hlk, x.nb, nilChk', x.p.kind, ldKind him, ⟨fun hk => ?_, fun hk => ?_⟩⟩⟩
  · rw [if_pos hc] at hT1; subst hT1
    exact Told.nil rfl rfl rfl
  · rw [if_neg (by simp [hc]), hxn] at hT1
    simp only at hT1
    rw [if_pos hk] at hT1; subst hT1
    exact Told.nil rfl rfl rfl
  · rw [if_neg (by simp [hc]), hxn] at hT1
    simp only at hT1
    rw [if_neg (by simp [hk])] at hT1
    have he := ldEnts (b := b) him
    have hmo : x.mapo = some x.mb := by unfold HN.mapo; rw [if_pos hk]
    rw [hmo] at he
    refine ⟨x.nb, nilChk', x.mb, he, ?_⟩
    refine (keysS_ok (some x.mb) (TRep b t)).weak (fun _ _ h => h) ?_
    rintro v R h ⟨kx, rfl, H⟩
    refine ⟨.func (.func 138) #[] #[.pointer (some ⟨kx, 0, none⟩)], KBoxS kx (some x.mb), rfl, ?_, H⟩
    clear H
    have so := sortedEnts (b := b) him (wf.good _ (wf.at' hxn).2.2) hB kx
    rw [hmo] at so
    refine so.weak (fun _ _ h => h) ?_
    rintro v R h ⟨a, cc, rfl, H⟩
    refine ⟨a, x.p.ents.length, cc, _, rfl, .of fun R h H => ?_, H⟩
    subst hT1
    refine ⟨none, 0, a, cc, ?_, ?_⟩
    · unfold AnsM.at; simp only [List.length_map]; rfl
    · refine HP.sep_mono (HP.tt_sep H) (fun _ _ => OwC.nil _ _ _ _) fun z hz => ?_
      simp only [List.length_map]
      exact HP.pick [_, _, _] [2, 0, 1] (by decide) rfl hz
set_option maxHeartbeats 1000000 in
theorem tStat_ok {B : Nat} (wf : TWf B t.pub) (c : CallM) (S : HP) : Tri Tryz.prog 69 #[.pointer (some ⟨b, 0, none⟩), c.val] (HP.sep (TRep b t) S) (Told b t S (statS t.pub c.path)) := by
  refine tri_of_tree (ρ := [.n b, .p (TRep b t), .i c.kind, .s c.path, .s c.other, .i c.off, .i c.n, .a c.da, .n c.dl, .n c.dc, .p S]) mixed Tryz.func69 tree_tStat ?_
  unfold t_tStat
  simp only [T.den, E.prop, E.den, RX.look, F1.app, F2.app, Uni.int_i, Uni.nat_n, Uni.bool_c, Uni.str_s, Uni.adr_a, Uni.val_v, Uni.hp_p, hden, cden, V.den, W.den, A.den, BR.den, SA.den, FV.den, capV, exs, exP, allP, Cur.app, List.map_cons, List.map_nil, List.cons_append, List.nil_append, List.drop_succ_cons, List.drop_zero, List.length_cons, List.length_nil, Nat.zero_add, Nat.reduceAdd, Int.neg_neg, Bool.not_not, List.append_nil, Nat.add_zero, List.getElem?_cons_zero, List.getElem?_cons_succ, Decidable.not_not, semW_eq, semW_load, semW_lookup, semW_lookupC, semW_nil, ne_eq, Nat.reduceEqDiff, not_false_eq_true]
  intro x0 x00
  refine (tFind_ok wf c.path).weak (fun _ _ h => h) ?_
  rintro v R h ⟨rfl, H⟩
  obtain ⟨T1, hT1⟩ : ∃ q, statS t.pub c.path = q := ⟨_, rfl⟩
  rw [hT1]
  unfold statS at hT1
  refine ⟨_, _, rfl, ?_, H⟩
  clear H
  obtain ⟨xn, hxn⟩ := Option.isSome_iff_exists.1 (findS_some wf c.path)
  obtain ⟨x, i, hi, rfl, hin, hih, hip, him⟩ := hnIdx hxn
  have hlk := lkNode (b := b) (t := t) (findS t.pub c.path).1
  rw [hih] at hlk
  refine ⟨fun hc => ?_, fun hc => ⟨t.mb, ldNodes, .pointer (some ⟨x.nb, 0, none⟩), hlk, x.nb, nilChk', x.da, x.p.data.length, x.dc, ldData him, x.nb, nilChk', x.p.kind, ldKind him, ⟨fun hk => ?_, fun hk => ?_⟩⟩⟩
  · rw [if_pos hc] at hT1; subst hT1
    exact Told.nil rfl rfl rfl
  · rw [if_neg (by simp [hc]), hxn] at hT1
    simp only at hT1
    rw [if_pos hk] at hT1; subst hT1
    have he := ldEnts (b := b) him
    have hmo : x.mapo = some x.mb := by unfold HN.mapo; rw [if_pos hk]
    rw [hmo] at he
    refine ⟨x.nb, nilChk', x.mb, he, x.p.ents.length, by rw [semW_len]; exact lenEnts him hk (nodupE (wf.at' hxn).1.sort), x.nb, nilChk', x.p.kind, ldKind him, x.nb, nilChk', x.p.links, ldLinks him, ?_⟩
    exact Told.nil rfl rfl rfl
  · rw [if_neg (by simp [hc]), hxn] at hT1
    simp only at hT1
    rw [if_neg hk] at hT1; subst hT1
    refine ⟨x.nb, nilChk', x.p.kind, ldKind him, x.nb, nilChk', x.p.links, ldLinks him, ?_⟩
    exact Told.nil rfl rfl rfl
set_option maxHeartbeats 1000000 in
theorem tRead_ok {B : Nat} (wf : TWf B t.pub) (c : CallM) (S : HP) : Tri Tryz.prog 67 #[.pointer (some ⟨b, 0, none⟩), c.val] (HP.sep (TRep b t) S) (Told b t S (readS' t.pub c.path c.off c.n)) := by
  refine tri_of_tree (ρ := [.n b, .p (TRep b t), .i c.kind, .s c.path, .s c.other, .i c.off, .i c.n, .a c.da, .n c.dl, .n c.dc, .p S]) mixed Tryz.func67 tree_tRead ?_
  unfold t_tRead
  simp only [T.den, E.prop, E.den, RX.look, F1.app, F2.app, Uni.int_i, Uni.nat_n, Uni.bool_c, Uni.str_s, Uni.adr_a, Uni.val_v, Uni.hp_p, hden, cden, V.den, W.den, A.den, BR.den, SA.den, FV.den, capV, exs, exP, allP, Cur.app, List.map_cons, List.map_nil, List.cons_append, List.nil_append, List.drop_succ_cons, List.drop_zero, List.length_cons, List.length_nil, Nat.zero_add, Nat.reduceAdd, Int.neg_neg, Bool.not_not, List.append_nil, Nat.add_zero, List.getElem?_cons_zero, List.getElem?_cons_succ, Decidable.not_not, semW_eq, semW_load, semW_nil, ne_eq, Nat.reduceEqDiff, not_false_eq_true]
  intro x0 x00
  refine (tFile_ok wf c.path).weak (fun _ _ h => h) ?_
  rintro v R h ⟨rfl, H⟩
  obtain ⟨T1, hT1⟩ : ∃ q, readS' t.pub c.path c.off c.n = q := ⟨_, rfl⟩
  rw [hT1]
  unfold readS' readS at hT1
  by_cases hf : (fileS t.pub c.path).2 = 0
  · rw [if_neg (by simp [hf])] at hT1
    rw [if_pos hf]
    obtain ⟨n, h4, hk2, -⟩ := file_at wf hf
    obtain ⟨y, j, hj, rfl, hjn, hjh, hjp, hjm⟩ := hnIdx h4
    rw [hjp]
    rw [h4] at hT1
    simp only at hT1
    have hcap : y.p.data.length ≤ y.dc := OwC.le (HP.sep_left (HP.sep_right (TRep.node H hjm)))
    refine ⟨.pointer (some ⟨y.nb, 0, none⟩), HP.tt, _, _, rfl, ⟨fun h => absurd hf h, fun _ => ⟨fun h1 => ?_, fun h1 => ⟨fun h2 => ?_, fun h2 => ⟨fun h3 => ?_, fun h3 => ?_⟩⟩⟩⟩, HP.tt_sep H⟩
    · rw [if_pos (by omega)] at hT1; subst hT1; exact Told.nil rfl rfl rfl
    · rw [if_pos (by omega)] at hT1; subst hT1; exact Told.nil rfl rfl rfl
    · rw [if_pos (by omega)] at hT1; subst hT1; exact Told.nil rfl rfl rfl
    rw [if_neg (by omega)] at hT1
    obtain ⟨o, ho⟩ : ∃ o, min c.off.toNat y.p.data.length = o := ⟨_, rfl⟩
    obtain ⟨e, he⟩ : ∃ e, min (o + c.n.toNat) y.p.data.length = e := ⟨_, rfl⟩
    have e1 : min c.off (y.p.data.length : Int) = (o : Int) := by omega
    have e2 : min ((o : Int) + c.n) (y.p.data.length : Int) = (e : Int) := by omega
    have hdl := (wf.at' h4).1.data
    have hoe : o ≤ e := by omega
    have hel : e ≤ y.p.data.length := by omega
    obtain ⟨j8, hj8, z1, z2, z3⟩ := info_parts info8
    have sl := slice_ok undB8 hj8 (HP.sep HP.tt (TRep b t)) y.da y.p.data.length y.dc (some o) (some e) none (by simpa using hoe) (by simp; omega) (Nat.le_refl _) (fun h => by cases h)
    simp only [Option.getD_some, Option.getD_none, show szT Tryz.prog 5 = 1 from by kernel_rfl, Nat.mul_one] at sl
    refine ⟨y.nb, nilChk', y.da, y.p.data.length, y.dc, rdU (ldData hjm), by rw [e1]; exact inI64' _ (by omega) (by omega), fun _ => ⟨y.nb, nilChk', y.da, y.p.data.length, y.dc, rdU (ldData hjm), y.nb, nilChk', y.da, y.p.data.length, y.dc, rdU (ldData hjm), (if y.dc = o then y.da else y.da.map fun x => x.add o), e - o, y.dc - o, ?_, ?_⟩⟩
    · rw [semW_sllh (by decide) (by decide) (by decide), e1, e2]; exact sl
    have hr : RdL (HP.sep HP.tt (TRep b t)) (if y.dc = o then y.da else y.da.map fun x => x.add o) (e - o) (((y.p.data.drop o).take (e - o)).map u8v) := by
      have r0 := rdData (b := b) hjm
      have r1 : RdL (HP.sep HP.tt (TRep b t)) y.da y.p.data.length (y.p.data.map u8v) := ⟨r0.rd.right, fun R h H => r0.none R h (HP.sep_right H)⟩
      have := r1.sub o (e - o) (by omega) (y.dc = o) (fun h => by omega)
      rwa [← List.map_drop, ← List.map_take] at this
    have hd : (y.p.data.drop o).take (e - o) = (y.p.data.drop c.off.toNat).take c.n.toNat := by
      rcases Nat.le_total c.off.toNat y.p.data.length with h | h
      · have : o = c.off.toNat := by omega
        rw [this]
        rcases Nat.le_total (c.off.toNat + c.n.toNat) y.p.data.length with g | g
        · congr 1; omega
        · rw [List.take_of_length_le (by rw [List.length_drop]; omega), List.take_of_length_le (by rw [List.length_drop]; omega)]
      · have : e - o = 0 := by omega
        rw [this, List.take_zero, List.drop_eq_nil_of_le h, List.take_nil]
    refine (clone8_ok _ _ (e - o) (y.dc - o) ((y.p.data.drop o).take (e - o)) hr (by rw [List.length_take, List.length_drop]; omega) (by omega)).weak (fun _ _ h => h) ?_
    rintro v R h ⟨a', c', rfl, H⟩
    refine ⟨a', e - o, c', _, rfl, .of fun R h H => ?_, H⟩
    subst hT1
    have hl : ((y.p.data.drop c.off.toNat).take c.n.toNat).length = e - o := by rw [← hd, List.length_take, List.length_drop]; omega
    refine ⟨a', c', none, 0, ?_, ?_⟩
    · unfold AnsM.at; simp only [hl]; rfl
    · simp only [hl]
      rw [hd] at H
      exact HP.sep_mono (HP.pick [_, _, _] [2, 0, 1] (by decide) rfl H) (fun _ h => h) fun z hz => HP.sep_mono (HP.tt_sep hz) (fun _ _ => OwC.nil _ _ _ _) fun _ h => h
  · refine ⟨.pointer none, HP.tt, (fileS t.pub c.path).1, (fileS t.pub c.path).2, ?_, ⟨fun _ => ?_, fun h => absurd h hf⟩, HP.tt_sep H⟩
    · rw [if_neg hf]; rfl
    · rw [if_pos hf] at hT1; subst hT1
      exact Told.nil rfl rfl rfl
end Go.Proofs.YtdieogcemmnaaaaGreatDoor



namespace Go.Proofs.YtdieogcemmnaaaaGreatDoor
set_option linter.unusedSimpArgs false
set_option linter.unusedVariables false
open Go.Proofs.YtdieogcemmnaaaaGreatDoor RX
set_option maxRecDepth 100000

variable {b : Nat} {t : TS}
def doS (T : List Nd) (kind : Int) (path other : Nm) (off n : Int) (d : List UInt8) : List Nd × AnsM :=
  if kind = 1 ∨ kind = 3 then ((makeS T kind path).1, { err := (makeS T kind path).2 })
  else if kind = 2 then ((rmdirS T path).1, { err := (rmdirS T path).2 })
  else if kind = 4 then ((unlinkS T path).1, { err := (unlinkS T path).2 })
  else if kind = 5 then ((linkS T path other).1, { err := (linkS T path other).2 })
  else if kind = 6 then ((renameS T path other).1, { err := (renameS T path other).2 })
  else if kind = 7 then ((writeS T path off d).1, { err := (writeS T path off d).2 })
  else if kind = 8 then (T, readS' T path off n)
  else if kind = 9 then ((cutS T path n).1, { err := (cutS T path n).2 })
  else if kind = 10 then (T, statS T path)
  else if kind = 11 then (T, listS T path)
  else if kind = 12 then (T, {})
  else (T, { err := 1 })
theorem TWf.do {B : Nat} {T : List Nd} (wf : TWf B T) (hB : 1 ≤ B) (kind : Int) (path other : Nm) (off n : Int) (d : List UInt8) : TWf (B + 1) (doS T kind path other off n d).1 := by
  unfold doS
  split
  · exact wf.make kind hB path
  split
  · exact wf.rmdir path
  split
  · exact wf.unlink path
  split
  · exact wf.link path other
  split
  · exact wf.rename path other
  split
  · exact (wf.write path off d).le (by omega)
  split
  · exact wf.le (by omega)
  split
  · exact (wf.cut path n).le (by omega)
  split
  · exact wf.le (by omega)
  split
  · exact wf.le (by omega)
  split
  · exact wf.le (by omega)
  · exact wf.le (by omega)
def DoPost (b : Nat) (r : List Nd × AnsM) (S : HP) (v : Value) : HP := HP.ex fun t' : TS => HP.and (t'.pub = r.1) (Told b t' S r.2 v)
theorem DoPost.err {r : List Nd × AnsM} {t' : TS} {S : HP} {v : Value} {e : Int} (hp : t'.pub = r.1) (hr : r.2 = { err := e }) (hv : v = AnsM.at { err := e } none 0 none 0) : HP.ent (HP.sep (TRep b t') S) (DoPost b r S v) := by
  refine .of fun R h H => ⟨t', hp, ?_⟩
  rw [hr]
  exact ⟨none, 0, none, 0, hv, AnsR.nil rfl rfl H⟩
theorem DoPost.told {r : List Nd × AnsM} {S : HP} {da na : Option Addr} {dc nc : Nat} (hp : t.pub = r.1) : HP.ent (HP.sep (TRep b t) (HP.sep S (HP.sep (OwB da r.2.data.length dc r.2.data) (OwS na r.2.names.length nc r.2.names)))) (DoPost b r S (r.2.at da dc na nc)) :=
  .of fun R h H => ⟨t, hp, da, dc, na, nc, rfl, HP.pick [_, _, _, _] [2, 3, 0, 1] (by decide) rfl H⟩
theorem doErr {f : FuncId} {args : Array Value} {S : HP} {X : List Nd × Int} {r : List Nd × AnsM} (tr : Tri Tryz.prog f args (HP.sep (TRep b t) S) (fun v => HP.ex fun t' : TS => HP.and (v = .int .i64 X.2 ∧ t'.pub = X.1) (HP.sep (TRep b t') S))) (hr : (X.1, ({ err := X.2 } : AnsM)) = r) :
    Tri Tryz.prog f args (HP.sep (TRep b t) S) (fun v => HP.ex fun x : Int => HP.ex fun x1 : HP => HP.ex fun x2 : HP => HP.and (v = .int .i64 x) (HP.and ((HP.sep x1 x2).ent (DoPost b r S (.agg #[.int .i64 x, .int .i64 0, .int .i64 0, .int .i64 0, .slice none 0 0, .slice none 0 0]))) (HP.sep x1 x2))) := by
  refine tr.weak (fun _ _ h => h) ?_
  rintro v R h ⟨t', ⟨rfl, hp⟩, H⟩
  exact ⟨X.2, TRep b t', S, rfl, DoPost.err (e := X.2) (by rw [← hr]; exact hp) (by rw [← hr]) rfl, H⟩
theorem doTold {f : FuncId} {args : Array Value} {S : HP} {a : AnsM} {r : List Nd × AnsM} (tr : Tri Tryz.prog f args (HP.sep (TRep b t) S) (Told b t S a)) (hr : (t.pub, a) = r) :
    Tri Tryz.prog f args (HP.sep (TRep b t) S) (fun v => HP.ex fun x : Int => HP.ex fun x1 : Int => HP.ex fun x2 : Int => HP.ex fun x3 : Int => HP.ex fun da : Option Addr => HP.ex fun dl : Nat => HP.ex fun dc : Nat => HP.ex fun dP : HP => HP.ex fun na : Option Addr => HP.ex fun nl : Nat => HP.ex fun nc : Nat => HP.ex fun nP : HP =>
      HP.and (v = .agg #[.int .i64 x, .int .i64 x1, .int .i64 x2, .int .i64 x3, .slice da dl dc, .slice na nl nc]) (HP.and ((HP.sep (TRep b t) (HP.sep S (HP.sep dP nP))).ent (DoPost b r S (.agg #[.int .i64 x, .int .i64 x1, .int .i64 x2, .int .i64 x3, .slice da dl dc, .slice na nl nc]))) (HP.sep dP (HP.sep nP (HP.sep (TRep b t) S))))) := by
  refine tr.weak (fun _ _ h => h) ?_
  rintro v R h ⟨da, dc, na, nc, rfl, H⟩
  refine ⟨a.err, a.kind, a.size, a.links, da, a.data.length, dc, _, na, a.names.length, nc, _, rfl, ?_, H⟩
  subst hr
  exact DoPost.told (r := (t.pub, a)) rfl
set_option maxHeartbeats 2000000 in
theorem tDo_ok {B : Nat} (hB : B ≤ 100000) (wf : TWf B t.pub) (c : CallM) (S : HP) (d : List UInt8) (hd : CallD c S d) : Tri Tryz.prog 18 #[.pointer (some ⟨b, 0, none⟩), c.val] (HP.sep (TRep b t) S) (DoPost b (doS t.pub c.kind c.path c.other c.off c.n d) S) := by
  refine tri_of_tree (ρ := [.n b, .p (TRep b t), .i c.kind, .s c.path, .s c.other, .i c.off, .i c.n, .a c.da, .n c.dl, .n c.dc, .p S]) mixed Tryz.func18 tree_tDo ?_
  unfold t_tDo
  simp only [T.den, E.prop, E.den, RX.look, F1.app, F2.app, Uni.int_i, Uni.nat_n, Uni.bool_c, Uni.str_s, Uni.adr_a, Uni.val_v, Uni.hp_p, hden, cden, V.den, W.den, A.den, BR.den, SA.den, FV.den, capV, exs, exP, allP, Cur.app, List.map_cons, List.map_nil, List.cons_append, List.nil_append, List.drop_succ_cons, List.drop_zero, List.length_cons, List.length_nil, Nat.zero_add, Nat.reduceAdd, Int.neg_neg, Bool.not_not, List.append_nil, Nat.add_zero, List.getElem?_cons_zero, List.getElem?_cons_succ, Decidable.not_not, semW_eq, ne_eq, Nat.reduceEqDiff, not_false_eq_true]
  obtain ⟨r, hr⟩ : ∃ q, doS t.pub c.kind c.path c.other c.off c.n d = q := ⟨_, rfl⟩
  rw [hr]
  unfold doS at hr
  intro x0 x00
  refine ⟨fun k => ?_, fun k1 => ⟨fun k => ?_, fun k3 => ⟨fun k => ?_, fun k2 => ⟨fun k => ?_, fun k4 => ⟨fun k => ?_, fun k5 => ⟨fun k => ?_, fun k6 => ⟨fun k => ?_, fun k7 => ⟨fun k => ?_, fun k8 => ⟨fun k => ?_, fun k9 => ⟨fun k => ?_, fun k10 => ⟨fun k => ?_, fun k11 => ⟨fun k => ?_, fun k12 => ?_⟩⟩⟩⟩⟩⟩⟩⟩⟩⟩⟩⟩
  · rw [if_pos (.inl k)] at hr
    exact doErr (tMake_ok wf c S) hr
  · rw [if_pos (.inr k)] at hr
    exact doErr (tMake_ok wf c S) hr
  all_goals rw [if_neg (by omega)] at hr
  · rw [if_pos k] at hr
    exact doErr (tRmdir_ok wf c S) hr
  all_goals rw [if_neg (by omega)] at hr
  · rw [if_pos k] at hr
    exact doErr (tUnlink_ok (by omega) wf c S) hr
  all_goals rw [if_neg (by omega)] at hr
  · rw [if_pos k] at hr
    exact doErr (tLink_ok (by omega) wf c S) hr
  all_goals rw [if_neg (by omega)] at hr
  · rw [if_pos k] at hr
    exact doErr (tRename_ok wf c S) hr
  all_goals rw [if_neg (by omega)] at hr
  · rw [if_pos k] at hr
    exact doErr (tWrite_ok wf c S d hd) hr
  all_goals rw [if_neg (by omega)] at hr
  · rw [if_pos k] at hr
    exact doTold (tRead_ok wf c S) hr
  all_goals rw [if_neg (by omega)] at hr
  · rw [if_pos k] at hr
    exact doErr (tCut_ok wf c S) hr
  all_goals rw [if_neg (by omega)] at hr
  · rw [if_pos k] at hr
    exact doTold (tStat_ok wf c S) hr
  all_goals rw [if_neg (by omega)] at hr
  · rw [if_pos k] at hr
    exact doTold (tList_ok hB wf c S) hr
  all_goals rw [if_neg (by omega)] at hr
  · rw [if_pos k] at hr
    exact DoPost.err (e := 0) (by rw [← hr]) (by rw [← hr]) rfl
  · rw [if_neg k12] at hr
    exact DoPost.err (e := 1) (by rw [← hr]) (by rw [← hr]) rfl
theorem semW_insert {i j : Nat} {t ty : TypeId} {u v k : Value} (h : i ≠ j) : semW (.insert t (.tmp i) (.const k) (.tmp j)) ty [(i, u), (j, v)] = updS t u k v := by
  have hb : (i == j) = false := by simpa using h
  simp [semW, execOp, arW, updS, List.find?, hb]
def newT : List Nd := [newNd 0 1]
theorem newT_wf : TWf 1 newT := by
  refine TWf.mk' (by simp [newT]) ⟨_, rfl, rfl⟩ (fun k n h => ?_) (fun k n h => ?_) (fun k n h h0 => ?_)
  · obtain ⟨h1, h2⟩ := nodeAt_mem h
    obtain rfl : n = newNd 0 1 := by simpa [newT] using h1
    exact ⟨.inl ⟨rfl, rfl, rfl⟩, by simp [newNd], by simp [newNd], by simp [newNd], by simp [newNd], by simp [newNd], by simp [newNd], by simp [newNd]⟩
  · obtain ⟨h1, h2⟩ := nodeAt_mem h
    obtain rfl : n = newNd 0 1 := by simpa [newT] using h1
    intro e he; simp [newNd] at he
  · obtain ⟨h1, h2⟩ := nodeAt_mem h
    obtain rfl : n = newNd 0 1 := by simpa [newT] using h1
    exact absurd h2.symm h0
theorem tNew_ok : Tri Tryz.prog 17 #[] HP.tt (fun v => HP.ex fun b : Nat => HP.ex fun t : TS => HP.and (v = .pointer (some ⟨b, 0, none⟩) ∧ t.pub = newT) (TRep b t)) := by
  refine tri_of_tree (ρ := []) mixed Tryz.func17 tree_tNew ?_
  unfold t_tNew
  simp only [T.den, E.prop, E.den, RX.look, F1.app, F2.app, Uni.int_i, Uni.nat_n, Uni.bool_c, Uni.str_s, Uni.adr_a, Uni.val_v, Uni.hp_p, hden, cden, V.den, W.den, A.den, BR.den, SA.den, FV.den, capV, exs, exP, allP, Cur.app, List.map_cons, List.map_nil, List.cons_append, List.nil_append, List.drop_succ_cons, List.drop_zero, List.length_cons, List.length_nil, Nat.zero_add, Nat.reduceAdd, Int.neg_neg, Bool.not_not, List.append_nil, Nat.add_zero, List.getElem?_cons_zero, List.getElem?_cons_succ, Decidable.not_not, semW_eq, ne_eq, Nat.reduceEqDiff, not_false_eq_true]
  intro mb
  refine tDir_ok.weak (fun _ _ h => h) ?_
  rintro v R h ⟨nb, em, rfl, H⟩
  refine ⟨.pointer (some ⟨nb, 0, none⟩), _, rfl, ?_, H⟩
  clear H
  rw [semW_insert (by decide)]
  have u := (upd_ok (r := mb) (l := []) (c := 0) kInt' undNM 0 (.pointer (some ⟨nb, 0, none⟩))).frame (HP.sep (HP.one nb (.cells #[.int .i64 1, .int .i64 1, .slice none 0 0, .map (some em)] 133 (0, 0))) (EntM em []))
  refine u.weak (fun _ _ h => h) ?_
  rintro v R h ⟨h1, h2, d, l1, l2, ⟨rfl, H1⟩, H2⟩
  refine ⟨HP.sep (HP.one mb (mapObj i64v (alPut 0 (.pointer (some ⟨nb, 0, none⟩)) 0 []) (alClock 0 [] 0))) (HP.sep (HP.one nb (.cells #[.int .i64 1, .int .i64 1, .slice none 0 0, .map (some em)] 133 (0, 0))) (EntM em [])), rfl, fun b => .of fun R h H => ⟨b, ⟨mb, [⟨newNd 0 1, nb, em, none, 0⟩]⟩, ⟨rfl, rfl⟩, ?_⟩, ⟨h1, h2, d, l1, l2, H1, H2⟩⟩
  refine HP.sep_mono H (fun _ h => h) fun z hz => HP.sep_mono hz (fun y hy => ?_) fun y hy => ?_
  · refine ⟨_, _, ⟨(MapI.nil 0).put 0 _, fun q => ?_⟩, hy⟩
    rw [alFind_put]
    unfold nodeV
    simp only [newNd, List.find?_cons, List.find?_nil]
    by_cases e : q = 0
    · subst e; rfl
    · rw [if_neg e]; simp [Ne.symm e]; rfl
  · exact sepN_cons.2 (HP.sep_tt (NRep.newD rfl hy))
end Go.Proofs.YtdieogcemmnaaaaGreatDoor



namespace Go.Proofs.YtdieogcemmnaaaaGreatDoor

def Small {H : Type} (P : Program) (t : TypeId) (d : DataW H) : Prop := ∀ n ∈ d.weights P t, n ≤ reachBytes

section
variable {H : Type} {P : Program} {t e : TypeId}
end
end Go.Proofs.YtdieogcemmnaaaaGreatDoor



namespace Go.Proofs.YtdieogcemmnaaaaGreatDoor
open Go.RowKit Go.ChangeShapes Go.WideShapes Go.Deep

def allOf (w : World) : PH := fun k => w.heap[k]?
theorem allOf_sat (w : World) (g : GR (allOf w)) : Sat w (allOf w) PH.none' PH.none' := ⟨PH.dj_none _, PH.dj_none _, PH.dj_none _, fun _ _ e => e, fun _ _ e => (by cases e), fun _ _ e => (by cases e), g⟩
theorem Tri.run {P : Program} {f : FuncId} {args : Array Value} {A : HP} {u : Value} (t : Tri P f args A (fun v => HP.pure (v = u))) {w : World} (hA : A.p (allOf w) PH.none') (g : GR (allOf w) := by exact True.intro) : Calls P f args w fun e w' => e = .returned u ∧ Below w.heap.size w w' := by
  refine (t w (allOf w) PH.none' PH.none' (allOf_sat w g) hA).mono fun e w' ⟨v, he, sm, R', h', lR, s, hv⟩ => ?_
  have hv' : v = u := hv
  refine ⟨by rw [he, hv'], sm.os, sm.tape, sm.output, sm.size, fun k hk => ?_⟩
  obtain ⟨o, ho⟩ : ∃ o, w.heap[k]? = some o := ⟨w.heap[k], by simp [hk]⟩
  rw [ho]
  exact s.oR _ _ (lR _ _ ho)
section
variable {H : Type} {enc : TypeId × Value → H} {P : Program} {w : World} {base : Nat} {spare : Nat → Bool} {held : Bool}
theorem addr_plain {w : World} {a : Addr} {i : Nat} {v : Value} (h : w.cell? (a.add i) = some v) : a.add i = ⟨a.block, a.off + i, none⟩ ∧ w.cell? ⟨a.block, a.off + i, none⟩ = some v ∧ a.block < w.heap.size := by
  have key : a.add i = ⟨a.block, a.off + i, none⟩ := by
    unfold Addr.add
    split
    · rename_i e; subst e
      rw [Addr.add_zero'] at h
      obtain ⟨b, o, s⟩ := a
      cases s with
      | none => rfl
      | some s => simp [World.cell?] at h; split at h <;> simp_all
    · rfl
  rw [key] at h
  exact ⟨key, h, block_lt_of_cell (a := ⟨a.block, a.off + i, none⟩) h⟩
theorem spot_none {a : Addr} {v : Value} (h : w.cell? a = some v) : a.spot = none := by
  unfold World.cell? at h
  split at h
  · split at h
    · cases h
    · rename_i hh; simpa using hh
  · cases h
theorem take1 {cs : List Value} {i : Nat} {v : Value} (h : (cs.drop i).take 1 = [v]) : cs[i]? = some v := by
  have := congrArg List.head? h
  rw [List.head?_take, if_neg (by decide), List.head?_drop] at this
  simpa using this
theorem take1' {cs : List Value} {i : Nat} {v : Value} (h : cs[i]? = some v) : (cs.drop i).take 1 = [v] := by
  have hi : i < cs.length := (List.getElem?_eq_some_iff.1 h).1
  rw [List.drop_eq_getElem_cons hi, List.take_succ_cons, List.take_zero]
  rw [List.getElem?_eq_getElem hi] at h
  injection h with h
  rw [h]
theorem field_int {t : TypeId} {k : IntKind} {cs : List Value} {n i c : Nat} {xs : List (DataW H × List MemPlace)} {j : Nat} (hu : P.underlying t = some (.int k)) (hj : j < xs.length) (hc : c = 1)
    (h : DataW.trod enc P w base spare held n t ((cs.drop i).take c) = xs[j]?) : ∃ x, cs[i]? = some (.int k x) ∧ (Lit.int k x).wf = true := by
  subst hc
  rw [List.getElem?_eq_getElem hj] at h
  obtain ⟨x, h1, _, h2⟩ := DataW.trod_int hu h
  exact ⟨x, take1 h1, h2⟩
theorem field_slice {t e : TypeId} {cs : List Value} {n i c : Nat} {xs : List (DataW H × List MemPlace)} {j : Nat} (hu : P.underlying t = some (.slice e)) (hj : j < xs.length) (hc : c = 1)
    (h : DataW.trod enc P w base spare held n t ((cs.drop i).take c) = xs[j]?) : ∃ a l k, cs[i]? = some (.slice a l k) := by
  subst hc
  rw [List.getElem?_eq_getElem hj] at h
  obtain ⟨a, l, k, h1⟩ := Go.Joins.slice_form hu h
  exact ⟨a, l, k, take1 h1⟩
theorem roC_of {size : Nat} {g off : Nat} {len : Nat} {xs : List Value} (hs : 0 < size) (hl : xs.length = len * size) (hx : ∀ i v, xs[i]? = some v → w.cell? ⟨g, off + i, none⟩ = some v) {h : PH} : (RoC size (some ⟨g, off, none⟩) len xs).p (allOf w) h := by
  refine ⟨hl, fun hn => ?_⟩
  have hpos : 0 < xs.length := by rw [hl]; exact Nat.mul_pos (by omega) hs
  have h0 := hx 0 xs[0] (List.getElem?_eq_getElem hpos)
  have hobj : ∃ cur ty fr, w.heap[g]? = some (.cells cur ty fr) := by
    unfold World.cell? at h0
    cases hg : w.heap[g]? with
    | none => simp [hg] at h0
    | some o => cases o <;> simp [hg] at h0 ⊢
  obtain ⟨cur, ty, fr, hg⟩ := hobj
  refine ⟨g, off, cur, ty, fr, rfl, hg, List.ext_getElem? fun i => ?_⟩
  rw [List.getElem?_take]
  split
  · rename_i hi
    have hxi := hx i xs[i] (List.getElem?_eq_getElem hi)
    rw [cell_at hg] at hxi
    rw [List.getElem?_drop, List.getElem?_eq_getElem hi]
    simpa using hxi
  · rename_i hi
    rw [List.getElem?_eq_none (by omega)]
end
end Go.Proofs.YtdieogcemmnaaaaGreatDoor



namespace Go.Proofs.YtdieogcemmnaaaaGreatDoor
open Go.RowKit Go.ChangeShapes Go.WideShapes Go.Deep RX
set_option maxRecDepth 100000

def okI (x : Int) : Prop := -9223372036854775808 ≤ x ∧ x ≤ 9223372036854775807
def HP.both (A B : HP) : HP := ⟨fun R h => A.p R h ∧ B.p R h, fun l l' ⟨a, b⟩ => ⟨A.mono l l' a, B.mono l l' b⟩⟩
structure Kind (α : Type) where
  n : Nat
  pos : 0 < n
  vals : α → List Value
  len : ∀ x, (vals x).length = n
  hp : α → HP
  pers : ∀ x R h h', (hp x).p R h → (hp x).p R h'
theorem Rd.impR {S T : HP} {a : Option Addr} {xs : List Value} (r : Rd T a xs) (h : ∀ R x, S.p R x → T.p R x) : Rd S a xs := fun w R x F s p => r w R x F s (h R x p)
section
variable {α : Type}
def Ls (K : Kind α) (a : Option Addr) (n : Nat) (l : List α) : HP :=
  ⟨fun R h => l.length = n ∧ (RoC K.n a n (l.flatMap K.vals)).p R h ∧ ∀ x ∈ l, (K.hp x).p R h,
   fun lR lh ⟨h0, h1, h2⟩ => ⟨h0, (RoC _ _ _ _).mono lR lh h1, fun x hx => (K.hp x).mono lR lh (h2 x hx)⟩⟩
theorem Ls.pers {K : Kind α} {a : Option Addr} {n : Nat} {l : List α} {R h : PH} (h' : PH) (H : (Ls K a n l).p R h) : (Ls K a n l).p R h' := ⟨H.1, H.2.1, fun x hx => K.pers x _ _ _ (H.2.2 x hx)⟩
theorem Ls.rd {K : Kind α} {a : Option Addr} {n : Nat} {l : List α} : Rd (Ls K a n l) a (l.flatMap K.vals) := Rd.impR (RoC.rd K.n a n (l.flatMap K.vals)) fun _ _ H => H.2.1
theorem flat_getL (f : α → List Value) (w : Nat) (hw : ∀ x, (f x).length = w) : ∀ (l : List α) (k j : Nat) (x : α), l[k]? = some x → j < w → (l.flatMap f)[k * w + j]? = (f x)[j]?
  | [], k, j, x, h, _ => by simp at h
  | y :: r, 0, j, x, h, hj => by
    simp at h; subst h
    rw [List.flatMap_cons, Nat.zero_mul, Nat.zero_add, List.getElem?_append_left (by rw [hw]; exact hj)]
  | y :: r, k + 1, j, x, h, hj => by
    rw [List.flatMap_cons, List.getElem?_append_right (by rw [hw, Nat.succ_mul]; omega), hw, show (k + 1) * w + j - w = k * w + j by rw [Nat.succ_mul]; omega]
    exact flat_getL f w hw r k j x (by simpa using h) hj
theorem flat_lenL (f : α → List Value) (w : Nat) (hw : ∀ x, (f x).length = w) : ∀ l : List α, (l.flatMap f).length = l.length * w
  | [] => by simp
  | x :: l => by rw [List.flatMap_cons, List.length_append, hw, flat_lenL f w hw l, List.length_cons, Nat.succ_mul, Nat.add_comm]
theorem Ls.load {K : Kind α} {t : TypeId} {d : TypeDesc} (hd : Tryz.prog.underlying t = some d) (ha : aggT Tryz.prog t = true) (hz : szT Tryz.prog t = K.n) {a : Option Addr} {n : Nat} {l : List α} {k : Nat} {x : α} (hk : l[k]? = some x) :
    ORead Tryz.prog (loadS t (.pointer (a.map fun y => (y.add (k * K.n)).add 0))) (Ls K a n l) (.agg (K.vals x).toArray) := by
  refine loadN_ok (vs := K.vals x) hd ha (Ls.rd (K := K)) (k := k * K.n) (off := 0) (by rw [K.len]; exact hz) (by rw [K.len]; exact K.pos) fun j v hj => ?_
  have hlt : j < K.n := by
    have := (List.getElem?_eq_some_iff.1 hj).1
    rw [K.len] at this; exact this
  rw [Nat.add_zero, flat_getL K.vals K.n K.len l k j x hk hlt]
  exact hj
theorem Ls.load1 {K : Kind α} {t : TypeId} {d : TypeDesc} (hd : Tryz.prog.underlying t = some d) (ha : aggT Tryz.prog t = false) (hz : szT Tryz.prog t = 1) {a : Option Addr} {n : Nat} {l : List α} {k off : Nat} {x : α} {v : Value} (hk : l[k]? = some x) (hv : (K.vals x)[off]? = some v) :
    ORead Tryz.prog (loadS t (.pointer (a.map fun y => (y.add (k * K.n)).add off))) (Ls K a n l) v := by
  refine load1_ok hd ha hz (Ls.rd (K := K)) (k := k * K.n) (off := off) ?_
  have hlt : off < K.n := by
    have := (List.getElem?_eq_some_iff.1 hv).1
    rw [K.len] at this; exact this
  rw [flat_getL K.vals K.n K.len l k off x hk hlt]
  exact hv
end
section
variable {H : Type} {enc : TypeId × Value → H} {w : World} {α : Type}
theorem int_wf {x : Int} (h : (Lit.int IntKind.i64 x).wf = true) : okI x := by
  have h2 : (decide (IntKind.i64.min ≤ x) && decide (x ≤ IntKind.i64.max)) = true := h
  rw [Bool.and_eq_true] at h2
  exact ⟨of_decide_eq_true h2.1, of_decide_eq_true h2.2⟩
end
end Go.Proofs.YtdieogcemmnaaaaGreatDoor



namespace Go.Proofs.YtdieogcemmnaaaaGreatDoor
open Go.Proofs.YtdieogcemmnaaaaGreatDoor RX

structure PK (α : Type) where
  e : TypeId
  n : Nat
  pos : 0 < n
  vals : α → List Value
  len : ∀ x, (vals x).length = n
  one : ∀ x, ∀ u ∈ vals x, u.oneCell' = true
  rep : α → HP
section
variable {α : Type} (K : PK α)
def PL (a : Option Addr) (n c : Nat) (l : List α) : HP := HP.and (l.length = n) (HP.sep (OwC K.e K.n a n c (l.flatMap K.vals)) (sepN (l.map K.rep)))
variable {K}
theorem PL.app (t ty : TypeId) {i : TypeInfo} {z : Value} (ht : Tryz.prog.underlying t = some (.slice K.e)) (hi : Tryz.prog.info? K.e = some i) (hz : i.zero = some z) (hzs : z.cells.size = i.size) (hs : i.size = K.n) (hby : i.bytes ≤ 1000)
    (a : Option Addr) (n c : Nat) (l : List α) (b : Nat) (x : α) (Q : HP) (hb : n ≤ 1000000000) :
    OTri Tryz.prog (appS t ty (.slice a n c) (.slice (some ⟨b, 0, none⟩) 1 1)) (HP.sep (PL K a n c l) (HP.sep (HP.one b (.cells (K.vals x).toArray K.e (0, 0))) (HP.sep (K.rep x) Q)))
      (fun v => HP.ex fun a' => HP.ex fun c' => HP.and (v = .slice a' (n + 1) c') (HP.sep (PL K a' (n + 1) c' (l ++ [x])) Q)) := by
  have hr := one_rd b (K.vals x).toArray K.e
  have hbn : (n + 1) * i.bytes ≤ 140737488355328 := by
    have := Nat.mul_le_mul (show n + 1 ≤ 1000000001 by omega) hby
    omega
  have := append_ok t ty K.e i z ht hi hz hzs (by rw [hs]; exact K.pos) a n c (l.flatMap K.vals) (HP.one b (.cells (K.vals x).toArray K.e (0, 0))) ⟨b, 0, none⟩ 1 1 (K.vals x) (by simpa using hr) (by rw [K.len, hs, Nat.one_mul]) (K.one x) (by unfold maxLen; omega) hbn
  rw [hs] at this
  refine OTri.fact (φ := l.length = n) (fun R h H => (HP.sep_left H).1) fun hl => ?_
  refine (this.frame (HP.sep (sepN (l.map K.rep)) (HP.sep (K.rep x) Q))).weak (fun R h H => ?_) ?_
  · have H1 := HP.sep_assoc (HP.sep_mono H (fun _ h => h.2) fun _ h => h)
    exact HP.sep_assoc' (HP.pick [_, _, _, _, _] [0, 2, 1, 3, 4] (by decide) rfl H1)
  · rintro v R h ⟨h1, h2, d, l1, l2, ⟨a', c', rfl, H⟩, HU⟩
    refine ⟨a', c', rfl, ?_⟩
    have H1 := HP.sep_assoc ⟨h1, h2, d, l1, l2, H, HU⟩
    have H2 : (HP.sep (OwC K.e K.n a' (n + 1) c' (l.flatMap K.vals ++ K.vals x)) (HP.sep (sepN (l.map K.rep)) (HP.sep (K.rep x) Q))).p R h := HP.sep_mono H1 (fun _ h => h) fun y hy => HP.sep_right hy
    have e : (l ++ [x]).map K.rep = l.map K.rep ++ [K.rep x] := by simp
    have H3 : (HP.sep (OwC K.e K.n a' (n + 1) c' (l.flatMap K.vals ++ K.vals x)) (HP.sep (sepN ((l ++ [x]).map K.rep)) Q)).p R h := HP.sep_mono H2 (fun _ h => h) fun y hy => by
      have := HP.sep_assoc' hy
      rw [e]
      exact HP.sep_mono this (fun z hz => (sepN_app (l := l.map K.rep) (m := [K.rep x])).2 hz) fun _ h => h
    have H4 := HP.sep_assoc' H3
    refine HP.sep_mono H4 (fun y hy => ⟨by simp [hl], ?_⟩) fun _ h => h
    have e2 : (l ++ [x]).flatMap K.vals = l.flatMap K.vals ++ K.vals x := by simp
    rw [e2]
    exact hy
end
end Go.Proofs.YtdieogcemmnaaaaGreatDoor



namespace Go.Proofs.YtdieogcemmnaaaaGreatDoor
set_option linter.unusedSimpArgs false
set_option linter.unusedVariables false
open Go.Proofs.YtdieogcemmnaaaaGreatDoor RX
set_option maxRecDepth 100000

variable {b : Nat} {t : TS}
def entV (x : Nm × Nat) : List Value := [sE x.1, .int .i64 x.2]
def kEnt : Kind (Nm × Nat) where
  n := 2
  pos := by decide
  vals := entV
  len _ := rfl
  hp _ := HP.tt
  pers _ _ _ _ h := h
def kEntP : PK (Nm × Nat) where
  e := 140
  n := 2
  pos := by decide
  vals := entV
  len _ := rfl
  one x u hu := by
    simp only [entV, List.mem_cons, List.not_mem_nil, or_false] at hu
    rcases hu with rfl | rfl <;> rfl
  rep _ := HP.tt
structure NodeE where
  nd : Nd
  da : Option Addr
  dc : Nat
  ea : Option Addr
  ec : Nat
instance : Inhabited NodeE := ⟨⟨⟨0, 0, 0, [], []⟩, none, 0, none, 0⟩⟩
def nodeVs (x : NodeE) : List Value := [.int .i64 x.nd.num, .int .i64 x.nd.kind, .int .i64 x.nd.links, .slice x.da x.nd.data.length x.dc, .slice x.ea x.nd.ents.length x.ec]
def nodeHp (x : NodeE) : HP := HP.both (RoB x.da x.nd.data.length x.nd.data) (Ls kEnt x.ea x.nd.ents.length x.nd.ents)
theorem nodeHp_pers (x : NodeE) (R h h' : PH) (H : (nodeHp x).p R h) : (nodeHp x).p R h' := ⟨H.1, Ls.pers h' H.2⟩
def kNode : Kind NodeE where
  n := 5
  pos := by decide
  vals := nodeVs
  len _ := rfl
  hp := nodeHp
  pers := nodeHp_pers
def kNodeP : PK NodeE where
  e := 43
  n := 5
  pos := by decide
  vals := nodeVs
  len _ := rfl
  one x u hu := by
    simp only [nodeVs, List.mem_cons, List.not_mem_nil, or_false] at hu
    rcases hu with rfl | rfl | rfl | rfl | rfl <;> rfl
  rep := nodeHp
def NodesR (a : Option Addr) (n : Nat) (L : List Nd) : HP := HP.ex fun es : List NodeE => HP.and (es.map (·.nd) = L) (Ls kNode a n es)
theorem OTri.pre3 {P : Program} {o : Sem Next} {A A' : HP} {B : Value → HP} (t : OTri P o A B) (e : HP.ent A' A) : OTri P o A' B := t.conseq (K := HP.tt) (e.trans (.of fun _ _ H => HP.sep_tt H)) fun _ => .of fun _ _ H => HP.sep_left H
theorem infoEnt : (Tryz.prog.info? 140).map (fun i => (i.zero.map (·.cells.size), i.size, i.bytes)) = some (some 2, 2, 24) := by kernel_rfl
theorem infoNd : (Tryz.prog.info? 43).map (fun i => (i.zero.map (·.cells.size), i.size, i.bytes)) = some (some 5, 5, 72) := by kernel_rfl
theorem undEs : Tryz.prog.underlying 41 = some (.slice 140) := by kernel_rfl
theorem undNs : Tryz.prog.underlying 36 = some (.slice 43) := by kernel_rfl
theorem info_pz {t : TypeId} {n k m : Nat} (h : (Tryz.prog.info? t).map (fun i => (i.zero.map (·.cells.size), i.size, i.bytes)) = some (some n, k, m)) : ∃ i z, Tryz.prog.info? t = some i ∧ i.zero = some z ∧ z.cells.size = n ∧ i.size = k ∧ i.bytes = m := by
  obtain ⟨i, h1, h2⟩ := Option.map_eq_some_iff.1 h
  injection h2 with h2 h3
  injection h3 with h3 h4
  obtain ⟨z, h5, h6⟩ := Option.map_eq_some_iff.1 h2
  exact ⟨i, z, h1, h5, h6, h3, h4⟩
theorem appEnt (a : Option Addr) (n c : Nat) (l : List (Nm × Nat)) (q : Nat) (x : Nm × Nat) (Q : HP) (hb : n ≤ 1000000000) :
    OTri Tryz.prog (appS 41 41 (.slice a n c) (.slice (some ⟨q, 0, none⟩) 1 1)) (HP.sep (PL kEntP a n c l) (HP.sep (HP.one q (.cells #[sE x.1, .int .i64 x.2] 140 (0, 0))) (HP.sep HP.tt Q)))
      (fun v => HP.ex fun a' => HP.ex fun c' => HP.and (v = .slice a' (n + 1) c') (HP.sep (PL kEntP a' (n + 1) c' (l ++ [x])) Q)) := by
  obtain ⟨i, z, hi, h1, h2, h3, h4⟩ := info_pz infoEnt
  exact PL.app (K := kEntP) _ _ undEs hi h1 (by rw [h2, h3]) h3 (by rw [h4]; decide) a n c l q x Q hb
theorem appNode (a : Option Addr) (n c : Nat) (l : List NodeE) (q : Nat) (x : NodeE) (Q : HP) (hb : n ≤ 1000000000) :
    OTri Tryz.prog (appS 36 36 (.slice a n c) (.slice (some ⟨q, 0, none⟩) 1 1)) (HP.sep (PL kNodeP a n c l) (HP.sep (HP.one q (.cells (nodeVs x).toArray 43 (0, 0))) (HP.sep (nodeHp x) Q)))
      (fun v => HP.ex fun a' => HP.ex fun c' => HP.and (v = .slice a' (n + 1) c') (HP.sep (PL kNodeP a' (n + 1) c' (l ++ [x])) Q)) := by
  obtain ⟨i, z, hi, h1, h2, h3, h4⟩ := info_pz infoNd
  exact PL.app (K := kNodeP) _ _ undNs hi h1 (by rw [h2, h3]) h3 (by rw [h4]; decide) a n c l q x Q hb
theorem loadInt {S : HP} {a : Option Addr} {l : List Int} {k : Nat} {x : Int} (r : Rd S a (l.map i64v)) (hk : l[k]? = some x) :
    ORead Tryz.prog (loadS 3 (.pointer (a.map fun y => (y.add (k * 1)).add 0))) S (.int .i64 x) :=
  load1_ok undIb aggI szI r (k := k * 1) (off := 0) (by simp [hk, i64v])
theorem HP.ent2 {A A' C C' : HP} (h1 : HP.ent A A') (h2 : HP.ent C C') : HP.ent (HP.sep A C) (HP.sep A' C') :=
  (HP.ent.sep h1 C).trans ((HP.ent.of fun _ _ H => HP.sep_comm H).trans ((HP.ent.sep h2 A').trans (.of fun _ _ H => HP.sep_comm H)))
theorem shareEnt (a : Option Addr) (n c : Nat) (l : List (Nm × Nat)) : HP.ent (PL kEntP a n c l) (Ls kEnt a n l) := fun R h d H => by
  obtain ⟨R1, h1, q1, q2, q3, q4, H1⟩ := OwC.share _ _ _ _ _ _ R h d (HP.sep_left H.2)
  exact ⟨R1, h1, q1, q2, q3, q4, H.1, H1, fun _ _ => trivial⟩
theorem shareNode (a : Option Addr) (n c : Nat) (l : List NodeE) : HP.ent (PL kNodeP a n c l) (Ls kNode a n l) := fun R h d H => by
  obtain ⟨R1, h1, q1, q2, q3, q4, H1⟩ := OwC.share _ _ _ _ _ _ R h d (HP.sep_left H.2)
  exact ⟨R1, h1, q1, q2, q3, q4, H.1, H1, fun x hx => nodeHp_pers x R1 h h1 ((nodeHp x).mono q1 (PH.le.refl _) (sepN_mem (List.mem_map.2 ⟨x, hx, rfl⟩) (HP.sep_right H.2)))⟩
theorem lk_of_mem : ∀ {l : List (Nm × Nat)} {e : Nm × Nat}, (l.map (·.1)).Nodup → e ∈ l → lk l e.1 = some e.2
  | [], _, _, h => by cases h
  | y :: r, e, hn, h => by
    rw [List.map_cons, List.nodup_cons] at hn
    unfold lk
    rcases List.mem_cons.1 h with rfl | h
    · simp
    · rw [if_neg (fun q => hn.1 (by rw [← q]; exact List.mem_map.2 ⟨e, h, rfl⟩))]
      exact lk_of_mem hn.2 h
set_option maxHeartbeats 4000000 in
theorem tNodes_ok {B : Nat} (hB : B ≤ 100000) (wf : TWf B t.pub) : Tri Tryz.prog 19 #[.pointer (some ⟨b, 0, none⟩)] (TRep b t)
    (fun v => HP.ex fun a => HP.ex fun c => HP.and (v = .slice a t.pub.length c) (HP.sep (NodesR a t.pub.length t.pub) (TRep b t))) := by
  have own : Tri Tryz.prog 19 #[.pointer (some ⟨b, 0, none⟩)] (TRep b t)
    (fun v => HP.ex fun a => HP.ex fun c => HP.ex fun es : List NodeE => HP.and (es.map (·.nd) = t.pub ∧ v = .slice a t.pub.length c) (HP.sep (PL kNodeP a t.pub.length c es) (TRep b t))) := by
    refine tri_of_tree (ρ := [.n b, .p (TRep b t)]) mixed Tryz.func19 tree_tNodes ?_
    unfold t_tNodes
    simp only [T.den, E.prop, E.den, RX.look, F1.app, F2.app, Uni.int_i, Uni.nat_n, Uni.bool_c, Uni.str_s, Uni.adr_a, Uni.val_v, Uni.hp_p, hden, cden, V.den, W.den, A.den, BR.den, SA.den, FV.den, capV, exs, exP, allP, Cur.app, List.map_cons, List.map_nil, List.cons_append, List.nil_append, List.drop_succ_cons, List.drop_zero, List.length_cons, List.length_nil, Nat.zero_add, Nat.reduceAdd, Int.neg_neg, Bool.not_not, List.append_nil, Nat.add_zero, List.getElem?_cons_zero, List.getElem?_cons_succ, Decidable.not_not, semW_eq, semW_load, semW_append, semW_lookup, semW_lookupC, semW_nil, ne_eq, Nat.reduceEqDiff, not_false_eq_true]
    have hlen64 := wf.few
    have hlen : t.pub.length = t.ns.length := by unfold TS.pub; rw [List.length_map]
    refine ⟨t.mb, ldNodes, ?_⟩
    refine (keysI_ok (some t.mb) (TRep b t)).weak (fun _ _ h => h) ?_
    rintro v R h ⟨kx, rfl, H⟩
    refine ⟨.func (.func 135) #[] #[.pointer (some ⟨kx, 0, none⟩)], KBoxI kx (some t.mb), rfl, ?_, H⟩
    clear H
    refine (sortedNodes wf kx).weak (fun _ _ h => h) ?_
    rintro v R h ⟨a5, c5, rfl, H⟩
    have h5 : t.ns.length ≠ 0 → a5.isSome = true := fun h => OwC.some (HP.sep_left H) (by omega)
    refine ⟨a5, t.ns.length, c5, _, rfl, ?_, H⟩
    clear H
    have rd5 : RdL (OwI a5 t.ns.length c5 (t.ns.map fun x => (x.p.num : Int))) a5 t.ns.length ((t.ns.map fun x => (x.p.num : Int)).map i64v) := RdL.ow _ _ _ _ _ _
    refine ⟨fun a n c P i => ∃ k : Nat, i = k ∧ k ≤ t.ns.length ∧ n = k ∧ ∃ es : List NodeE, es.map (·.nd) = t.pub.take k ∧ HP.ent P (PL kNodeP a n c es), fun _ _ _ _ i => t.ns.length - i.toNat,
      ⟨0, rfl, Nat.zero_le _, rfl, [], by simp, .of fun R h H => ⟨rfl, HP.sep_mono (HP.tt_sep H) (fun _ _ => OwC.nil _ _ _ _) fun _ _ => trivial⟩⟩, ?_⟩
    rintro a k c P _ ⟨_, rfl, hk, rfl, es, hes, hP⟩
    refine ⟨fun hlt => ⟨by omega, fun _ => ⟨h5 (by omega), fun _ => ?_⟩⟩, fun hge => ?_⟩
    · have hkl : k < t.ns.length := by omega
      have hxm : t.ns[k] ∈ t.ns := List.getElem_mem hkl
      obtain ⟨x, hx⟩ : ∃ x, t.ns[k] = x := ⟨_, rfl⟩
      rw [hx] at hxm
      have hki : t.ns[k]? = some x := by rw [List.getElem?_eq_getElem hkl, hx]
      have hxa : nodeAt t.pub x.p.num = some x.p := mem_nodeAt wf.nd (by unfold TS.pub; exact List.mem_map.2 ⟨x, hxm, rfl⟩)
      have hlk := lkNode (b := b) (t := t) x.p.num
      obtain ⟨y, i, hi, hyp, hyn, hyh, -, hym⟩ := hnIdx hxa
      have hnn : (x.p.num : Int) = y.p.num := by rw [hyn]
      rw [hyh] at hlk
      have hyg := wf.good _ (wf.at' hxa).2.2
      rw [← hyp] at hyg
      have hnum : ((t.ns.map fun x => (x.p.num : Int)))[k]? = some (x.p.num : Int) := by rw [List.getElem?_map, hki]; rfl
      refine ⟨x.p.num, loadInt rd5.rd hnum, t.mb, ldNodes, .pointer (some ⟨y.nb, 0, none⟩), hlk, ?_⟩
      refine ⟨fun q num kind links da dl dc ea el ec PE PD => num = y.p.num ∧ kind = y.p.kind ∧ links = y.p.links ∧ dl = y.p.data.length ∧ el = 0 ∧ HP.ent PE (PL kEntP ea 0 ec []) ∧ HP.ent PD (OwB da y.p.data.length dc y.p.data), ?_, ?_⟩
      · refine ⟨y.nb, nilChk', y.p.kind, ldKind hym, y.nb, nilChk', y.p.links, ldLinks hym, y.nb, nilChk', y.da, y.p.data.length, y.dc, ldData hym, ?_, fun q => ?_⟩
        · refine (clone8_ok _ _ _ y.dc _ (rdData hym) rfl (by have := hyg.data; omega)).weak (fun _ _ h => h) ?_
          rintro v R h ⟨a', c', rfl, H⟩
          refine ⟨a', y.p.data.length, c', OwB a' y.p.data.length c' y.p.data, rfl, ⟨fun q => ?_, fun q => ?_⟩, H⟩
          · exact ⟨hnn, rfl, rfl, rfl, rfl, .of fun R h H => ⟨rfl, HP.sep_mono (HP.tt_sep H) (fun _ _ => OwC.nil _ _ _ _) fun _ _ => trivial⟩, .of fun _ _ h => h⟩
          · exact ⟨hnn, rfl, rfl, rfl, rfl, .of fun R h H => ⟨rfl, HP.sep_mono (HP.tt_sep H) (fun _ _ => OwC.nil _ _ _ _) fun _ _ => trivial⟩, .of fun _ _ h => h⟩
        · refine (clone8_ok _ _ _ y.dc _ (rdData hym) rfl (by have := hyg.data; omega)).weak (fun _ _ h => h) ?_
          rintro v R h ⟨a', c', rfl, H⟩
          refine ⟨a', y.p.data.length, c', OwB a' y.p.data.length c' y.p.data, rfl, ?_, H⟩
          exact ⟨hnn, rfl, rfl, rfl, rfl, .of fun R h H => ⟨rfl, HP.sep_mono (HP.tt_sep H) (fun _ _ => OwC.nil _ _ _ _) fun _ _ => trivial⟩, .of fun _ _ h => h⟩
      rintro q num kind links da dl dc ea el ec PE PD ⟨rfl, rfl, rfl, rfl, rfl, hPE, hPD⟩
      refine ⟨y.nb, nilChk', .map y.mapo, ldEnts hym, ?_⟩
      refine (keysS_ok y.mapo (TRep b t)).weak (fun _ _ h => h) ?_
      rintro v R h ⟨ks, rfl, H⟩
      refine ⟨.func (.func 138) #[] #[.pointer (some ⟨ks, 0, none⟩)], KBoxS ks y.mapo, rfl, ?_, H⟩
      clear H
      refine (sortedEnts hym hyg hB ks).weak (fun _ _ h => h) ?_
      rintro v R h ⟨a33, c33, rfl, H⟩
      have h33 : y.p.ents.length ≠ 0 → a33.isSome = true := fun h => OwC.some (HP.sep_left H) (by omega)
      refine ⟨a33, y.p.ents.length, c33, _, rfl, ?_, H⟩
      clear H
      have rd33 : RdL (OwS a33 y.p.ents.length c33 (y.p.ents.map (·.1))) a33 y.p.ents.length ((y.p.ents.map (·.1)).map sE) := RdL.ow _ _ _ _ _ _
      refine ⟨fun i a n c P => ∃ j : Nat, i = j ∧ j ≤ y.p.ents.length ∧ n = j ∧ HP.ent P (PL kEntP a j c (y.p.ents.take j)), fun i _ _ _ _ => y.p.ents.length - i.toNat, ⟨0, rfl, Nat.zero_le _, rfl, hPE⟩, ?_⟩
      rintro _ ea j ec PE2 ⟨_, rfl, hj, rfl, hPE2⟩
      refine ⟨fun hlt2 => ⟨by omega, fun _ => ⟨h33 (by omega), fun _ => ?_⟩⟩, fun hge2 q => ?_⟩
      · have hjl : j < y.p.ents.length := by omega
        have hem : y.p.ents[j] ∈ y.p.ents := List.getElem_mem hjl
        obtain ⟨e, hej⟩ : ∃ e, y.p.ents[j] = e := ⟨_, rfl⟩
        rw [hej] at hem
        have hek : y.p.ents[j]? = some e := by rw [List.getElem?_eq_getElem hjl, hej]
        have hkd : y.p.kind = 1 := by
          rcases hyg.kind with ⟨h, _⟩ | ⟨_, h⟩
          · exact h
          · rw [h] at hem; cases hem
        have hmo : y.mapo = some y.mb := by unfold HN.mapo; rw [if_pos hkd]
        have he := ldEnts (b := b) hym
        rw [hmo] at he
        have hl := lkEnt1 (b := b) hym hkd e.1
        rw [lk_of_mem (nodupE hyg.sort) hem] at hl
        refine ⟨e.1, loadStr rd33.rd (by rw [List.getElem?_map, Int.toNat_natCast, hek]; rfl), y.nb, nilChk', .map (some y.mb), he, e.2, hl, fun q => ?_⟩
        refine OTri.pre3 ((appEnt ea j ec (y.p.ents.take j) q e HP.tt (by have := hyg.efew; omega)).weak (fun _ _ h => h) ?_) ((HP.ent.sep hPE2 _).trans (.of fun R h H => HP.sep_mono H (fun _ h => h) fun z hz => HP.sep_tt (HP.sep_tt hz) |> fun H => HP.sep_assoc H))
        rintro v R h ⟨a', c', rfl, H⟩
        refine ⟨a', j + 1, c', _, rfl, ⟨inI64' _ (by omega) (by have := hyg.efew; omega), fun _ => ⟨⟨j + 1, by omega, by omega, rfl, ?_⟩, by dsimp only; omega⟩⟩, HP.sep_left H⟩
        rw [List.take_add_one, hek]
        exact .of fun _ _ h => h
      · obtain rfl : j = y.p.ents.length := by omega
        rw [List.take_length] at hPE2
        have hk64 : t.ns.length ≤ 1000000 := by have := hlen64; omega
        refine OTri.pre3 ((appNode a k c es q ⟨y.p, da, dc, ea, ec⟩ HP.tt (by omega)).weak (fun _ _ h => h) ?_) (HP.ent2 hP (HP.ent2 (.of fun _ _ h => h) ((HP.ent2 (hPD.trans (OwC.share _ _ _ _ _ _)) (hPE2.trans (shareEnt _ _ _ _))).trans (.of fun R h H => HP.sep_tt ⟨HP.sep_left H, HP.sep_right H⟩))))
        rintro v R h ⟨a', c', rfl, H⟩
        refine ⟨a', k + 1, c', _, rfl, ⟨inI64' _ (by omega) (by omega), fun _ => ⟨⟨k + 1, by omega, by omega, rfl, es ++ [⟨y.p, da, dc, ea, ec⟩], ?_, .of fun _ _ h => h⟩, by dsimp only; omega⟩⟩, HP.sep_left H⟩
        rw [List.map_append, hes, List.take_add_one]
        have : t.pub[k]? = some x.p := by unfold TS.pub; rw [List.getElem?_map, hki]; rfl
        rw [this, ← hyp]; rfl
    · obtain rfl : k = t.ns.length := by omega
      rw [hlen]
      refine (HP.ent2 (.of fun _ _ h => h) hP).trans (.of fun R h H => ⟨a, c, es, ⟨by rw [hes, ← hlen, List.take_length], rfl⟩, HP.sep_comm H⟩)
  exact own.post fun v => fun R h d ⟨a', c', es, ⟨e1, e2⟩, H⟩ => by
    obtain ⟨R1, h1, q1, q2, q3, q4, H1⟩ := (HP.ent.sep (shareNode _ _ _ _) (TRep b t)) R h d H
    exact ⟨R1, h1, q1, q2, q3, q4, a', c', e2, HP.sep_mono H1 (fun _ h => ⟨es, e1, h⟩) fun _ h => h⟩
end Go.Proofs.YtdieogcemmnaaaaGreatDoor



namespace Go.Proofs.YtdieogcemmnaaaaGreatDoor
set_option linter.unusedSimpArgs false
set_option linter.unusedVariables false
open Go.Proofs.YtdieogcemmnaaaaGreatDoor RX
set_option maxRecDepth 100000

def cnvS (s d : TypeId) (u : Value) : Sem Next := do pure (.value (← convert s d u))
theorem semW_cnv {s d ty : TypeId} {i : Nat} {u : Value} : semW (.convert s d (.tmp i)) ty [(i, u)] = cnvS s d u := by simp [semW, execOp, arW, cnvS]
theorem strB1 (l : List UInt8) (A : HP) : OTri Tryz.prog (cnvS 9 28 (sE l)) A (fun v => HP.ex fun x => HP.ex fun c => HP.ex fun C : Array Value => HP.and (v = .slice (some ⟨x, 0, none⟩) l.length c ∧ l.length ≤ c ∧ C.toList.take l.length = l.map u8v)
    (HP.sep (HP.one x (.cells C 5 (C.size, C.size + 1))) A)) := fun w R h F s a => by
  have hr := run_bytes_of_string (P := Tryz.prog) w 9 28 5 ⟨l.toArray⟩ undStr und8 und8b
  have hz : (⟨l.toArray⟩ : ByteArray).size = l.length := by simp [ByteArray.size]
  rw [hz] at hr
  have s0 : Sat w.drew R h F := s.drew _
  obtain ⟨s1, d1⟩ := s0.alloc (.cells (bytesRow ⟨l.toArray⟩ (grownCap w l.length 0 5)) 5 ((bytesRow ⟨l.toArray⟩ (grownCap w l.length 0 5)).size, (bytesRow ⟨l.toArray⟩ (grownCap w l.length 0 5)).size + 1))
  have hc1 := grownCap_ge w l.length 0 5
  have hsame : Same w (w.drew.alloc (.cells (bytesRow ⟨l.toArray⟩ (grownCap w l.length 0 5)) 5 ((bytesRow ⟨l.toArray⟩ (grownCap w l.length 0 5)).size, (bytesRow ⟨l.toArray⟩ (grownCap w l.length 0 5)).size + 1))) := Same.trans (b := w.drew) ⟨rfl, rfl, rfl, Nat.le_refl _⟩ (Same.alloc w.drew _)
  refine ⟨_, _, _, by unfold cnvS sE; rw [Sem.run_bind, hr]; rfl, rfl, hsame, R, _, PH.le.refl _, s1, w.heap.size, _, bytesRow ⟨l.toArray⟩ (grownCap w l.length 0 5), ⟨rfl, hc1, ?_⟩, _, _, d1, PH.un_left _ _, PH.un_right d1, PH.one_self _ _, a⟩
  simp [bytesRow, u8v]
theorem strB_ok (l : List UInt8) (A : HP) : OTri Tryz.prog (cnvS 9 28 (sE l)) A (fun v => HP.ex fun x => HP.ex fun c => HP.and (v = .slice (some ⟨x, 0, none⟩) l.length c ∧ l.length ≤ c) (HP.sep (RoB (some ⟨x, 0, none⟩) l.length l) A)) :=
  (strB1 l A).post fun v R h d ⟨x, c, C, ⟨e, hc, ht⟩, H⟩ => by
    obtain ⟨R1, h1, q1, q2, q3, q4, H1⟩ := (HP.ent.sep (HP.ent.share _ _) A) R h d H
    refine ⟨R1, h1, q1, q2, q3, q4, x, c, ⟨e, hc⟩, HP.sep_mono H1 (fun y hy => ⟨by simp, fun _ => ⟨x, 0, C, _, _, rfl, hy, ?_⟩⟩) fun _ h => h⟩
    rw [List.drop_zero, List.length_map]; exact ht
def entB (x : Nm × Nat) : List UInt8 := beN x.1.length 4 ++ x.1 ++ [UInt8.ofNat x.2]
def byteI (k : Int) : UInt8 := UInt8.ofNat (IntKind.u8.wrap k).toNat
theorem byteI_val (k : Int) : ((byteI k).toNat : Int) = IntKind.u8.wrap k := by
  have h1 : 0 ≤ IntKind.u8.wrap k ∧ IntKind.u8.wrap k < 256 := by
    simp only [IntKind.wrap, IntKind.bits, IntKind.signed, Bool.false_and, Bool.false_eq_true, if_false]; omega
  unfold byteI
  rw [UInt8.toNat_ofNat']
  omega
def linksN (k : Int) : Nat := (IntKind.u64.wrap k).toNat
theorem linksN_val (k : Int) : ((linksN k : Nat) : Int) = IntKind.u64.wrap k := by
  have h1 : 0 ≤ IntKind.u64.wrap k := by
    simp only [IntKind.wrap, IntKind.bits, IntKind.signed, Bool.false_and, Bool.false_eq_true, if_false]; omega
  unfold linksN; omega
def nodeB (x : Nd) : List UInt8 := [byteI x.num] ++ [byteI x.kind] ++ beN (linksN x.links) 2 ++ (beN x.data.length 4 ++ x.data) ++ (beN x.ents.length 4 ++ x.ents.flatMap entB)
theorem putEntry_ok (b : Nat) (l : List UInt8) (x : Nm × Nat) (hx : x.2 < 256) (hb : l.length + x.1.length + 200 < 140737488355328) :
    Tri Tryz.prog 150 #[.pointer (some ⟨b, 0, none⟩), .agg #[sE x.1, .int .i64 x.2]] (WRep b l) (fun v => HP.and (v = .tuple #[]) (WRep b (l ++ entB x))) := by
  refine tri_of_tree (ρ := [.n b, .p (WRep b l), .s x.1, .i x.2]) mixed Tryz.func150 tree_putEntry ?_
  unfold t_putEntry
  simp only [T.den, E.prop, E.den, RX.look, F1.app, F2.app, Uni.int_i, Uni.nat_n, Uni.bool_c, Uni.str_s, Uni.adr_a, Uni.val_v, Uni.hp_p, hden, cden, V.den, W.den, A.den, BR.den, SA.den, FV.den, capV, exs, exP, allP, Cur.app, List.map_cons, List.map_nil, List.cons_append, List.nil_append, List.drop_succ_cons, List.drop_zero, List.length_cons, List.length_nil, Nat.zero_add, Nat.reduceAdd, Int.neg_neg, Bool.not_not, List.append_nil, Nat.add_zero, List.getElem?_cons_zero, List.getElem?_cons_succ, Decidable.not_not, semW_eq, ne_eq, Nat.reduceEqDiff, not_false_eq_true]
  intro y
  rw [semW_cnv]
  refine (strB_ok x.1 HP.tt).weak (fun _ _ h => h) ?_
  rintro v R h ⟨z, c, ⟨rfl, hc⟩, H⟩
  refine ⟨some ⟨z, 0, none⟩, _, c, RoB (some ⟨z, 0, none⟩) x.1.length x.1, rfl, ?_, HP.sep_left H⟩
  refine (wBytes_ok b l _ _ c x.1 _ (RdL.ro _ _ _ _) rfl (fun _ => rfl) (by omega)).weak (fun _ _ h => h) ?_
  rintro v R h ⟨rfl, H⟩
  refine ⟨_, _, rfl, ?_, H⟩
  rw [show IntKind.u8.wrap (x.2 : Int) = (((UInt8.ofNat x.2).toNat : Nat) : Int) by rw [wrap8, UInt8.toNat_ofNat']]
  refine (wByte_ok b _ (UInt8.ofNat x.2) (by simp [beN_len]; omega)).weak (fun _ _ h => h) ?_
  rintro v R h ⟨rfl, H⟩
  refine ⟨_, rfl, .of fun R h H => ⟨trivial, ?_⟩, H⟩
  rw [show l ++ entB x = l ++ beN x.1.length 4 ++ x.1 ++ [UInt8.ofNat x.2] by simp [entB]]
  exact H
theorem fgoPE : Fgo Tryz.prog 150 := ⟨_, Tryz.func150, by kernel_rfl, by kernel_rfl⟩
theorem fgoPN : Fgo Tryz.prog 81 := ⟨_, Tryz.func81, by kernel_rfl, by kernel_rfl⟩
theorem eqlF {t ty : TypeId} {i : Nat} {f : FuncId} {caps : Array Value} {A : HP} {ps rs : Array TypeId} {vd : Bool} (ht : Tryz.prog.underlying t = some (.func ps rs vd)) (hg : Tryz.prog.eqGuardType Tryz.prog.depth t = false) : ORead Tryz.prog (semW (.binOp .eql t (.tmp i) (.const .nilFunc) t) ty [(i, .func (.func f) #[] caps)]) A (.bool false) := fun w R h F s _ => by
  have e0 : ∀ n, (Op.equalIn (n + 1) t (.func (.func f) #[] caps) .nilFunc).run Tryz.prog w = .ok false w := fun n => by
    simp only [Op.equalIn, Sem.run_bind, RX.run_underlying ht, Result.andThen_ok, Sem.run_pure]
  have e : (Op.equal t (.func (.func f) #[] caps) .nilFunc).run Tryz.prog w = .ok false w := e0 9999
  have := (binOp_equal (P := Tryz.prog) (w := w) (.inr (.inr (.inr (.inr ⟨_, _, _, rfl⟩)))) e).1
  simp only [semW, execOp, arW, List.find?_cons, beq_self_eq_true, Option.map_some, Option.getD_some]
  simp [eqGuard, hg, program, Sem.run_bind, this]
theorem aggEn : aggT Tryz.prog 140 = true := by kernel_rfl
theorem szEn : szT Tryz.prog 140 = 2 := by kernel_rfl
theorem aggNo : aggT Tryz.prog 43 = true := by kernel_rfl
theorem szNo : szT Tryz.prog 43 = 5 := by kernel_rfl
theorem Ls.isSome {α : Type} {K : Kind α} {a : Option Addr} {n : Nat} {l : List α} {R h : PH} (H : (Ls K a n l).p R h) (hn : n ≠ 0) : a.isSome = true := RoC.some H.2.1 (by omega)
def entsB (es : List (Nm × Nat)) : List UInt8 := beN es.length 4 ++ es.flatMap entB
theorem entB_len (x : Nm × Nat) : (entB x).length = x.1.length + 5 := by simp [entB, beN_len]; omega
theorem take_flat {α β : Type} (f : α → List β) (l : List α) (j : Nat) (h : j < l.length) : (l.take (j + 1)).flatMap f = (l.take j).flatMap f ++ f l[j] := by
  rw [List.take_succ_eq_append_getElem h, List.flatMap_append]; simp
theorem take_flat_le {α β : Type} (f : α → List β) (l : List α) (j : Nat) : ((l.take j).flatMap f).length ≤ (l.flatMap f).length := by
  conv => rhs; rw [← List.take_append_drop j l, List.flatMap_append, List.length_append]
  omega
theorem putEntries_ok (b : Nat) (l : List UInt8) (a : Option Addr) (c : Nat) (es : List (Nm × Nat)) (hx : ∀ x ∈ es, x.2 < 256) (hb : l.length + (es.flatMap entB).length + 1000 < 140737488355328) (hn : es.length ≤ 1000000000) :
    Tri Tryz.prog 149 #[.pointer (some ⟨b, 0, none⟩), .slice a es.length c, .func (.func 150) #[] #[]] (HP.sep (WRep b l) (Ls kEnt a es.length es))
      (fun v => HP.and (v = .tuple #[]) (HP.sep (WRep b (l ++ entsB es)) (Ls kEnt a es.length es))) := by
  refine Tri.fact (φ := es.length ≠ 0 → a.isSome = true) (fun R h H hn => Ls.isSome (HP.sep_right H) hn) fun ha => ?_
  refine (tri_of_tree (ρ := [.n b, .p (WRep b l), .a a, .n es.length, .n c, .p (Ls kEnt a es.length es), .v (.func (.func 150) #[] #[]), .p HP.tt]) mixed Tryz.func149 tree_putEntries ?_).weak
    (fun R h H => HP.sep_assoc (HP.sep_tt H)) fun _ _ _ h => h
  unfold t_putEntries
  simp only [T.den, E.prop, E.den, RX.look, F1.app, F2.app, Uni.int_i, Uni.nat_n, Uni.bool_c, Uni.str_s, Uni.adr_a, Uni.val_v, Uni.hp_p, hden, cden, V.den, W.den, A.den, BR.den, SA.den, FV.den, capV, exs, exP, allP, Cur.app, List.map_cons, List.map_nil, List.cons_append, List.nil_append, List.drop_succ_cons, List.drop_zero, List.length_cons, List.length_nil, Nat.zero_add, Nat.reduceAdd, Int.neg_neg, Bool.not_not, List.append_nil, Nat.add_zero, List.getElem?_cons_zero, List.getElem?_cons_succ, Decidable.not_not, semW_eq, semW_load, ne_eq, Nat.reduceEqDiff, not_false_eq_true]
  have hw : IntKind.u64.wrap (es.length : Int) = es.length := wrap_in ⟨by simp [IntKind.min, IntKind.signed], by simp [IntKind.max, IntKind.signed, IntKind.bits]; omega⟩
  rw [hw]
  refine (wNumber_ok b l es.length 4 (by omega) (by omega)).weak (fun _ _ h => h) ?_
  rintro v R h ⟨rfl, H⟩
  refine ⟨_, rfl, ⟨false, eqlF Tryz.underlying242 (by kernel_rfl), fun h => (by cases h), fun _ => ?_⟩, H⟩
  refine ⟨fun k p q => ∃ j : Nat, k = j ∧ j ≤ es.length ∧ HP.ent p (WRep b (l ++ beN es.length 4 ++ (es.take j).flatMap entB)) ∧ q = HP.tt, fun k _ _ => es.length - k.toNat, ⟨0, rfl, Nat.zero_le _, by simpa using HP.ent.refl _, rfl⟩, ?_⟩
  rintro k p q ⟨j, rfl, hj, hp, rfl⟩
  refine ⟨fun hlt => ⟨by omega, fun _ => ⟨ha (by omega), fun _ => ?_⟩⟩, fun hge => ?_⟩
  · have hlt' : j < es.length := by omega
    refine ⟨es[j].1, (es[j].2 : Int), Ls.load (K := kEnt) Tryz.underlying140 aggEn szEn (List.getElem?_eq_getElem hlt'), fun y => ?_⟩
    have hlen := take_flat_le entB es (j + 1)
    rw [take_flat entB es j hlt', List.length_append, entB_len] at hlen
    refine .inl ⟨_, #[], rfl, fgoPE, ?_⟩
    refine (putEntry_ok b _ es[j] (hx _ (List.getElem_mem hlt')) (by simp only [List.length_append, beN_len]; omega)).conseq ((HP.ent.of fun R h H => HP.sep_comm H).trans ((HP.ent.sep hp HP.tt))) fun v => .of fun R h H => ?_
    obtain ⟨rfl, H1⟩ := HP.sep_left H
    refine ⟨HP.tt, _, rfl, ⟨inI64 _ (by omega) (by omega), fun _ => ⟨⟨j + 1, by omega, by omega, ?_, rfl⟩, by dsimp only; omega⟩⟩, HP.tt_sep H1⟩
    rw [take_flat entB es j hlt', List.append_assoc _ ((es.take j).flatMap entB)]
    exact HP.ent.refl _
  · obtain rfl : j = es.length := by omega
    rw [List.take_length] at hp
    refine (HP.ent.sep hp _).trans (.of fun R h H => ⟨trivial, ?_⟩)
    rw [List.append_assoc] at H
    exact HP.sep_mono H (fun _ h => h) fun _ h => HP.sep_left h
theorem putNode_ok (b : Nat) (l : List UInt8) (x : NodeE) (hx : ∀ e ∈ x.nd.ents, e.2 < 256) (hb : l.length + (nodeB x.nd).length + 2000 < 140737488355328) (hn : x.nd.ents.length ≤ 1000000000) :
    Tri Tryz.prog 81 #[.pointer (some ⟨b, 0, none⟩), .agg (nodeVs x).toArray] (HP.sep (WRep b l) (nodeHp x)) (fun v => HP.and (v = .tuple #[]) (WRep b (l ++ nodeB x.nd))) := by
  refine Tri.fact (φ := x.nd.data.length ≠ 0 → x.da.isSome = true) (fun R h H hn => RoC.some (HP.sep_right H).1 (by omega)) fun ha => ?_
  refine (tri_of_tree (ρ := [.n b, .p (WRep b l), .i x.nd.num, .i x.nd.kind, .i x.nd.links, .a x.da, .n x.nd.data.length, .n x.dc, .p (RoB x.da x.nd.data.length x.nd.data), .a x.ea, .n x.nd.ents.length, .n x.ec, .p (Ls kEnt x.ea x.nd.ents.length x.nd.ents)]) mixed Tryz.func81 tree_putNode ?_).weak
    (fun R h H => HP.sep_mono H (fun _ h => h) fun y hy => ⟨PH.none', y, PH.none_dj _, PH.none_le _, PH.le.refl _, hy.1, hy.2⟩) fun _ _ _ h => h
  unfold t_putNode
  simp only [T.den, E.prop, E.den, RX.look, F1.app, F2.app, Uni.int_i, Uni.nat_n, Uni.bool_c, Uni.str_s, Uni.adr_a, Uni.val_v, Uni.hp_p, hden, cden, V.den, W.den, A.den, BR.den, SA.den, FV.den, capV, exs, exP, allP, Cur.app, List.map_cons, List.map_nil, List.cons_append, List.nil_append, List.drop_succ_cons, List.drop_zero, List.length_cons, List.length_nil, Nat.zero_add, Nat.reduceAdd, Int.neg_neg, Bool.not_not, List.append_nil, Nat.add_zero, List.getElem?_cons_zero, List.getElem?_cons_succ, Decidable.not_not, semW_eq, ne_eq, Nat.reduceEqDiff, not_false_eq_true]
  have hlen : (nodeB x.nd).length = 2 + 2 + (4 + x.nd.data.length) + (4 + (x.nd.ents.flatMap entB).length) := by simp [nodeB, beN_len]; omega
  intro y
  rw [← byteI_val x.nd.num, ← byteI_val x.nd.kind, ← linksN_val x.nd.links]
  refine (wByte_ok b l (byteI x.nd.num) (by omega)).weak (fun _ _ h => h) ?_
  rintro v R h ⟨rfl, H⟩
  refine ⟨_, rfl, ?_, H⟩
  refine (wByte_ok b _ (byteI x.nd.kind) (by simp; omega)).weak (fun _ _ h => h) ?_
  rintro v R h ⟨rfl, H⟩
  refine ⟨_, rfl, ?_, H⟩
  refine (wNumber_ok b _ (linksN x.nd.links) 2 (by omega) (by simp; omega)).weak (fun _ _ h => h) ?_
  rintro v R h ⟨rfl, H⟩
  refine ⟨_, rfl, ?_, H⟩
  refine (wBytes_ok b _ x.da _ x.dc x.nd.data _ (RdL.ro _ _ _ _) rfl ha (by simp [beN_len]; omega)).weak (fun _ _ h => h) ?_
  rintro v R h ⟨rfl, H⟩
  refine ⟨_, _, rfl, ?_, H⟩
  refine (putEntries_ok b _ x.ea x.ec x.nd.ents hx (by simp only [List.length_append, beN_len, List.length_singleton]; omega) hn).weak (fun _ _ h => h) ?_
  rintro v R h ⟨rfl, H⟩
  refine ⟨_, _, rfl, .of fun R h H => ⟨trivial, ?_⟩, H⟩
  have e : l ++ nodeB x.nd = l ++ [byteI x.nd.num] ++ [byteI x.nd.kind] ++ beN (linksN x.nd.links) 2 ++ beN x.nd.data.length 4 ++ x.nd.data ++ entsB x.nd.ents := by simp [nodeB, entsB]
  rw [e]
  exact HP.sep_left H
def nodesB (T1 : List Nd) : List UInt8 := beN T1.length 4 ++ T1.flatMap nodeB
theorem putNodes_ok (b : Nat) (l : List UInt8) (a : Option Addr) (c : Nat) (es : List NodeE) (hx : ∀ x ∈ es, (∀ e ∈ x.nd.ents, e.2 < 256) ∧ x.nd.ents.length ≤ 1000000000) (hb : l.length + ((es.map (·.nd)).flatMap nodeB).length + 3000 < 140737488355328) (hn : es.length ≤ 1000000000) :
    Tri Tryz.prog 80 #[.pointer (some ⟨b, 0, none⟩), .slice a es.length c, .func (.func 81) #[] #[]] (HP.sep (WRep b l) (Ls kNode a es.length es))
      (fun v => HP.and (v = .tuple #[]) (HP.sep (WRep b (l ++ nodesB (es.map (·.nd)))) (Ls kNode a es.length es))) := by
  refine Tri.fact (φ := es.length ≠ 0 → a.isSome = true) (fun R h H hn => Ls.isSome (HP.sep_right H) hn) fun ha => ?_
  refine (tri_of_tree (ρ := [.n b, .p (WRep b l), .a a, .n es.length, .n c, .p (Ls kNode a es.length es), .v (.func (.func 81) #[] #[]), .p HP.tt]) mixed Tryz.func80 tree_putNodes ?_).weak
    (fun R h H => HP.sep_assoc (HP.sep_tt H)) fun _ _ _ h => h
  unfold t_putNodes
  simp only [T.den, E.prop, E.den, RX.look, F1.app, F2.app, Uni.int_i, Uni.nat_n, Uni.bool_c, Uni.str_s, Uni.adr_a, Uni.val_v, Uni.hp_p, hden, cden, V.den, W.den, A.den, BR.den, SA.den, FV.den, capV, exs, exP, allP, Cur.app, List.map_cons, List.map_nil, List.cons_append, List.nil_append, List.drop_succ_cons, List.drop_zero, List.length_cons, List.length_nil, Nat.zero_add, Nat.reduceAdd, Int.neg_neg, Bool.not_not, List.append_nil, Nat.add_zero, List.getElem?_cons_zero, List.getElem?_cons_succ, Decidable.not_not, semW_eq, semW_load, ne_eq, Nat.reduceEqDiff, not_false_eq_true]
  have hw : IntKind.u64.wrap (es.length : Int) = es.length := wrap_in ⟨by simp [IntKind.min, IntKind.signed], by simp [IntKind.max, IntKind.signed, IntKind.bits]; omega⟩
  rw [hw]
  refine (wNumber_ok b l es.length 4 (by omega) (by omega)).weak (fun _ _ h => h) ?_
  rintro v R h ⟨rfl, H⟩
  refine ⟨_, rfl, ⟨false, eqlF Tryz.underlying155 (by kernel_rfl), fun h => (by cases h), fun _ => ?_⟩, H⟩
  refine ⟨fun k p q => ∃ j : Nat, k = j ∧ j ≤ es.length ∧ HP.ent p (WRep b (l ++ beN es.length 4 ++ ((es.map (·.nd)).take j).flatMap nodeB)) ∧ q = HP.tt, fun k _ _ => es.length - k.toNat, ⟨0, rfl, Nat.zero_le _, by simpa using HP.ent.refl _, rfl⟩, ?_⟩
  rintro k p q ⟨j, rfl, hj, hp, rfl⟩
  refine ⟨fun hlt => ⟨by omega, fun _ => ⟨ha (by omega), fun _ => ?_⟩⟩, fun hge => ?_⟩
  · have hlt' : j < es.length := by omega
    have hltm : j < (es.map (·.nd)).length := by simpa using hlt'
    have hg : (es.map (·.nd))[j] = es[j].nd := by simp
    refine ⟨_, _, _, _, _, _, _, _, _, Ls.load (K := kNode) Tryz.underlying43 aggNo szNo (List.getElem?_eq_getElem hlt'), fun y => ?_⟩
    have hlen := take_flat_le nodeB (es.map (·.nd)) (j + 1)
    rw [take_flat nodeB _ j hltm, List.length_append, hg] at hlen
    have hm := hx _ (List.getElem_mem hlt')
    refine .inl ⟨_, #[], rfl, fgoPN, ?_⟩
    refine (putNode_ok b (l ++ beN es.length 4 ++ ((es.map (·.nd)).take j).flatMap nodeB) es[j] hm.1 (by simp only [List.length_append, beN_len]; omega) hm.2).conseq (K := Ls kNode a es.length es) ?_ fun v => .of fun R h H => ?_
    · refine (HP.ent.of fun R h H => HP.sep_right H).trans ((HP.ent.sep hp _).trans (.of fun R h H => ?_))
      refine HP.sep_assoc' (HP.sep_mono H (fun _ h => h) fun z hz => ⟨PH.none', z, PH.none_dj _, PH.none_le _, PH.le.refl _, ?_, hz⟩)
      exact kNode.pers _ _ _ _ (hz.2.2 _ (List.getElem_mem hlt'))
    · obtain ⟨rfl, _⟩ := HP.sep_left H
      refine ⟨HP.tt, _, rfl, ⟨inI64 _ (by omega) (by omega), fun _ => ⟨⟨j + 1, by omega, by omega, ?_, rfl⟩, by dsimp only; omega⟩⟩, HP.tt_sep (HP.sep_mono H (fun _ h => h.2) fun _ h => h)⟩
      rw [take_flat nodeB _ j hltm, hg, List.append_assoc _ (((es.map (·.nd)).take j).flatMap nodeB)]
      exact HP.ent.refl _
  · obtain rfl : j = es.length := by omega
    have e0 : (es.map (·.nd)).take es.length = es.map (·.nd) := List.take_of_length_le (by simp)
    rw [e0] at hp
    refine (HP.ent.sep hp _).trans (.of fun R h H => ⟨trivial, ?_⟩)
    rw [List.append_assoc] at H
    have e : beN es.length 4 ++ (es.map (·.nd)).flatMap nodeB = nodesB (es.map (·.nd)) := by simp [nodesB]
    rw [e] at H
    exact HP.sep_mono H (fun _ h => h) fun _ h => HP.sep_left h
theorem wInt_ok (b : Nat) (l : List UInt8) (v : Int) (hb : l.length + 8 < 140737488355328) :
    Tri Tryz.prog 79 #[.pointer (some ⟨b, 0, none⟩), .int .i64 v] (WRep b l) (fun r => HP.and (r = .tuple #[]) (WRep b (l ++ beN (linksN v) 8))) := by
  refine tri_of_tree (ρ := [.n b, .p (WRep b l), .i v]) mixed Tryz.func79 tree_wInt ?_
  unfold t_wInt
  simp only [T.den, E.prop, E.den, RX.look, F1.app, F2.app, Uni.int_i, Uni.nat_n, Uni.bool_c, Uni.str_s, Uni.adr_a, Uni.val_v, Uni.hp_p, hden, cden, V.den, W.den, A.den, BR.den, SA.den, FV.den, capV, exs, exP, allP, Cur.app, List.map_cons, List.map_nil, List.cons_append, List.nil_append, List.drop_succ_cons, List.drop_zero, List.length_cons, List.length_nil, Nat.zero_add, Nat.reduceAdd, Int.neg_neg, Bool.not_not, List.append_nil, Nat.add_zero, List.getElem?_cons_zero, List.getElem?_cons_succ, Decidable.not_not, semW_eq, ne_eq, Nat.reduceEqDiff, not_false_eq_true]
  rw [← linksN_val v]
  refine (wNumber_ok b l (linksN v) 8 (by omega) hb).weak (fun _ _ h => h) ?_
  rintro v R h ⟨rfl, H⟩
  exact ⟨_, rfl, .of fun R h H => ⟨trivial, H⟩, H⟩
def snapS (upto : Int) (T1 : List Nd) : List UInt8 := wrapS (beN (linksN upto) 8 ++ nodesB T1)
theorem flat_len_le {α β : Type} (f : α → List β) (k : Nat) : ∀ l : List α, (∀ x ∈ l, (f x).length ≤ k) → (l.flatMap f).length ≤ l.length * k
  | [], _ => by simp
  | x :: r, h => by
    have := flat_len_le f k r fun y hy => h y (List.mem_cons_of_mem _ hy)
    have := h x List.mem_cons_self
    rw [List.flatMap_cons, List.length_append, List.length_cons, Nat.succ_mul]; omega
theorem nodeB_le {B : Nat} {n : Nd} (g : GoodN B n) : (nodeB n).length ≤ 600 + B * 100 := by
  have h1 : (n.ents.flatMap entB).length ≤ n.ents.length * 100 := flat_len_le entB 100 n.ents fun x hx => by
    have := (g.name x hx).1
    unfold nameOk at this
    simp at this
    rw [entB_len]; omega
  have h2 := g.data
  have h3 : n.ents.length * 100 ≤ B * 100 := Nat.mul_le_mul_right _ g.efew
  have hlen : (nodeB n).length = 2 + 2 + (4 + n.data.length) + (4 + (n.ents.flatMap entB).length) := by simp [nodeB, beN_len]; omega
  omega
theorem inc_len : ∀ (l : List Nat) (lo n : Nat), lo ≤ n → l.Pairwise (· < ·) → (∀ x ∈ l, lo ≤ x ∧ x < n) → l.length + lo ≤ n
  | [], lo, n, h, _, _ => by simpa using h
  | x :: r, lo, n, h, p, q => by
    rw [List.pairwise_cons] at p
    have h1 := q x List.mem_cons_self
    have := inc_len r (x + 1) n (by omega) p.2 fun y hy => ⟨p.1 y hy, (q y (List.mem_cons_of_mem _ hy)).2⟩
    rw [List.length_cons]; omega
theorem few_nodes {B : Nat} {T1 : List Nd} (wf : TWf B T1) : T1.length ≤ 64 := by
  have := inc_len (T1.map (·.num)) 0 64 (by omega) wf.sorted fun x hx => by
    obtain ⟨n, hn, rfl⟩ := List.mem_map.1 hx
    exact ⟨Nat.zero_le _, (wf.good n hn).num⟩
  simpa using this
theorem tgt_lt {B : Nat} {T1 : List Nd} (wf : TWf B T1) {x : Nd} (hx : x ∈ T1) {e : Nm × Nat} (he : e ∈ x.ents) : e.2 < 64 := by
  have h := wf.tgt x hx e he
  obtain ⟨n, hn⟩ := Option.isSome_iff_exists.1 h
  unfold nodeAt at hn
  have h1 := List.mem_of_find?_eq_some hn
  have h2 := List.find?_some hn
  have := (wf.good n h1).num
  simp at h2
  omega
theorem encode_ok {b : Nat} {t : TS} {B : Nat} (hB : B ≤ 100000) (wf : TWf B t.pub) (upto : Int) :
    Tri Tryz.prog 28 #[.int .i64 upto, .pointer (some ⟨b, 0, none⟩)] (TRep b t)
      (fun v => HP.ex fun a => HP.ex fun c => HP.and (v = .slice a (snapS upto t.pub).length c) (HP.sep (TRep b t) (OwB a (snapS upto t.pub).length c (snapS upto t.pub)))) := by
  refine tri_of_tree (ρ := [.i upto, .n b, .p (TRep b t)]) mixed Tryz.func28 tree_snapEncode ?_
  unfold t_snapEncode
  simp only [T.den, E.prop, E.den, RX.look, F1.app, F2.app, Uni.int_i, Uni.nat_n, Uni.bool_c, Uni.str_s, Uni.adr_a, Uni.val_v, Uni.hp_p, hden, cden, V.den, W.den, A.den, BR.den, SA.den, FV.den, capV, exs, exP, allP, Cur.app, List.map_cons, List.map_nil, List.cons_append, List.nil_append, List.drop_succ_cons, List.drop_zero, List.length_cons, List.length_nil, Nat.zero_add, Nat.reduceAdd, Int.neg_neg, Bool.not_not, List.append_nil, Nat.add_zero, List.getElem?_cons_zero, List.getElem?_cons_succ, Decidable.not_not, semW_eq, ne_eq, Nat.reduceEqDiff, not_false_eq_true]
  have h64 := few_nodes wf
  have hfl : (t.pub.flatMap nodeB).length ≤ 64 * (600 + B * 100) := Nat.le_trans (flat_len_le nodeB _ t.pub fun x hx => nodeB_le (wf.good x hx)) (Nat.mul_le_mul_right _ h64)
  intro x
  refine (wInt_ok x [] upto (by simp)).weak (fun R h H => ⟨none, 0, HP.sep_comm (HP.sep_mono (HP.tt_sep H) (fun y _ => OwC.nil _ _ R y) fun _ h => h)⟩) ?_
  rintro v R h ⟨rfl, xa, xc, H⟩
  refine ⟨xa, _, xc, OwB xa _ xc _, rfl, ?_, H⟩
  refine (tNodes_ok hB wf).weak (fun _ _ h => h) ?_
  rintro v R h ⟨a, c, rfl, H⟩
  refine ⟨a, _, c, _, _, rfl, ?_, H⟩
  have hp : (Tri Tryz.prog 80 #[.pointer (some ⟨x, 0, none⟩), .slice a t.pub.length c, .func (.func 81) #[] #[]] (HP.sep (WRep x ([] ++ beN (linksN upto) 8)) (NodesR a t.pub.length t.pub))
      (fun v => HP.and (v = .tuple #[]) (HP.sep (WRep x ([] ++ beN (linksN upto) 8 ++ nodesB t.pub)) (NodesR a t.pub.length t.pub)))) := by
    refine (Tri.ex (A := fun es : List NodeE => HP.and (es.map (·.nd) = t.pub) (HP.sep (WRep x ([] ++ beN (linksN upto) 8)) (Ls kNode a t.pub.length es))) fun es => Tri.pure fun he => ?_).weak
      (fun R h ⟨h1, h2, d, l1, l2, HW, ⟨es, he, Hs⟩⟩ => ⟨es, he, h1, h2, d, l1, l2, HW, Hs⟩) fun _ _ _ h => h
    have hl : t.pub.length = es.length := by rw [← he]; simp
    have := putNodes_ok x ([] ++ beN (linksN upto) 8) a c es (fun y hy => by
      have hm : y.nd ∈ t.pub := by rw [← he]; exact List.mem_map.2 ⟨y, hy, rfl⟩
      exact ⟨fun e hee => by have := tgt_lt wf hm hee; omega, by have := (wf.good _ hm).efew; omega⟩) (by rw [he]; simp only [List.nil_append, beN_len]; omega) (by omega)
    rw [← hl, he] at this
    exact this.weak (fun _ _ h => h) fun v R h ⟨e, H⟩ => ⟨e, HP.sep_mono H (fun _ h => h) fun _ h => ⟨es, he, h⟩⟩
  have elen : ([] ++ beN (linksN upto) 8 ++ nodesB t.pub).length = 8 + (4 + (t.pub.flatMap nodeB).length) := by simp only [List.nil_append, List.length_append, beN_len, nodesB]
  have e8 : [] ++ beN (linksN upto) 8 ++ nodesB t.pub = beN (linksN upto) 8 ++ nodesB t.pub := by rw [List.nil_append]
  refine hp.weak (fun R h H => HP.sep_mono (HP.sep_assoc' H) (fun _ h => ⟨xa, xc, h⟩) fun _ h => h) ?_
  rintro v R h ⟨rfl, h1, h2, d, q1, q2, ⟨ya, yc, HW⟩, HN⟩
  refine ⟨ya, _, yc, OwB ya _ yc _, _, rfl, ?_, HP.sep_assoc ⟨h1, h2, d, q1, q2, HW, HN⟩⟩
  refine (wOut_ok x ([] ++ beN (linksN upto) 8 ++ nodesB t.pub) (by omega)).weak (fun R h H => ⟨ya, yc, H⟩) ?_
  rintro v R h ⟨a', c', rfl, h1, h2, d, q1, q2, ⟨za, zc, HW⟩, HO⟩
  have ha' : a'.isSome = true := OwC.some HO (by omega)
  refine ⟨a', _, c', OwB a' _ c' _, za, _, zc, OwB za _ zc _, rfl, ?_, h2, h1, d.symm, q2, q1, HO, HW⟩
  refine (wrap_ok a' _ c' _ _ (RdL.ow _ _ _ _ _ _) rfl (fun _ => ha') (by omega)).weak (fun _ _ h => h) ?_
  rintro v R h ⟨b', d', rfl, H⟩
  refine ⟨b', _, d', OwB b' _ d' _, _, rfl, .of fun R h H => ⟨b', d', ?_, ?_⟩, HP.sep_comm H⟩
  · rw [e8]; rfl
  · rw [e8] at H; exact H
end Go.Proofs.YtdieogcemmnaaaaGreatDoor



namespace Go.Proofs.YtdieogcemmnaaaaGreatDoor.RX
set_option maxRecDepth 100000
-- (*tideline/octet.Reader).turns$1: ρ := [.v yield, .p yieldP, .n n, .i n, .n r, .n r, .p rP]
def t_turns1 : T :=
(.loop [.i, .p, .p] [.e (.o1 .neg (.o1 .neg (.i 0))), .p [(.a 0, .prop 1)], .p [(.b (.v 5), .prop 6)]]
(.br (.o2 .lt (.v 7) (.v 3))
(.read (.load 4 (.tmp 11)) 4 [(11, .w (.a (.ptr (.v 5) 1)))] [(.b (.v 5), .prop 9)] [.c] (.w (.a (.bool (.v 10))))
(.br (.v 10)
(.ret (.tup []) [(.a 0, .prop 8), (.b (.v 2), .cells [.int .i64 (.v 3)] 3), (.b (.v 4), .cells [.ptr (.v 5) 0] 158), (.b (.v 5), .prop 9)])
   (.callv 0 [.a (.int .i64 (.v 7))] [(.a 0, .prop 8), (.b (.v 5), .prop 9)] [.c, .p, .p] (.w (.a (.bool (.v 11)))) [(.a 0, .prop 12), (.b (.v 5), .prop 13)]
(.br (.o1 .not (.v 11))
(.ret (.tup []) [(.a 0, .prop 12), (.b (.v 2), .cells [.int .i64 (.v 3)] 3), (.b (.v 4), .cells [.ptr (.v 5) 0] 158), (.b (.v 5), .prop 13)])
(.need (.o1 (.inr .i64) (.o2 .add (.v 7) (.i 1)))
(.again 0 [.e (.o1 .neg (.o1 .neg (.o2 .add (.v 7) (.i 1)))), .p [(.a 0, .prop 12)], .p [(.b (.v 5), .prop 13)]]))))))
(.ret (.tup []) [(.a 0, .prop 8), (.b (.v 2), .cells [.int .i64 (.v 3)] 3), (.b (.v 4), .cells [.ptr (.v 5) 0] 158), (.b (.v 5), .prop 9)])))
theorem tree_turns1 : tree Tryz.prog { hv := [(0, [.a 0, .b (.v 5)])], vt := [.b (.v 5)] } Tryz.f204 [.a (.val 0), .a (.ptr (.v 2) 0), .a (.ptr (.v 4) 0)] [(.a 0, .prop 1), (.b (.v 2), .cells [.int .i64 (.v 3)] 3), (.b (.v 4), .cells [.ptr (.v 5) 0] 158), (.b (.v 5), .prop 6)] 7 = t_turns1 := by kernel_rfl
def t_turns : T :=
(.new
(.new
(.ret (.w (.a (.func 204 [(.v 4, 0), (.v 3, 0)]))) [(.b (.v 0), .prop 1), (.b (.v 4), .cells [.int .i64 (.v 2)] 3), (.b (.v 3), .cells [.ptr (.v 0) 0] 158)])))
theorem tree_turns : tree Tryz.prog { } Tryz.f155 [.a (.ptr (.v 0) 0), .a (.int .i64 (.v 2))] [(.b (.v 0), .prop 1)] 3 = t_turns := by kernel_rfl
def t_listEntries : T :=
(.new
(.new
(.call 154 [.a (.ptr (.v 0) 0), .a (.int .i64 (.v 2))] [(.b (.v 0), .prop 1)] [.i, .p] (.w (.a (.int .i64 (.v 7)))) [(.b (.v 0), .prop 8)]
(.new
(.call 155 [.a (.ptr (.v 0) 0), .a (.int .i64 (.v 7))] [(.b (.v 0), .prop 8)] [.v, .p] (.w (.a (.val 10))) [(.a 10, .prop 11), (.b (.v 0), .prop 8)]
(.new
(.rangef (.val 10) [(.a 10, .prop 11)] [(.b (.v 0), .prop 13)] [.p, .a, .n, .n, .p] [.p [(.b (.v 0), .prop 8)], .a .nil, .e (.o2 .nadd (.n 0) (.n 0)), .e (.o2 .nadd (.n 0) (.n 0)), .p []] [.i] [.a (.int .i64 (.v 18))] []
(.call 159 [.a (.ptr (.v 0) 0)] [(.b (.v 0), .prop 13)] [.s, .i, .p] (.w (.agg [.str (.v 19), .int .i64 (.v 20)])) [(.b (.v 0), .prop 21)]
(.new
(.op (.call ⟨.builtin .append, #[.tmp 18, .tmp 22], #[41, 41]⟩) 41 [(18, .w (.a (.sl (.v 14) (.v 15) (.v 16)))), (22, .w (.a (.sl (.b (.v 22) 0) (.n 1) (.n 1))))] [(.a 14, .prop 17), (.b (.v 22), .cells [.str (.v 19), .int .i64 (.v 20)] 140)] [.a, .n, .n, .p] (.w (.a (.sl (.v 23) (.v 24) (.v 25)))) [(.a 23, .prop 26), (.b (.v 22), .cells [.str (.v 19), .int .i64 (.v 20)] 140)]
(.again 0 [.p [(.b (.v 0), .prop 21)], .a (.v 23), .e (.o2 .nadd (.v 24) (.n 0)), .e (.o2 .nadd (.v 25) (.n 0)), .p [(.a 23, .prop 26)]]))))
(.read (.load 4 (.tmp 26)) 4 [(26, .w (.a (.ptr (.v 0) 1)))] [(.b (.v 0), .prop 13)] [.c] (.w (.a (.bool (.v 18))))
(.br (.v 18)
(.ret (.w (.a (.sl .nil (.n 0) (.n 0)))) [(.b (.v 0), .prop 13)])
(.ret (.w (.a (.sl (.v 14) (.v 15) (.v 16)))) [(.b (.v 0), .prop 13), (.a 14, .prop 17)]))))))))))
theorem tree_listEntries : tree Tryz.prog { hv := [(0, [.b (.v 0), .b (.v 9)])], keep := [155], link := [(155, 0)], shr := [(0, [.b (.v 0)])], pty := [(0, [3])] } Tryz.f158 [.a (.ptr (.v 0) 0), .a (.int .i64 (.v 2)), .a (.func 159 [])] [(.b (.v 0), .prop 1)] 5 = t_listEntries := by kernel_rfl
def t_listNodes : T :=
(.new
(.new
(.call 154 [.a (.ptr (.v 0) 0), .a (.int .i64 (.v 2))] [(.b (.v 0), .prop 1)] [.i, .p] (.w (.a (.int .i64 (.v 7)))) [(.b (.v 0), .prop 8)]
(.new
(.call 155 [.a (.ptr (.v 0) 0), .a (.int .i64 (.v 7))] [(.b (.v 0), .prop 8)] [.v, .p] (.w (.a (.val 10))) [(.a 10, .prop 11), (.b (.v 0), .prop 8)]
(.new
(.rangef (.val 10) [(.a 10, .prop 11)] [(.b (.v 0), .prop 13)] [.p, .a, .n, .n, .p] [.p [(.b (.v 0), .prop 8)], .a .nil, .e (.o2 .nadd (.n 0) (.n 0)), .e (.o2 .nadd (.n 0) (.n 0)), .p []] [.i] [.a (.int .i64 (.v 18))] []
(.call 88 [.a (.ptr (.v 0) 0)] [(.b (.v 0), .prop 13)] [.i, .i, .i, .a, .n, .n, .p, .a, .n, .n, .p, .p] (.w (.agg [.int .i64 (.v 19), .int .i64 (.v 20), .int .i64 (.v 21), .sl (.v 22) (.v 23) (.v 24), .sl (.v 26) (.v 27) (.v 28)])) [(.a 22, .prop 25), (.a 26, .prop 29), (.b (.v 0), .prop 30)]
(.new
(.op (.call ⟨.builtin .append, #[.tmp 18, .tmp 22], #[36, 36]⟩) 36 [(18, .w (.a (.sl (.v 14) (.v 15) (.v 16)))), (22, .w (.a (.sl (.b (.v 31) 0) (.n 1) (.n 1))))] [(.a 14, .prop 17), (.b (.v 31), .cells [.int .i64 (.v 19), .int .i64 (.v 20), .int .i64 (.v 21), .sl (.v 22) (.v 23) (.v 24), .sl (.v 26) (.v 27) (.v 28)] 43), (.a 22, .prop 25), (.a 26, .prop 29)] [.a, .n, .n, .p] (.w (.a (.sl (.v 32) (.v 33) (.v 34)))) [(.a 32, .prop 35), (.b (.v 31), .cells [.int .i64 (.v 19), .int .i64 (.v 20), .int .i64 (.v 21), .sl (.v 22) (.v 23) (.v 24), .sl (.v 26) (.v 27) (.v 28)] 43), (.a 22, .prop 25), (.a 26, .prop 29)]
(.again 0 [.p [(.b (.v 0), .prop 30)], .a (.v 32), .e (.o2 .nadd (.v 33) (.n 0)), .e (.o2 .nadd (.v 34) (.n 0)), .p [(.a 32, .prop 35)]]))))
(.read (.load 4 (.tmp 26)) 4 [(26, .w (.a (.ptr (.v 0) 1)))] [(.b (.v 0), .prop 13)] [.c] (.w (.a (.bool (.v 18))))
(.br (.v 18)
(.ret (.w (.a (.sl .nil (.n 0) (.n 0)))) [(.b (.v 0), .prop 13)])
(.ret (.w (.a (.sl (.v 14) (.v 15) (.v 16)))) [(.b (.v 0), .prop 13), (.a 14, .prop 17)]))))))))))
theorem tree_listNodes : tree Tryz.prog { hv := [(0, [.b (.v 0), .b (.v 9)])], keep := [155], link := [(155, 0)], shr := [(0, [.b (.v 0)])], pty := [(0, [3])] } Tryz.f87 [.a (.ptr (.v 0) 0), .a (.int .i64 (.v 2)), .a (.func 88 [])] [(.b (.v 0), .prop 1)] 5 = t_listNodes := by kernel_rfl
def t_takeEntry : T :=
(.new
(.call 157 [.a (.ptr (.v 0) 0), .a (.int .i64 (.i 16))] [(.b (.v 0), .prop 1)] [.a, .n, .n, .p, .p] (.w (.a (.sl (.v 3) (.v 4) (.v 5)))) [(.a 3, .prop 6), (.b (.v 0), .prop 7)]
(.read (.convert 28 9 (.tmp 5)) 9 [(5, .w (.a (.sl (.v 3) (.v 4) (.v 5))))] [(.a 3, .prop 6)] [.s] (.w (.a (.str (.v 8))))
(.call 156 [.a (.ptr (.v 0) 0)] [(.b (.v 0), .prop 7)] [.i, .p] (.w (.a (.int .u8 (.v 9)))) [(.b (.v 0), .prop 10)]
(.need (.o1 (.inr .i64) (.v 9))
(.ret (.w (.agg [.str (.v 8), .int .i64 (.v 9)])) [(.b (.v 0), .prop 10)]))))))
theorem tree_takeEntry : tree Tryz.prog { } Tryz.f159 [.a (.ptr (.v 0) 0)] [(.b (.v 0), .prop 1)] 2 = t_takeEntry := by kernel_rfl
def t_takeNode : T :=
(.new
(.new
(.call 156 [.a (.ptr (.v 0) 0)] [(.b (.v 0), .prop 1)] [.i, .p] (.w (.a (.int .u8 (.v 4)))) [(.b (.v 0), .prop 5)]
(.need (.o1 (.inr .i64) (.v 4))
(.call 156 [.a (.ptr (.v 0) 0)] [(.b (.v 0), .prop 5)] [.i, .p] (.w (.a (.int .u8 (.v 6)))) [(.b (.v 0), .prop 7)]
(.need (.o1 (.inr .i64) (.v 6))
(.call 153 [.a (.ptr (.v 0) 0), .a (.int .i64 (.i 2))] [(.b (.v 0), .prop 7)] [.i, .p] (.w (.a (.int .u64 (.v 8)))) [(.b (.v 0), .prop 9)]
(.call 157 [.a (.ptr (.v 0) 0), .a (.int .i64 (.i 512))] [(.b (.v 0), .prop 9)] [.a, .n, .n, .p, .p] (.w (.a (.sl (.v 10) (.v 11) (.v 12)))) [(.a 10, .prop 13), (.b (.v 0), .prop 14)]
(.call 158 [.a (.ptr (.v 0) 0), .a (.int .i64 (.i 9223372036854775807)), .a (.func 159 [])] [(.b (.v 0), .prop 14)] [.a, .n, .n, .p, .p] (.w (.a (.sl (.v 15) (.v 16) (.v 17)))) [(.a 15, .prop 18), (.b (.v 0), .prop 19)]
(.ret (.w (.agg [.int .i64 (.v 4), .int .i64 (.v 6), .int .i64 (.o1 (.wrap .i64) (.v 8)), .sl (.v 10) (.v 11) (.v 12), .sl (.v 15) (.v 16) (.v 17)])) [(.b (.v 0), .prop 19), (.a 10, .prop 13), (.a 15, .prop 18)]))))))))))
theorem tree_takeNode : tree Tryz.prog { } Tryz.f88 [.a (.ptr (.v 0) 0)] [(.b (.v 0), .prop 1)] 2 = t_takeNode := by kernel_rfl
def t_wholeLinks : T :=
(.new
(.loop [.i, .p] [.e (.o1 .neg (.o1 .neg (.i 0))), .p [(.b (.v 4), .emap)]]
(.br (.o2 .lt (.v 5) (.o1 .ofNat (.v 1)))
(.need (.o2 .le (.i 0) (.v 5))
(.need (.o1 .isSome (.v 0))
(.read (.load 43 (.tmp 14)) 43 [(14, .w (.a (.eptr 0 (.v 5) 5 0)))] [(.a 0, .prop 3)] [.i, .i, .i, .a, .n, .n, .a, .n, .n] (.w (.agg [.int .i64 (.v 7), .int .i64 (.v 8), .int .i64 (.v 9), .sl (.v 10) (.v 11) (.v 12), .sl (.v 13) (.v 14) (.v 15)]))
(.new
(.loop [.i, .p] [.e (.o1 .neg (.o1 .neg (.i 0))), .p [(.b (.v 4), .prop 6)]]
(.br (.o2 .lt (.v 17) (.o1 .ofNat (.v 14)))
(.need (.o2 .le (.i 0) (.v 17))
(.need (.o1 .isSome (.v 13))
(.read (.load 140 (.tmp 21)) 140 [(21, .w (.a (.eptr 13 (.v 17) 2 0)))] [(.a 0, .prop 3)] [.s, .i] (.w (.agg [.str (.v 19), .int .i64 (.v 20)]))
(.new
(.read (.lookup 252 (.tmp 23) (.tmp 25) false) 3 [(23, .w (.a (.map (.v 4)))), (25, .w (.a (.int .i64 (.v 20))))] [(.b (.v 4), .prop 18)] [.i] (.w (.a (.int .i64 (.v 22))))
(.need (.o1 (.inr .i64) (.o2 .add (.v 22) (.i 1)))
(.op (.mapUpdate 252 (.tmp 23) (.tmp 25) (.tmp 27)) 0 [(23, .w (.a (.map (.v 4)))), (25, .w (.a (.int .i64 (.v 20)))), (27, .w (.a (.int .i64 (.o2 .add (.v 22) (.i 1)))))] [(.b (.v 4), .prop 18)] [.p] (.tup []) [(.b (.v 4), .prop 23)]
(.need (.o1 (.inr .i64) (.o2 .add (.v 17) (.i 1)))
(.again 0 [.e (.o1 .neg (.o1 .neg (.o2 .add (.v 17) (.i 1)))), .p [(.b (.v 4), .prop 23)]])))))))))
(.need (.o1 (.inr .i64) (.o2 .add (.v 5) (.i 1)))
(.again 1 [.e (.o1 .neg (.o1 .neg (.o2 .add (.v 5) (.i 1)))), .p [(.b (.v 4), .prop 18)]]))))))))
(.loop [.i, .p] [.e (.o1 .neg (.o1 .neg (.i 0))), .p [(.a 0, .prop 3)]]
(.br (.o2 .lt (.v 7) (.o1 .ofNat (.v 1)))
(.need (.o2 .le (.i 0) (.v 7))
(.need (.o1 .isSome (.v 0))
(.read (.load 43 (.tmp 35)) 43 [(35, .w (.a (.eptr 0 (.v 7) 5 0)))] [(.a 0, .prop 8)] [.i, .i, .i, .a, .n, .n, .a, .n, .n] (.w (.agg [.int .i64 (.v 9), .int .i64 (.v 10), .int .i64 (.v 11), .sl (.v 12) (.v 13) (.v 14), .sl (.v 15) (.v 16) (.v 17)]))
(.new
(.br (.o2 .eq (.v 10) (.i 2))
(.read (.lookup 252 (.tmp 41) (.tmp 43) false) 3 [(41, .w (.a (.map (.v 4)))), (43, .w (.a (.int .i64 (.v 9))))] [(.b (.v 4), .prop 6)] [.i] (.w (.a (.int .i64 (.v 19))))
(.br (.o2 .eq (.o2 (.bit .and .i64) (.v 19) (.i 65535)) (.v 11))
(.read (.lookup 252 (.tmp 52) (.tmp 54) false) 3 [(52, .w (.a (.map (.v 4)))), (54, .w (.a (.int .i64 (.v 9))))] [(.b (.v 4), .prop 6)] [.i] (.w (.a (.int .i64 (.v 20))))
(.op (.store 3 (.tmp 57) (.tmp 55)) 0 [(57, .w (.a (.eptr 0 (.v 7) 5 2))), (55, .w (.a (.int .i64 (.v 20))))] [(.a 0, .prop 8)] [.p] (.tup []) [(.a 0, .prop 21)]
(.need (.o1 (.inr .i64) (.o2 .add (.v 7) (.i 1)))
(.again 0 [.e (.o1 .neg (.o1 .neg (.o2 .add (.v 7) (.i 1)))), .p [(.a 0, .prop 21)]]))))
(.need (.o1 (.inr .i64) (.o2 .add (.v 7) (.i 1)))
(.again 0 [.e (.o1 .neg (.o1 .neg (.o2 .add (.v 7) (.i 1)))), .p [(.a 0, .prop 8)]]))))
(.need (.o1 (.inr .i64) (.o2 .add (.v 7) (.i 1)))
(.again 0 [.e (.o1 .neg (.o1 .neg (.o2 .add (.v 7) (.i 1)))), .p [(.a 0, .prop 8)]])))))))
(.ret (.tup []) [(.a 0, .prop 8)]))))))
theorem tree_wholeLinks : tree Tryz.prog { hv := [(0, [.b (.v 4)]), (2, [.b (.v 4)]), (4, [.a 0])] } Tryz.f90 [.a (.sl (.v 0) (.v 1) (.v 2))] [(.a 0, .prop 3)] 4 = t_wholeLinks := by kernel_rfl
def t_tLoaded : T :=
(.new
(.br (.o2 .eq (.v 1) (.i 1))
(.br (.o2 .lt (.i 0) (.o1 .ofNat (.v 4)))
(.ret (.w (.a .nilp)) [(.a 3, .prop 6), (.a 7, .prop 10)])
(.br (.o1 .not (.o2 .eq (.v 2) (.i 1)))
(.ret (.w (.a .nilp)) [(.a 3, .prop 6), (.a 7, .prop 10)])
(.call 60 [] [] [.n, .p] (.w (.a (.ptr (.v 12) 0))) [(.b (.v 12), .prop 13)]
(.loop [.v, .p, .s, .i, .p] [.v .nilp, .p [], .e (.o2 .cat (.s []) (.s [])), .e (.o1 .neg (.o1 .neg (.i 0))), .p [(.b (.v 12), .prop 13)]]
(.br (.o2 .lt (.v 17) (.o1 .ofNat (.v 8)))
(.need (.o2 .le (.i 0) (.v 17))
(.need (.o1 .isSome (.v 7))
(.read (.load 140 (.tmp 26)) 140 [(26, .w (.a (.eptr 7 (.v 17) 2 0)))] [(.a 7, .prop 10)] [.s, .i] (.w (.agg [.str (.v 19), .int .i64 (.v 20)]))
(.new
(.call 205 [.a (.str (.v 19))] [] [.c] (.w (.a (.bool (.v 22)))) []
(.br (.o1 .not (.v 22))
(.ret (.w (.a .nilp)) [(.a 3, .prop 6), (.a 7, .prop 10)])
(.read (.binOp .leq 9 (.tmp 34) (.tmp 35) 9) 4 [(34, .w (.a (.str (.v 19)))), (35, .w (.a (.str (.v 16))))] [] [.c] (.w (.a (.bool (.v 23))))
(.br (.v 23)
(.ret (.w (.a .nilp)) [(.a 3, .prop 6), (.a 7, .prop 10)])
(.read (.load 131 (.tmp 40)) 131 [(40, .w (.a (.ptr (.v 12) 3)))] [(.b (.v 12), .prop 18)] [.n] (.w (.a (.map (.v 24))))
(.op (.mapUpdate 131 (.tmp 41) (.tmp 43) (.tmp 45)) 0 [(41, .w (.a (.map (.v 24)))), (43, .w (.a (.str (.v 19)))), (45, .w (.a (.int .i64 (.v 20))))] [(.b (.v 12), .prop 18)] [.p] (.tup []) [(.b (.v 12), .prop 25)]
(.need (.o1 (.inr .i64) (.o2 .add (.v 17) (.i 1)))
(.again 0 [.v (.val 14), .p [(.a 14, .prop 15)], .e (.o2 .cat (.v 19) (.s [])), .e (.o1 .neg (.o1 .neg (.o2 .add (.v 17) (.i 1)))), .p [(.b (.v 12), .prop 25)]]))))))))))))
(.ret (.w (.a (.ptr (.v 12) 0))) [(.a 3, .prop 6), (.a 7, .prop 10), (.b (.v 12), .prop 18)]))))))
(.br (.o2 .eq (.v 1) (.i 2))
(.br (.o2 .lt (.i 512) (.o1 .ofNat (.v 4)))
(.ret (.w (.a .nilp)) [(.a 3, .prop 6), (.a 7, .prop 10)])
(.br (.o2 .lt (.i 0) (.o1 .ofNat (.v 8)))
(.ret (.w (.a .nilp)) [(.a 3, .prop 6), (.a 7, .prop 10)])
(.call 73 [.a (.sl (.v 3) (.v 4) (.v 5))] [(.a 3, .prop 6)] [.a, .n, .n, .p, .p] (.w (.a (.sl (.v 12) (.v 13) (.v 14)))) [(.a 12, .prop 15), (.a 3, .prop 16)]
(.new
(.ret (.w (.a (.ptr (.v 17) 0))) [(.a 3, .prop 16), (.a 7, .prop 10), (.b (.v 17), .cells [.int .i64 (.i 2), .int .i64 (.v 2), .sl (.v 12) (.v 13) (.v 14), .nilm] 133), (.a 12, .prop 15)])))))
(.ret (.w (.a .nilp)) [(.a 3, .prop 6), (.a 7, .prop 10)]))))
theorem tree_tLoaded : tree Tryz.prog { hv := [(1, [.b (.v 12)])], keep := [205, 161, 90] } Tryz.f160 [.agg [.int .i64 (.v 0), .int .i64 (.v 1), .int .i64 (.v 2), .sl (.v 3) (.v 4) (.v 5), .sl (.v 7) (.v 8) (.v 9)]] [(.a 3, .prop 6), (.a 7, .prop 10)] 11 = t_tLoaded := by kernel_rfl
def t_tLoad : T :=
(.br (.o2 .lt (.i 64) (.o1 .ofNat (.v 1)))
(.ret (.tup [.a .nilp, .a (.int .i64 (.i 3))]) [(.a 0, .prop 3)])
(.new
(.new
(.loop [.v, .p, .i, .i, .i, .p, .p] [.v .nilp, .p [], .e (.o1 .neg (.o1 .neg (.i 0))), .e (.o1 .neg (.o1 .neg (.i (-1)))), .e (.o1 .neg (.o1 .neg (.i 0))), .p [(.b (.v 4), .emap)], .p [(.a 0, .prop 3)]]
(.br (.o2 .lt (.v 10) (.o1 .ofNat (.v 1)))
(.need (.o2 .le (.i 0) (.v 10))
(.need (.o1 .isSome (.v 0))
(.read (.load 43 (.tmp 19)) 43 [(19, .w (.a (.eptr 0 (.v 10) 5 0)))] [(.a 0, .prop 12)] [.i, .i, .i, .a, .n, .n, .a, .n, .n] (.w (.agg [.int .i64 (.v 13), .int .i64 (.v 14), .int .i64 (.v 15), .sl (.v 16) (.v 17) (.v 18), .sl (.v 19) (.v 20) (.v 21)]))
(.new
(.br (.o2 .le (.v 13) (.v 9))
(.ret (.tup [.a .nilp, .a (.int .i64 (.i 3))]) [(.a 0, .prop 12)])
(.br (.o2 .le (.i 64) (.v 13))
(.ret (.tup [.a .nilp, .a (.int .i64 (.i 3))]) [(.a 0, .prop 12)])
(.call 160 [.agg [.int .i64 (.v 13), .int .i64 (.v 14), .int .i64 (.v 15), .sl (.v 16) (.v 17) (.v 18), .sl (.v 19) (.v 20) (.v 21)]] [(.a 0, .prop 12)] [.v, .p, .p] (.w (.a (.val 23))) [(.a 23, .prop 24), (.a 0, .prop 25)]
(.read (.binOp .eql 121 (.tmp 32) (.const (.pointer none)) 121) 4 [(32, .w (.a (.val 23)))] [(.a 23, .prop 24)] [.c] (.w (.a (.bool (.v 26))))
(.br (.v 26)
(.ret (.tup [.a .nilp, .a (.int .i64 (.i 3))]) [(.a 0, .prop 25)])
(.op (.mapUpdate 123 (.tmp 37) (.tmp 39) (.tmp 40)) 0 [(37, .w (.a (.map (.v 4)))), (39, .w (.a (.int .i64 (.v 13)))), (40, .w (.a (.val 23)))] [(.b (.v 4), .prop 11), (.a 23, .prop 24)] [.p] (.tup []) [(.b (.v 4), .prop 27)]
(.need (.o1 (.inr .i64) (.o2 .add (.v 10) (.i 1)))
(.again 0 [.v (.val 6), .p [(.a 6, .prop 7)], .e (.o1 .neg (.o1 .neg (.v 8))), .e (.o1 .neg (.o1 .neg (.v 13))), .e (.o1 .neg (.o1 .neg (.o2 .add (.v 10) (.i 1)))), .p [(.b (.v 4), .prop 27)], .p [(.a 0, .prop 25)]]))))))))))))
(.call 161 [.a (.ptr (.v 5) 0)] [(.b (.v 5), .cells [.map (.v 4)] 125), (.b (.v 4), .prop 11)] [.c, .n, .p] (.w (.a (.bool (.v 13)))) [(.b (.v 5), .cells [.map (.v 14)] 125), (.b (.v 14), .prop 15)]
(.br (.o1 .not (.v 13))
(.ret (.tup [.a .nilp, .a (.int .i64 (.i 3))]) [(.a 0, .prop 12)])
(.ret (.tup [.a (.ptr (.v 5) 0), .a (.int .i64 (.i 0))]) [(.a 0, .prop 12), (.b (.v 5), .cells [.map (.v 14)] 125), (.b (.v 14), .prop 15)]))))))))
theorem tree_tLoad : tree Tryz.prog { opq := [121], hv := [(0, [.b (.v 4), .a 0])] } Tryz.f91 [.a (.sl (.v 0) (.v 1) (.v 2))] [(.a 0, .prop 3)] 4 = t_tLoad := by kernel_rfl
end Go.Proofs.YtdieogcemmnaaaaGreatDoor.RX



namespace Go.Proofs.YtdieogcemmnaaaaGreatDoor
set_option linter.unusedSimpArgs false
set_option linter.unusedVariables false
open Go.Proofs.YtdieogcemmnaaaaGreatDoor RX
set_option maxRecDepth 100000

abbrev RS := List UInt8 × Bool
theorem undBo : Tryz.prog.underlying 4 = some .bool := by kernel_rfl
theorem aggBo : aggT Tryz.prog 4 = false := by kernel_rfl
theorem szBo : szT Tryz.prog 4 = 1 := by kernel_rfl
theorem rrep_rd (b : Nat) (s : RS) : ORead Tryz.prog (loadS 4 (.pointer (some ⟨b, 1, none⟩))) (RRep b s) (.bool s.2) := fun w R h F st ⟨a, c, _, H⟩ => by
  have := load1_ok undBo aggBo szBo (Rd.left (B := RoB a s.1.length s.1) (one_rd b #[.slice a s.1.length c, .bool s.2] 247)) (k := 1) (off := 0) (v := .bool s.2) rfl
  simp only [Option.map_some, addr_add] at this
  exact this w R h F st H
def TBox (nb rb b : Nat) (N : Int) : HP := HP.sep (HP.one nb (.cells #[.int .i64 N] 3 (0, 0))) (HP.one rb (.cells #[.pointer (some ⟨b, 0, none⟩)] 158 (0, 0)))
def mayT (N : Nat) (g : Nat × RS) (args : Array Value) (g' : Nat × RS) : Prop := args = #[.int .i64 (g.1 : Int)] ∧ g.1 < N ∧ g.2.2 = false ∧ g'.1 = g.1 + 1
def finT (N : Nat) (g : Nat × RS) : Prop := g.1 ≤ N ∧ (g.1 = N ∨ g.2.2 = true)
theorem fgoT : Fgo Tryz.prog 204 := ⟨_, Tryz.func204, by kernel_rfl, by kernel_rfl⟩
theorem turns_ok (b : Nat) (N : Int) (D : HP) : Tri Tryz.prog 155 #[.pointer (some ⟨b, 0, none⟩), .int .i64 N] D
    (fun v => HP.ex fun nb => HP.ex fun rb => HP.and (v = .func (.func 204) #[] #[.pointer (some ⟨nb, 0, none⟩), .pointer (some ⟨rb, 0, none⟩)]) (HP.sep (TBox nb rb b N) D)) := by
  refine tri_of_tree (ρ := [.n b, .p D, .i N]) mixed Tryz.func155 tree_turns ?_
  unfold t_turns
  simp only [T.den, E.prop, E.den, RX.look, F1.app, F2.app, Uni.int_i, Uni.nat_n, Uni.bool_c, Uni.str_s, Uni.adr_a, Uni.val_v, Uni.hp_p, hden, cden, V.den, W.den, A.den, BR.den, SA.den, FV.den, capV, exs, exP, allP, Cur.app, List.map_cons, List.map_nil, List.cons_append, List.nil_append, List.drop_succ_cons, List.drop_zero, List.length_cons, List.length_nil, Nat.zero_add, Nat.reduceAdd, Int.neg_neg, Bool.not_not, List.append_nil, Nat.add_zero, List.getElem?_cons_zero, List.getElem?_cons_succ, Decidable.not_not, semW_eq, ne_eq, Nat.reduceEqDiff, not_false_eq_true]
  exact fun x y => .of fun R h H => ⟨y, x, rfl, HP.sep_comm H⟩
theorem turns_seq (nb rb b : Nat) (N : Nat) (hN : N ≤ 4294967296) (s : RS) : SeqTri Tryz.prog (.func (.func 204) #[] #[.pointer (some ⟨nb, 0, none⟩), .pointer (some ⟨rb, 0, none⟩)]) (TBox nb rb b N)
    (fun g : Nat × RS => RRep b g.2) (fun _ _ => HP.tt) (mayT N) (finT N) (0, s) := by
  refine ⟨_, _, rfl, fgoT, fun l K Jx hr => ?_⟩
  refine (tri_of_tree (ρ := [.v (.func (.yield l) #[] #[]), .p (K (0, s)), .n nb, .i N, .n rb, .n b, .p (RRep b s)]) mixed Tryz.func204 tree_turns1 ?_).weak (fun R h H => ?_) fun _ _ _ h => h
  rotate_left
  · exact HP.sep_mono (HP.sep_comm (HP.sep_assoc' H)) (fun _ h => h) fun _ h => HP.sep_assoc h
  unfold t_turns1
  simp only [T.den, E.prop, E.den, RX.look, F1.app, F2.app, Uni.int_i, Uni.nat_n, Uni.bool_c, Uni.str_s, Uni.adr_a, Uni.val_v, Uni.hp_p, hden, cden, V.den, W.den, A.den, BR.den, SA.den, FV.den, capV, exs, exP, allP, Cur.app, List.map_cons, List.map_nil, List.cons_append, List.nil_append, List.drop_succ_cons, List.drop_zero, List.length_cons, List.length_nil, Nat.zero_add, Nat.reduceAdd, Int.neg_neg, Bool.not_not, List.append_nil, Nat.add_zero, List.getElem?_cons_zero, List.getElem?_cons_succ, Decidable.not_not, semW_eq, semW_load, ne_eq, Nat.reduceEqDiff, not_false_eq_true]
  have fin : ∀ J J2 : HP, HP.ent (HP.sep J J2) (SeqPost (fun g : Nat × RS => RRep b g.2) K Jx (finT N)) → HP.ent (HP.sep J (HP.sep (HP.one nb (.cells #[.int .i64 N] 3 (0, 0))) (HP.sep (HP.one rb (.cells #[.pointer (some ⟨b, 0, none⟩)] 158 (0, 0))) J2)))
      (HP.sep (TBox nb rb b N) (SeqPost (fun g : Nat × RS => RRep b g.2) K Jx (finT N))) := fun J J2 hJ =>
    (HP.ent.of fun R h H => HP.swap (HP.sep_mono H (fun _ h => h) fun _ h => HP.sep_assoc' h)).trans (HP.ent.sep2 (HP.ent.refl _) hJ)
  refine ⟨fun k p q => ∃ g : Nat × RS, k = g.1 ∧ g.1 ≤ N ∧ p = K g ∧ q = RRep b g.2, fun k _ _ => N - k.toNat, ⟨(0, s), rfl, Nat.zero_le _, rfl, rfl⟩, ?_⟩
  rintro k p q ⟨g, rfl, hg, rfl, rfl⟩
  have done : finT N g → HP.ent (HP.sep (K g) (RRep b g.2)) (SeqPost (fun g : Nat × RS => RRep b g.2) K Jx (finT N)) := fun hf => .of fun R h H => ⟨some g, hf, HP.sep_comm H⟩
  refine ⟨fun hlt => ⟨g.2.2, rrep_rd b g.2, fun hw => ?_, fun hw => ?_⟩, fun hge => ?_⟩
  · exact fin _ _ (done ⟨hg, .inr hw⟩)
  · have hw' : g.2.2 = false := by simpa using hw
    refine (hr g #[.int .i64 (g.1 : Int)] ⟨(g.1 + 1, g.2), rfl, by omega, hw', rfl⟩).conseq (K := HP.tt) (.of fun R h H => HP.sep_tt (HP.tt_sep (HP.sep_comm H))) fun v => .of fun R h H => ?_
    obtain ⟨b', rfl, hb⟩ := HP.sep_left H
    cases b' with
    | true =>
      obtain ⟨g', hm, H2⟩ := hb
      refine ⟨true, K g', RRep b g'.2, rfl, ⟨fun h => absurd rfl h, fun _ => ⟨inI64 _ (by omega) (by omega), fun _ => ⟨⟨g', ?_, ?_, rfl, rfl⟩, ?_⟩⟩⟩, HP.sep_comm H2⟩
      · rw [hm.2.2.2]; omega
      · rw [hm.2.2.2]; omega
      · dsimp only; omega
    | false =>
      refine ⟨false, Jx, HP.tt, rfl, ⟨fun _ => fin _ _ (.of fun R h H => ⟨none, HP.sep_left H⟩), fun h => (by cases h)⟩, HP.sep_tt hb⟩
  · exact fin _ _ (done ⟨hg, .inl (by omega)⟩)

def loopR {α : Type} (f : RS → α × RS) : Nat → RS → List α × RS
  | 0, s => ([], s)
  | n + 1, s => if s.2 then ([], s) else ((f s).1 :: (loopR f n (f s).2).1, (loopR f n (f s).2).2)
def listR {α : Type} (f : RS → α × RS) (most : Int) (s : RS) : List α × RS :=
  if (loopR f (toldR s most).1 (toldR s most).2).2.2 then ([], (loopR f (toldR s most).1 (toldR s most).2).2) else loopR f (toldR s most).1 (toldR s most).2
def entR (s : RS) : (Nm × Nat) × RS := (((bytesR s 16).1, (numR (bytesR s 16).2 1).1 % 256), (numR (bytesR s 16).2 1).2)
theorem convW6 {i : Nat} {S : HP} {a : Option Addr} {n c : Nat} {l : List UInt8} (hr : RdL S a n (l.map u8v)) (hl : l.length = n) : ORead Tryz.prog (semW (.convert 28 9 (.tmp i)) 9 [(i, .slice a n c)]) S (sE l) := by
  have := conv_ok (ρ := [.v (.slice a n c)]) (i := i) (x := .w (.a (.val 0))) (S := S) (a := a) (n := n) (c := c) (l := l) rfl hr hl
  rw [semW_eq] at this
  exact this
theorem takeEntry_ok (b : Nat) (s : RS) : Tri Tryz.prog 159 #[.pointer (some ⟨b, 0, none⟩)] (RRep b s)
    (fun v => HP.and (v = .agg #[sE (entR s).1.1, .int .i64 (entR s).1.2]) (RRep b (entR s).2)) := by
  refine tri_of_tree (ρ := [.n b, .p (RRep b s)]) mixed Tryz.func159 tree_takeEntry ?_
  unfold t_takeEntry
  simp only [T.den, E.prop, E.den, RX.look, F1.app, F2.app, Uni.int_i, Uni.nat_n, Uni.bool_c, Uni.str_s, Uni.adr_a, Uni.val_v, Uni.hp_p, hden, cden, V.den, W.den, A.den, BR.den, SA.den, FV.den, capV, exs, exP, allP, Cur.app, List.map_cons, List.map_nil, List.cons_append, List.nil_append, List.drop_succ_cons, List.drop_zero, List.length_cons, List.length_nil, Nat.zero_add, Nat.reduceAdd, Int.neg_neg, Bool.not_not, List.append_nil, Nat.add_zero, List.getElem?_cons_zero, List.getElem?_cons_succ, Decidable.not_not, semW_eq, ne_eq, Nat.reduceEqDiff, not_false_eq_true]
  intro x
  refine (rBytes_ok b s 16).weak (fun _ _ h => h) ?_
  rintro v R h ⟨a, c, rfl, H⟩
  refine ⟨a, _, c, OwB a _ c (bytesR s 16).1, RRep b (bytesR s 16).2, rfl, ?_, HP.sep_comm H⟩
  refine ⟨(bytesR s 16).1, convW6 (RdL.ow _ _ _ _ _ _) rfl, ?_⟩
  refine (rByte_ok b (bytesR s 16).2).weak (fun _ _ h => h) ?_
  rintro v R h ⟨rfl, H⟩
  exact ⟨_, _, rfl, ⟨inI64 _ (by omega) (by omega), fun _ => .of fun R h H => ⟨rfl, H⟩⟩, H⟩
abbrev OwE (a : Option Addr) (n c : Nat) (l : List (Nm × Nat)) : HP := OwC 140 2 a n c (l.flatMap entV)
theorem appE (a : Option Addr) (n c : Nat) (l : List (Nm × Nat)) (e : Nat) (x : Nm × Nat) (hn : n ≤ 1000000000) :
    OTri Tryz.prog (appS 41 41 (.slice a n c) (.slice (some ⟨e, 0, none⟩) 1 1)) (HP.sep (OwE a n c l) (HP.one e (.cells #[sE x.1, .int .i64 x.2] 140 (0, 0))))
      (fun v => HP.ex fun a' => HP.ex fun c' => HP.and (v = .slice a' (n + 1) c') (HP.sep (OwE a' (n + 1) c' (l ++ [x])) (HP.one e (.cells #[sE x.1, .int .i64 x.2] 140 (0, 0))))) := by
  obtain ⟨i, z, hi, h1, h2, h3, h4⟩ := info_pz infoEnt
  have := append_ok 41 41 140 i z undEs hi h1 (by rw [h2, h3]) (by omega) a n c (l.flatMap entV) (HP.one e (.cells #[sE x.1, .int .i64 x.2] 140 (0, 0))) ⟨e, 0, none⟩ 1 1 (entV x) (one_rd e #[sE x.1, .int .i64 x.2] _) (by rw [h3]; rfl) (kEntP.one x) (by unfold maxLen; omega) (by rw [h4]; omega)
  rw [h3] at this
  simp only [OwE, List.flatMap_append, List.flatMap_cons, List.flatMap_nil, List.append_nil]
  exact this
theorem toldR_lt (s : RS) (most : Int) : (toldR s most).1 ≤ 4294967295 := by
  have := numR_lt s 4
  unfold toldR
  split
  · exact Nat.zero_le _
  · split
    · exact Nat.zero_le _
    · show (numR s 4).1 ≤ _; omega
theorem takeR_false {s : RS} {n : Nat} (h : (takeR s n).2.2 = false) : s.2 = false ∧ (takeR s n).2.1.length + n = s.1.length := by
  unfold takeR at h ⊢
  split at h
  · rename_i e; rw [e] at h; cases h
  · rename_i e
    split at h
    · cases h
    · rw [if_neg e, if_neg (by assumption)]
      exact ⟨by simpa using e, by simp; omega⟩
theorem numR_false {s : RS} {n : Nat} (h : (numR s n).2.2 = false) : s.2 = false ∧ (numR s n).2.1.length + n = s.1.length := takeR_false h
theorem toldR_false {s : RS} {m : Int} (h : (toldR s m).2.2 = false) : s.2 = false ∧ (toldR s m).2.1.length + 4 = s.1.length := by
  unfold toldR at h ⊢
  split at h
  · rename_i e; rw [e] at h; cases h
  · rename_i e
    split at h
    · cases h
    · rw [if_neg e, if_neg (by assumption)]; exact numR_false h
theorem bytesR_false {s : RS} {m : Int} (h : (bytesR s m).2.2 = false) : s.2 = false ∧ (bytesR s m).2.1.length + 4 ≤ s.1.length := by
  have h1 := takeR_false h
  have h2 := toldR_false h1.1
  refine ⟨h2.1, ?_⟩
  have := h1.2
  unfold bytesR
  omega
theorem takeR_le (s : RS) (n : Nat) : (takeR s n).2.1.length ≤ s.1.length := by
  unfold takeR; split
  · exact Nat.le_refl _
  · split <;> simp
theorem toldR_len (s : RS) (m : Int) : (toldR s m).2.1.length ≤ s.1.length := by
  have := takeR_le s 4
  unfold toldR
  split
  · exact this
  · split
    · simp
    · exact this
def Shrinks {α : Type} (f : RS → α × RS) : Prop := ∀ s, (f s).2.2 = false → (f s).2.1.length + 1 ≤ s.1.length
theorem entR_shrinks : Shrinks entR := fun s h => by
  have h1 := numR_false h
  have h2 := bytesR_false h1.1
  have := h1.2
  show (numR (bytesR s 16).2 1).2.1.length + 1 ≤ _
  omega
theorem loopR_step {α : Type} (f : RS → α × RS) {n i : Nat} {s : RS} (hi : i < n) (hs : s.2 = false) : loopR f (n - i) s = ((f s).1 :: (loopR f (n - (i + 1)) (f s).2).1, (loopR f (n - (i + 1)) (f s).2).2) := by
  rw [show n - i = (n - (i + 1)) + 1 by omega]
  conv => lhs; unfold loopR
  rw [if_neg (by simp [hs])]
theorem loopR_end {α : Type} (f : RS → α × RS) {n : Nat} {s : RS} (h : n = 0 ∨ s.2 = true) : loopR f n s = ([], s) := by
  cases n with
  | zero => rfl
  | succ n => unfold loopR; rw [if_pos (h.resolve_left (by omega))]
def Sofar {α : Type} (f : RS → α × RS) (n : Nat) (s1 : RS) (g : Nat × RS) (ll : List α) : Prop :=
  g.1 ≤ n ∧ (g.2.2 = false → ll.length + g.2.1.length ≤ s1.1.length) ∧ loopR f n s1 = (ll ++ (loopR f (n - g.1) g.2).1, (loopR f (n - g.1) g.2).2)
theorem Sofar.init {α : Type} (f : RS → α × RS) (n : Nat) (s1 : RS) : Sofar f n s1 (0, s1) [] := ⟨Nat.zero_le _, fun _ => by simp, by simp⟩
theorem Sofar.next {α : Type} {f : RS → α × RS} (hf : Shrinks f) {n : Nat} {s1 : RS} {g : Nat × RS} {ll : List α} (h : Sofar f n s1 g ll) (hi : g.1 < n) (hs : g.2.2 = false) : Sofar f n s1 (g.1 + 1, (f g.2).2) (ll ++ [(f g.2).1]) := by
  refine ⟨hi, fun hw => ?_, ?_⟩
  · have h1 := hf g.2 hw
    have h2 := h.2.1 hs
    simp only [List.length_append, List.length_singleton]
    omega
  · rw [h.2.2, loopR_step f hi hs]; simp
theorem Sofar.fin {α : Type} {f : RS → α × RS} {n : Nat} {s1 : RS} {g : Nat × RS} {ll : List α} (h : Sofar f n s1 g ll) (hf : finT n g) : loopR f n s1 = (ll, g.2) := by
  rw [h.2.2, loopR_end f (hf.2.imp (fun e => by omega) id)]; simp
theorem listEntries_ok (b : Nat) (s : RS) (most : Int) (hL : s.1.length ≤ 1000000000) : Tri Tryz.prog 158 #[.pointer (some ⟨b, 0, none⟩), .int .i64 most, .func (.func 159) #[] #[]] (RRep b s)
    (fun v => HP.ex fun a => HP.ex fun c => HP.and (v = .slice a (listR entR most s).1.length c) (HP.sep (OwE a (listR entR most s).1.length c (listR entR most s).1) (RRep b (listR entR most s).2))) := by
  refine tri_of_tree (ρ := [.n b, .p (RRep b s), .i most, .v (.func (.func 159) #[] #[]), .p HP.tt]) mixed Tryz.func158 tree_listEntries ?_
  unfold t_listEntries
  simp only [T.den, E.prop, E.den, RX.look, F1.app, F2.app, Uni.int_i, Uni.nat_n, Uni.bool_c, Uni.str_s, Uni.adr_a, Uni.val_v, Uni.hp_p, hden, cden, V.den, W.den, A.den, BR.den, SA.den, FV.den, capV, exs, exP, allP, Cur.app, List.map_cons, List.map_nil, List.cons_append, List.nil_append, List.drop_succ_cons, List.drop_zero, List.length_cons, List.length_nil, Nat.zero_add, Nat.reduceAdd, Int.neg_neg, Bool.not_not, List.append_nil, Nat.add_zero, List.getElem?_cons_zero, List.getElem?_cons_succ, Decidable.not_not, semW_eq, semW_load, semW_append, ne_eq, Nat.reduceEqDiff, not_false_eq_true]
  intro x y
  refine (rTold_ok b s most).weak (fun _ _ h => h) ?_
  rintro v R h ⟨rfl, H⟩
  refine ⟨_, _, rfl, fun z => ?_, H⟩
  refine (turns_ok b _ (RRep b (toldR s most).2)).weak (fun _ _ h => h) ?_
  rintro v R h ⟨nb, rb, rfl, H⟩
  refine ⟨.func (.func 204) #[] #[.pointer (some ⟨nb, 0, none⟩), .pointer (some ⟨rb, 0, none⟩)], TBox nb rb b _, rfl, fun u => ?_, H⟩
  have hn := toldR_lt s most
  have hL1 : (toldR s most).2.1.length ≤ 1000000000 := Nat.le_trans (toldR_len s most) hL
  have hlist : listR entR most s = if (loopR entR (toldR s most).1 (toldR s most).2).2.2 then ([], (loopR entR (toldR s most).1 (toldR s most).2).2) else loopR entR (toldR s most).1 (toldR s most).2 := rfl
  generalize hN : (toldR s most).1 = N at *
  generalize hS1 : (toldR s most).2 = s1 at *
  refine ⟨Nat × RS, fun g => RRep b g.2, fun _ _ => HP.tt, mayT N, finT N, (0, s1), fun g p a n c q => p = RRep b g.2 ∧ ∃ ll, n = ll.length ∧ HP.ent q (OwE a n c ll) ∧ Sofar entR N s1 g ll, turns_seq nb rb b N (by omega) s1, ?_, ?_, ?_, ?_⟩
  · exact ⟨rfl, [], rfl, .of fun R h _ => OwC.nil _ _ R h, Sofar.init _ _ _⟩
  · rintro g p a n c q ⟨rfl, _⟩; rfl
  · rintro g args ⟨g', rfl, hi, hw, _⟩ p a n c q ⟨rfl, ll, rfl, hq, hs⟩
    refine ⟨(g.1 : Int), rfl, .of fun _ _ _ => trivial, ?_⟩
    refine (takeEntry_ok b g.2).weak (fun _ _ h => h) ?_
    rintro v R h ⟨rfl, H⟩
    refine ⟨_, _, _, rfl, fun e => ?_, H⟩
    have hll : ll.length ≤ 1000000000 := by have := hs.2.1 hw; omega
    refine (appE a ll.length c ll e (entR g.2).1 hll).conseq ((hq.sep _).trans (.of fun _ _ => HP.sep_tt)) fun v => .of fun R h H => ?_
    obtain ⟨a', c', rfl, H'⟩ := HP.sep_left H
    exact ⟨a', _, c', _, rfl, ⟨(g.1 + 1, (entR g.2).2), ⟨rfl, hi, hw, rfl⟩, rfl, ll ++ [(entR g.2).1], by simp, HP.ent.refl _, hs.next entR_shrinks hi hw⟩, H'⟩
  · rintro g hf p a n c q ⟨rfl, ll, rfl, hq, hs⟩
    have hfin := hs.fin hf
    rw [hfin] at hlist
    refine ⟨g.2.2, rrep_rd b g.2, fun hw => .of fun R h H => ?_, fun hw => ((HP.ent.refl _).sep2 hq).trans (.of fun R h H => ?_)⟩
    · rw [hlist, if_pos hw]
      exact ⟨none, 0, rfl, HP.sep_comm (HP.sep_mono (HP.sep_tt H) (fun _ h => h) fun y _ => OwC.nil _ _ R y)⟩
    · rw [hlist, if_neg hw]
      exact ⟨a, c, rfl, HP.sep_comm H⟩
end Go.Proofs.YtdieogcemmnaaaaGreatDoor



namespace Go.Proofs.YtdieogcemmnaaaaGreatDoor
set_option linter.unusedSimpArgs false
set_option linter.unusedVariables false
open Go.Proofs.YtdieogcemmnaaaaGreatDoor RX
set_option maxRecDepth 100000

def nodeR (s : RS) : Nd × RS :=
  (⟨(numR s 1).1 % 256, (((numR (numR s 1).2 1).1 % 256 : Nat) : Int), intOf64 (numR (numR (numR s 1).2 1).2 2).1, (bytesR (numR (numR (numR s 1).2 1).2 2).2 512).1, (listR entR 9223372036854775807 (bytesR (numR (numR (numR s 1).2 1).2 2).2 512).2).1⟩,
   (listR entR 9223372036854775807 (bytesR (numR (numR (numR s 1).2 1).2 2).2 512).2).2)
theorem numR_le (s : RS) (n : Nat) : (numR s n).2.1.length ≤ s.1.length := takeR_le s n
theorem bytesR_le (s : RS) (m : Int) : (bytesR s m).2.1.length ≤ s.1.length := Nat.le_trans (takeR_le _ _) (toldR_len s m)
theorem shareE (a : Option Addr) (n c : Nat) (l : List (Nm × Nat)) (hl : l.length = n) : HP.ent (OwE a n c l) (Ls kEnt a n l) := fun R h d H => by
  obtain ⟨R1, h1, q1, q2, q3, q4, H1⟩ := OwC.share _ _ _ _ _ _ R h d H
  exact ⟨R1, h1, q1, q2, q3, q4, hl, H1, fun _ _ => trivial⟩
theorem takeNode_ok (b : Nat) (s : RS) (hL : s.1.length ≤ 1000000000) : Tri Tryz.prog 88 #[.pointer (some ⟨b, 0, none⟩)] (RRep b s)
    (fun v => HP.ex fun x : NodeE => HP.and (v = .agg (nodeVs x).toArray ∧ x.nd = (nodeR s).1) (HP.sep (RoB x.da x.nd.data.length x.nd.data) (HP.sep (Ls kEnt x.ea x.nd.ents.length x.nd.ents) (RRep b (nodeR s).2)))) := by
  refine tri_of_tree (ρ := [.n b, .p (RRep b s)]) mixed Tryz.func88 tree_takeNode ?_
  unfold t_takeNode
  simp only [T.den, E.prop, E.den, RX.look, F1.app, F2.app, Uni.int_i, Uni.nat_n, Uni.bool_c, Uni.str_s, Uni.adr_a, Uni.val_v, Uni.hp_p, hden, cden, V.den, W.den, A.den, BR.den, SA.den, FV.den, capV, exs, exP, allP, Cur.app, List.map_cons, List.map_nil, List.cons_append, List.nil_append, List.drop_succ_cons, List.drop_zero, List.length_cons, List.length_nil, Nat.zero_add, Nat.reduceAdd, Int.neg_neg, Bool.not_not, List.append_nil, Nat.add_zero, List.getElem?_cons_zero, List.getElem?_cons_succ, Decidable.not_not, semW_eq, ne_eq, Nat.reduceEqDiff, not_false_eq_true]
  intro x y
  refine (rByte_ok b s).weak (fun _ _ h => h) ?_
  rintro v R h ⟨rfl, H⟩
  refine ⟨_, _, rfl, ⟨inI64 _ (by omega) (by omega), fun _ => ?_⟩, H⟩
  refine (rByte_ok b _).weak (fun _ _ h => h) ?_
  rintro v R h ⟨rfl, H⟩
  refine ⟨_, _, rfl, ⟨inI64 _ (by omega) (by omega), fun _ => ?_⟩, H⟩
  refine (rNumber_ok b _ 2 (by omega)).weak (fun _ _ h => h) ?_
  rintro v R h ⟨rfl, H⟩
  refine ⟨_, _, rfl, ?_, H⟩
  refine (rBytes_ok b _ 512).weak (fun _ _ h => h) ?_
  rintro v R h ⟨da, dc, rfl, H⟩
  refine ⟨da, _, dc, _, _, rfl, ?_, HP.sep_comm H⟩
  refine (listEntries_ok b _ 9223372036854775807 ?_).weak (fun _ _ h => h) ?_
  · exact Nat.le_trans (bytesR_le _ _) (Nat.le_trans (numR_le _ _) (Nat.le_trans (numR_le _ _) (Nat.le_trans (numR_le _ _) hL)))
  rintro v R h ⟨ea, ec, rfl, H⟩
  refine ⟨ea, _, ec, _, _, rfl, ?_, H⟩
  refine (HP.ent.sep2 (HP.ent.refl _) (HP.ent.sep2 (OwC.share _ _ _ _ _ _) (shareE _ _ _ _ rfl))).trans (.of fun R h H => ?_)
  exact ⟨⟨(nodeR s).1, da, dc, ea, ec⟩, ⟨rfl, rfl⟩, HP.sep_assoc (HP.sep_comm H)⟩
def OwN (a : Option Addr) (n c : Nat) (es : List NodeE) : HP := ⟨fun R h => (OwC 43 5 a n c (es.flatMap nodeVs)).p R h ∧ ∀ x ∈ es, (nodeHp x).p R h,
  fun lR lh ⟨h1, h2⟩ => ⟨(OwC 43 5 a n c (es.flatMap nodeVs)).mono lR lh h1, fun x hx => (nodeHp x).mono lR lh (h2 x hx)⟩⟩
def AllN (es : List NodeE) : HP := ⟨fun R h => ∀ x ∈ es, (nodeHp x).p R h, fun lR lh h2 x hx => (nodeHp x).mono lR lh (h2 x hx)⟩
theorem appN (a : Option Addr) (n c : Nat) (es : List NodeE) (e : Nat) (x : NodeE) (hn : n ≤ 1000000000) :
    OTri Tryz.prog (appS 36 36 (.slice a n c) (.slice (some ⟨e, 0, none⟩) 1 1)) (HP.sep (OwN a n c es) (HP.sep (HP.one e (.cells (nodeVs x).toArray 43 (0, 0))) (HP.sep (RoB x.da x.nd.data.length x.nd.data) (Ls kEnt x.ea x.nd.ents.length x.nd.ents))))
      (fun v => HP.ex fun a' => HP.ex fun c' => HP.and (v = .slice a' (n + 1) c') (HP.sep (OwN a' (n + 1) c' (es ++ [x])) (HP.sep (HP.one e (.cells (nodeVs x).toArray 43 (0, 0))) (HP.sep (RoB x.da x.nd.data.length x.nd.data) (Ls kEnt x.ea x.nd.ents.length x.nd.ents))))) := by
  obtain ⟨i, z, hi, h1, h2, h3, h4⟩ := info_pz infoNd
  have := append_ok 36 36 43 i z undNs hi h1 (by rw [h2, h3]) (by omega) a n c (es.flatMap nodeVs) (HP.one e (.cells (nodeVs x).toArray 43 (0, 0))) ⟨e, 0, none⟩ 1 1 (nodeVs x) (one_rd e (nodeVs x).toArray _) (by rw [h3]; rfl) (kNodeP.one x) (by unfold maxLen; omega) (by rw [h4]; omega)
  rw [h3] at this
  refine this.conseq (K := AllN (es ++ [x])) (.of fun R h H => ?_) fun v => .of fun R h H => ?_
  · obtain ⟨y1, y2, d, l1, l2, hO, ⟨y3, y4, d', l3, l4, hc, hDE⟩⟩ := H
    refine ⟨h, PH.none', PH.dj_none _, PH.le.refl _, PH.none_le _, ⟨y1, y2, d, l1, l2, hO.1, (HP.one _ _).mono (PH.le.refl _) l3 hc⟩, fun z hz => ?_⟩
    rcases List.mem_append.1 hz with hz | hz
    · exact nodeHp_pers _ _ _ _ (hO.2 z hz)
    · obtain rfl := List.mem_singleton.1 hz
      exact nodeHp_pers _ _ y4 _ ⟨HP.sep_left hDE, HP.sep_right hDE⟩
  · have hK := HP.sep_right H
    obtain ⟨a', c', rfl, y1, y2, d, l1, l2, hO, hc⟩ := HP.sep_left H
    have hx := nodeHp_pers _ _ _ PH.none' (hK x (by simp))
    refine ⟨a', c', rfl, y1, y2, d, l1, l2, ⟨by simpa using hO, fun z hz => nodeHp_pers _ _ _ _ (hK z hz)⟩, y2, PH.none', PH.dj_none _, PH.le.refl _, PH.none_le _, hc, PH.none', PH.none', PH.dj_none _, PH.le.refl _, PH.le.refl _, hx.1, hx.2⟩
theorem loopR_false {α : Type} {f : RS → α × RS} {n : Nat} {s : RS} (h : (loopR f n s).2.2 = false) : s.2 = false := by
  cases hs : s.2 with
  | false => rfl
  | true => rw [loopR_end f (.inr hs)] at h; rw [hs] at h; cases h
theorem loopR_le {α : Type} {f : RS → α × RS} (hf : ∀ s, (f s).2.1.length ≤ s.1.length) : ∀ (n : Nat) (s : RS), (loopR f n s).2.1.length ≤ s.1.length
  | 0, s => Nat.le_refl _
  | n + 1, s => by
    unfold loopR
    split
    · exact Nat.le_refl _
    · exact Nat.le_trans (loopR_le hf n _) (hf s)
theorem listR_snd {α : Type} (f : RS → α × RS) (m : Int) (s : RS) : (listR f m s).2 = (loopR f (toldR s m).1 (toldR s m).2).2 := by
  unfold listR; split <;> rfl
theorem entR_le (s : RS) : (entR s).2.1.length ≤ s.1.length := Nat.le_trans (numR_le _ _) (bytesR_le _ _)
theorem listR_le {α : Type} {f : RS → α × RS} (hf : ∀ s, (f s).2.1.length ≤ s.1.length) (m : Int) (s : RS) : (listR f m s).2.1.length ≤ s.1.length := by
  rw [listR_snd]; exact Nat.le_trans (loopR_le hf _ _) (toldR_len s m)
theorem listR_false {α : Type} {f : RS → α × RS} {m : Int} {s : RS} (h : (listR f m s).2.2 = false) : s.2 = false := by
  rw [listR_snd] at h; exact (toldR_false (loopR_false h)).1
theorem nodeR_shrinks : Shrinks nodeR := fun s h => by
  have h5 := listR_false (f := entR) h
  have h4 := (bytesR_false h5).1
  have h3 := (numR_false h4).1
  have h2 := (numR_false h3).1
  have h1 := (numR_false h2).2
  have a1 := listR_le (f := entR) entR_le 9223372036854775807 (bytesR (numR (numR (numR s 1).2 1).2 2).2 512).2
  have a2 := bytesR_le (numR (numR (numR s 1).2 1).2 2).2 512
  have a3 := numR_le (numR (numR s 1).2 1).2 2
  have a4 := numR_le (numR s 1).2 1
  show (listR entR 9223372036854775807 (bytesR (numR (numR (numR s 1).2 1).2 2).2 512).2).2.1.length + 1 ≤ _
  omega
theorem listNodes_ok (b : Nat) (s : RS) (most : Int) (hL : s.1.length ≤ 1000000000) : Tri Tryz.prog 87 #[.pointer (some ⟨b, 0, none⟩), .int .i64 most, .func (.func 88) #[] #[]] (RRep b s)
    (fun v => HP.ex fun a => HP.ex fun c => HP.ex fun es : List NodeE => HP.and (v = .slice a es.length c ∧ es.map (·.nd) = (listR nodeR most s).1) (HP.sep (OwN a es.length c es) (RRep b (listR nodeR most s).2))) := by
  refine tri_of_tree (ρ := [.n b, .p (RRep b s), .i most, .v (.func (.func 88) #[] #[]), .p HP.tt]) mixed Tryz.func87 tree_listNodes ?_
  unfold t_listNodes
  simp only [T.den, E.prop, E.den, RX.look, F1.app, F2.app, Uni.int_i, Uni.nat_n, Uni.bool_c, Uni.str_s, Uni.adr_a, Uni.val_v, Uni.hp_p, hden, cden, V.den, W.den, A.den, BR.den, SA.den, FV.den, capV, exs, exP, allP, Cur.app, List.map_cons, List.map_nil, List.cons_append, List.nil_append, List.drop_succ_cons, List.drop_zero, List.length_cons, List.length_nil, Nat.zero_add, Nat.reduceAdd, Int.neg_neg, Bool.not_not, List.append_nil, Nat.add_zero, List.getElem?_cons_zero, List.getElem?_cons_succ, Decidable.not_not, semW_eq, semW_load, semW_append, ne_eq, Nat.reduceEqDiff, not_false_eq_true]
  intro x y
  refine (rTold_ok b s most).weak (fun _ _ h => h) ?_
  rintro v R h ⟨rfl, H⟩
  refine ⟨_, _, rfl, fun z => ?_, H⟩
  refine (turns_ok b _ (RRep b (toldR s most).2)).weak (fun _ _ h => h) ?_
  rintro v R h ⟨nb, rb, rfl, H⟩
  refine ⟨.func (.func 204) #[] #[.pointer (some ⟨nb, 0, none⟩), .pointer (some ⟨rb, 0, none⟩)], TBox nb rb b _, rfl, fun u => ?_, H⟩
  have hn := toldR_lt s most
  have hL1 : (toldR s most).2.1.length ≤ 1000000000 := Nat.le_trans (toldR_len s most) hL
  have hlist : listR nodeR most s = if (loopR nodeR (toldR s most).1 (toldR s most).2).2.2 then ([], (loopR nodeR (toldR s most).1 (toldR s most).2).2) else loopR nodeR (toldR s most).1 (toldR s most).2 := rfl
  generalize hN : (toldR s most).1 = N at *
  generalize hS1 : (toldR s most).2 = s1 at *
  refine ⟨Nat × RS, fun g => RRep b g.2, fun _ _ => HP.tt, mayT N, finT N, (0, s1), fun g p a n c q => p = RRep b g.2 ∧ g.2.1.length ≤ 1000000000 ∧ ∃ es : List NodeE, n = es.length ∧ HP.ent q (OwN a n c es) ∧ Sofar nodeR N s1 g (es.map (·.nd)), turns_seq nb rb b N (by omega) s1, ?_, ?_, ?_, ?_⟩
  · exact ⟨rfl, hL1, [], rfl, .of fun R h _ => ⟨OwC.nil _ _ R h, fun _ h => by cases h⟩, Sofar.init _ _ _⟩
  · rintro g p a n c q ⟨rfl, _⟩; rfl
  · rintro g args ⟨g', rfl, hi, hw, _⟩ p a n c q ⟨rfl, hg, es, rfl, hq, hs⟩
    refine ⟨(g.1 : Int), rfl, .of fun _ _ _ => trivial, ?_⟩
    refine (takeNode_ok b g.2 hg).weak (fun _ _ h => h) ?_
    rintro v R h ⟨x, ⟨rfl, hx⟩, H⟩
    refine ⟨_, _, _, _, _, _, _, _, _, _, _, _, rfl, fun e => ?_, H⟩
    have hll : es.length ≤ 1000000000 := by
      have := hs.2.1 hw
      simp only [List.length_map] at this; omega
    refine (appN a es.length c es e x hll).conseq ((hq.sep _).trans (.of fun _ _ => HP.sep_tt)) fun v => .of fun R h H => ?_
    obtain ⟨a', c', rfl, H'⟩ := HP.sep_left H
    have hnx := hs.next nodeR_shrinks hi hw
    refine ⟨a', _, c', _, rfl, ⟨(g.1 + 1, (nodeR g.2).2), ⟨rfl, hi, hw, rfl⟩, rfl, ?_, es ++ [x], by simp, HP.ent.refl _, by rw [List.map_append, List.map_singleton, hx]; exact hnx⟩, H'⟩
    exact Nat.le_trans (listR_le (f := entR) entR_le _ _) (Nat.le_trans (bytesR_le _ _) (Nat.le_trans (numR_le _ _) (Nat.le_trans (numR_le _ _) (Nat.le_trans (numR_le _ _) hg))))
  · rintro g hf p a n c q ⟨rfl, hg, es, rfl, hq, hs⟩
    have hfin := hs.fin hf
    rw [hfin] at hlist
    refine ⟨g.2.2, rrep_rd b g.2, fun hw => .of fun R h H => ?_, fun hw => ((HP.ent.refl _).sep2 hq).trans (.of fun R h H => ?_)⟩
    · rw [hlist, if_pos hw]
      exact ⟨none, 0, [], ⟨rfl, rfl⟩, HP.sep_comm (HP.sep_mono (HP.sep_tt H) (fun _ h => h) fun y _ => ⟨OwC.nil _ _ R y, fun _ h => by cases h⟩)⟩
    · rw [hlist, if_neg hw]
      exact ⟨a, c, es, ⟨rfl, rfl⟩, HP.sep_comm H⟩
end Go.Proofs.YtdieogcemmnaaaaGreatDoor



namespace Go.Proofs.YtdieogcemmnaaaaGreatDoor.RX
set_option maxRecDepth 100000
-- tideline/entry.part: ρ := [.i n]
def t_ePart : T :=
(.br (.o2 .le (.i 0) (.v 0))
(.ret (.w (.a (.bool (.o2 .le (.v 0) (.i 2147483647))))) [])
(.ret (.w (.a (.bool (.c false)))) []))
theorem tree_ePart : tree Tryz.prog { } Tryz.f206 [.a (.int .i64 (.v 0))] [] 1 = t_ePart := by kernel_rfl
def t_eRight : T :=
(.new
(.br (.o1 .not (.o2 .eq (.v 0) (.i 1)))
(.br (.o1 .not (.o2 .eq (.v 0) (.i 2)))
(.ret (.w (.a (.bool (.c false)))) [(.a 6, .prop 9)])
(.call 206 [.a (.int .i64 (.v 1))] [] [.c] (.w (.a (.bool (.v 11)))) []
(.br (.o1 .not (.v 11))
(.ret (.w (.a (.bool (.c false)))) [(.a 6, .prop 9)])
(.call 206 [.a (.int .i64 (.v 2))] [] [.c] (.w (.a (.bool (.v 12)))) []
(.br (.o1 .not (.v 12))
(.ret (.w (.a (.bool (.c false)))) [(.a 6, .prop 9)])
(.call 206 [.a (.int .i64 (.v 3))] [] [.c] (.w (.a (.bool (.v 13)))) []
(.br (.o1 .not (.v 13))
(.ret (.w (.a (.bool (.c false)))) [(.a 6, .prop 9)])
(.br (.o2 .lt (.v 4) (.i 0))
(.ret (.w (.a (.bool (.c false)))) [(.a 6, .prop 9)])
(.br (.o2 .le (.i 8) (.v 4))
(.ret (.w (.a (.bool (.c false)))) [(.a 6, .prop 9)])
(.br (.o2 .lt (.v 5) (.i (-1)))
(.ret (.w (.a (.bool (.c false)))) [(.a 6, .prop 9)])
(.br (.o2 .lt (.i 4294967296) (.v 5))
(.ret (.w (.a (.bool (.c false)))) [(.a 6, .prop 9)])
(.ret (.w (.a (.bool (.o2 .le (.o1 .ofNat (.v 7)) (.i 65506))))) [(.a 6, .prop 9)]))))))))))))
(.call 206 [.a (.int .i64 (.v 1))] [] [.c] (.w (.a (.bool (.v 11)))) []
(.br (.o1 .not (.v 11))
(.ret (.w (.a (.bool (.c false)))) [(.a 6, .prop 9)])
(.call 206 [.a (.int .i64 (.v 2))] [] [.c] (.w (.a (.bool (.v 12)))) []
(.br (.o1 .not (.v 12))
(.ret (.w (.a (.bool (.c false)))) [(.a 6, .prop 9)])
(.call 206 [.a (.int .i64 (.v 3))] [] [.c] (.w (.a (.bool (.v 13)))) []
(.br (.o1 .not (.v 13))
(.ret (.w (.a (.bool (.c false)))) [(.a 6, .prop 9)])
(.br (.o2 .lt (.v 4) (.i 0))
(.ret (.w (.a (.bool (.c false)))) [(.a 6, .prop 9)])
(.br (.o2 .le (.i 8) (.v 4))
(.ret (.w (.a (.bool (.c false)))) [(.a 6, .prop 9)])
(.br (.o2 .lt (.v 5) (.i (-1)))
(.ret (.w (.a (.bool (.c false)))) [(.a 6, .prop 9)])
(.br (.o2 .lt (.i 4294967296) (.v 5))
(.ret (.w (.a (.bool (.c false)))) [(.a 6, .prop 9)])
(.ret (.w (.a (.bool (.o2 .le (.o1 .ofNat (.v 7)) (.i 65506))))) [(.a 6, .prop 9)])))))))))))))
theorem tree_eRight : tree Tryz.prog { } Tryz.f163 [.agg [.int .i64 (.v 0), .int .i64 (.v 1), .int .i64 (.v 2), .int .i64 (.v 3), .int .i64 (.v 4), .int .i64 (.v 5), .sl (.v 6) (.v 7) (.v 8)]] [(.a 6, .prop 9)] 10 = t_eRight := by kernel_rfl
def t_eDecode : T :=
(.new
(.br (.o2 .lt (.i 65536) (.o1 .ofNat (.v 1)))
(.ret (.tup [.agg [.int .i64 (.i 0), .int .i64 (.i 0), .int .i64 (.i 0), .int .i64 (.i 0), .int .i64 (.i 0), .int .i64 (.i 0), .sl .nil (.n 0) (.n 0)], .a (.int .i64 (.i 3))]) [(.a 0, .prop 3)])
(.call 84 [.a (.sl (.v 0) (.v 1) (.v 2))] [(.a 0, .prop 3)] [.a, .n, .n, .p, .i, .p] (.tup [.a (.sl (.v 5) (.v 6) (.v 7)), .a (.int .i64 (.v 9))]) [(.a 5, .prop 8), (.a 0, .prop 10)]
(.br (.o1 .not (.o2 .eq (.v 9) (.i 0)))
(.ret (.tup [.agg [.int .i64 (.i 0), .int .i64 (.i 0), .int .i64 (.i 0), .int .i64 (.i 0), .int .i64 (.i 0), .int .i64 (.i 0), .sl .nil (.n 0) (.n 0)], .a (.int .i64 (.i 3))]) [(.a 0, .prop 10)])
(.call 85 [.a (.sl (.v 5) (.v 6) (.v 7))] [(.a 5, .prop 8)] [.n, .p, .p] (.w (.a (.ptr (.v 11) 0))) [(.b (.v 11), .prop 12), (.a 5, .prop 13)]
(.new
(.call 156 [.a (.ptr (.v 11) 0)] [(.b (.v 11), .prop 12)] [.i, .p] (.w (.a (.int .u8 (.v 15)))) [(.b (.v 11), .prop 16)]
(.need (.o1 (.inr .i64) (.v 15))
(.call 153 [.a (.ptr (.v 11) 0), .a (.int .i64 (.i 4))] [(.b (.v 11), .prop 16)] [.i, .p] (.w (.a (.int .u64 (.v 17)))) [(.b (.v 11), .prop 18)]
(.call 153 [.a (.ptr (.v 11) 0), .a (.int .i64 (.i 4))] [(.b (.v 11), .prop 18)] [.i, .p] (.w (.a (.int .u64 (.v 19)))) [(.b (.v 11), .prop 20)]
(.call 153 [.a (.ptr (.v 11) 0), .a (.int .i64 (.i 4))] [(.b (.v 11), .prop 20)] [.i, .p] (.w (.a (.int .u64 (.v 21)))) [(.b (.v 11), .prop 22)]
(.call 156 [.a (.ptr (.v 11) 0)] [(.b (.v 11), .prop 22)] [.i, .p] (.w (.a (.int .u8 (.v 23)))) [(.b (.v 11), .prop 24)]
(.need (.o1 (.inr .i64) (.v 23))
(.call 86 [.a (.ptr (.v 11) 0)] [(.b (.v 11), .prop 24)] [.i, .p] (.w (.a (.int .i64 (.v 25)))) [(.b (.v 11), .prop 26)]
(.call 157 [.a (.ptr (.v 11) 0), .a (.int .i64 (.i 65536))] [(.b (.v 11), .prop 26)] [.a, .n, .n, .p, .p] (.w (.a (.sl (.v 27) (.v 28) (.v 29)))) [(.a 27, .prop 30), (.b (.v 11), .prop 31)]
(.call 89 [.a (.ptr (.v 11) 0)] [(.b (.v 11), .prop 31)] [.i, .p] (.w (.a (.int .i64 (.v 32)))) [(.b (.v 11), .prop 33)]
(.br (.o1 .not (.o2 .eq (.v 32) (.i 0)))
(.ret (.tup [.agg [.int .i64 (.i 0), .int .i64 (.i 0), .int .i64 (.i 0), .int .i64 (.i 0), .int .i64 (.i 0), .int .i64 (.i 0), .sl .nil (.n 0) (.n 0)], .a (.int .i64 (.i 3))]) [(.a 0, .prop 10)])
(.call 163 [.agg [.int .i64 (.v 15), .int .i64 (.o1 (.wrap .i64) (.v 17)), .int .i64 (.o1 (.wrap .i64) (.v 19)), .int .i64 (.o1 (.wrap .i64) (.v 21)), .int .i64 (.v 23), .int .i64 (.v 25), .sl (.v 27) (.v 28) (.v 29)]] [(.a 27, .prop 30)] [.c, .p] (.w (.a (.bool (.v 34)))) [(.a 27, .prop 35)]
(.br (.o1 .not (.v 34))
(.ret (.tup [.agg [.int .i64 (.i 0), .int .i64 (.i 0), .int .i64 (.i 0), .int .i64 (.i 0), .int .i64 (.i 0), .int .i64 (.i 0), .sl .nil (.n 0) (.n 0)], .a (.int .i64 (.i 3))]) [(.a 0, .prop 10)])
(.ret (.tup [.agg [.int .i64 (.v 15), .int .i64 (.o1 (.wrap .i64) (.v 17)), .int .i64 (.o1 (.wrap .i64) (.v 19)), .int .i64 (.o1 (.wrap .i64) (.v 21)), .int .i64 (.v 23), .int .i64 (.v 25), .sl (.v 27) (.v 28) (.v 29)], .a (.int .i64 (.i 0))]) [(.a 0, .prop 10), (.a 27, .prop 35)]))))))))))))))))))))
theorem tree_eDecode : tree Tryz.prog { } Tryz.f98 [.a (.sl (.v 0) (.v 1) (.v 2))] [(.a 0, .prop 3)] 4 = t_eDecode := by kernel_rfl
def t_cDecode : T :=
(.new
(.call 84 [.a (.sl (.v 0) (.v 1) (.v 2))] [(.a 0, .prop 3)] [.a, .n, .n, .p, .i, .p] (.tup [.a (.sl (.v 5) (.v 6) (.v 7)), .a (.int .i64 (.v 9))]) [(.a 5, .prop 8), (.a 0, .prop 10)]
(.br (.o1 .not (.o2 .eq (.v 9) (.i 0)))
(.ret (.tup [.agg [.int .i64 (.i 0), .str (.s []), .str (.s []), .int .i64 (.i 0), .int .i64 (.i 0), .sl .nil (.n 0) (.n 0)], .a (.int .i64 (.i 3))]) [(.a 0, .prop 10)])
(.call 85 [.a (.sl (.v 5) (.v 6) (.v 7))] [(.a 5, .prop 8)] [.n, .p, .p] (.w (.a (.ptr (.v 11) 0))) [(.b (.v 11), .prop 12), (.a 5, .prop 13)]
(.new
(.call 156 [.a (.ptr (.v 11) 0)] [(.b (.v 11), .prop 12)] [.i, .p] (.w (.a (.int .u8 (.v 15)))) [(.b (.v 11), .prop 16)]
(.need (.o1 (.inr .i64) (.v 15))
(.call 157 [.a (.ptr (.v 11) 0), .a (.int .i64 (.i 300))] [(.b (.v 11), .prop 16)] [.a, .n, .n, .p, .p] (.w (.a (.sl (.v 17) (.v 18) (.v 19)))) [(.a 17, .prop 20), (.b (.v 11), .prop 21)]
(.read (.convert 28 9 (.tmp 23)) 9 [(23, .w (.a (.sl (.v 17) (.v 18) (.v 19))))] [(.a 17, .prop 20)] [.s] (.w (.a (.str (.v 22))))
(.call 157 [.a (.ptr (.v 11) 0), .a (.int .i64 (.i 300))] [(.b (.v 11), .prop 21)] [.a, .n, .n, .p, .p] (.w (.a (.sl (.v 23) (.v 24) (.v 25)))) [(.a 23, .prop 26), (.b (.v 11), .prop 27)]
(.read (.convert 28 9 (.tmp 27)) 9 [(27, .w (.a (.sl (.v 23) (.v 24) (.v 25))))] [(.a 23, .prop 26)] [.s] (.w (.a (.str (.v 28))))
(.call 86 [.a (.ptr (.v 11) 0)] [(.b (.v 11), .prop 27)] [.i, .p] (.w (.a (.int .i64 (.v 29)))) [(.b (.v 11), .prop 30)]
(.call 86 [.a (.ptr (.v 11) 0)] [(.b (.v 11), .prop 30)] [.i, .p] (.w (.a (.int .i64 (.v 31)))) [(.b (.v 11), .prop 32)]
(.call 157 [.a (.ptr (.v 11) 0), .a (.int .i64 (.i 4096))] [(.b (.v 11), .prop 32)] [.a, .n, .n, .p, .p] (.w (.a (.sl (.v 33) (.v 34) (.v 35)))) [(.a 33, .prop 36), (.b (.v 11), .prop 37)]
(.call 89 [.a (.ptr (.v 11) 0)] [(.b (.v 11), .prop 37)] [.i, .p] (.w (.a (.int .i64 (.v 38)))) [(.b (.v 11), .prop 39)]
(.br (.o1 .not (.o2 .eq (.v 38) (.i 0)))
(.ret (.tup [.agg [.int .i64 (.i 0), .str (.s []), .str (.s []), .int .i64 (.i 0), .int .i64 (.i 0), .sl .nil (.n 0) (.n 0)], .a (.int .i64 (.i 3))]) [(.a 0, .prop 10)])
(.ret (.tup [.agg [.int .i64 (.v 15), .str (.v 22), .str (.v 28), .int .i64 (.v 29), .int .i64 (.v 31), .sl (.v 33) (.v 34) (.v 35)], .a (.int .i64 (.i 0))]) [(.a 0, .prop 10), (.a 33, .prop 36)])))))))))))))))))
theorem tree_cDecode : tree Tryz.prog { } Tryz.f164 [.a (.sl (.v 0) (.v 1) (.v 2))] [(.a 0, .prop 3)] 4 = t_cDecode := by kernel_rfl
end Go.Proofs.YtdieogcemmnaaaaGreatDoor.RX



namespace Go.Proofs.YtdieogcemmnaaaaGreatDoor
set_option linter.unusedSimpArgs false
set_option linter.unusedVariables false
open Go.Proofs.YtdieogcemmnaaaaGreatDoor RX
set_option maxRecDepth 100000

structure LogM where
  kind : Int
  cl : Int
  bi : Int
  nu : Int
  st : Int
  bk : Int
  pl : List UInt8
def LogM.val (x : LogM) (a : Option Addr) (c : Nat) : Value := .agg #[.int .i64 x.kind, .int .i64 x.cl, .int .i64 x.bi, .int .i64 x.nu, .int .i64 x.st, .int .i64 x.bk, .slice a x.pl.length c]
def partOk (n : Int) : Bool := decide (0 ≤ n) && decide (n ≤ 2147483647)
def logOk (x : LogM) : Bool := (decide (x.kind = 1) || decide (x.kind = 2)) && partOk x.cl && partOk x.bi && partOk x.nu && decide (0 ≤ x.st) && decide (x.st < 8) && decide (-1 ≤ x.bk) && decide (x.bk ≤ 4294967296) && decide (x.pl.length ≤ 65506)
theorem ePart_ok (n : Int) : Tri Tryz.prog 206 #[.int .i64 n] HP.tt (fun v => HP.and (v = .bool (partOk n)) HP.tt) := by
  refine tri_of_tree (ρ := [.i n]) mixed Tryz.func206 tree_ePart ?_
  unfold t_ePart
  simp only [T.den, E.prop, E.den, RX.look, F1.app, F2.app, Uni.int_i, Uni.nat_n, Uni.bool_c, Uni.str_s, Uni.adr_a, Uni.val_v, Uni.hp_p, hden, cden, V.den, W.den, A.den, BR.den, SA.den, FV.den, capV, exs, exP, allP, Cur.app, List.map_cons, List.map_nil, List.cons_append, List.nil_append, List.drop_succ_cons, List.drop_zero, List.length_cons, List.length_nil, Nat.zero_add, Nat.reduceAdd, Int.neg_neg, Bool.not_not, List.append_nil, Nat.add_zero, List.getElem?_cons_zero, List.getElem?_cons_succ, Decidable.not_not, semW_eq, ne_eq, Nat.reduceEqDiff, not_false_eq_true]
  unfold partOk
  refine ⟨fun h => .of fun R x _ => ⟨?_, trivial⟩, fun h => .of fun R x _ => ⟨?_, trivial⟩⟩
  · have h' : 0 ≤ n := h
    rw [decide_eq_true h', Bool.true_and]; rfl
  · have h' : ¬ 0 ≤ n := h
    rw [decide_eq_false h', Bool.false_and]
theorem eRight_ok (x : LogM) (a : Option Addr) (c : Nat) (S : HP) : Tri Tryz.prog 163 #[x.val a c] S (fun v => HP.and (v = .bool (logOk x)) S) := by
  refine tri_of_tree (ρ := [.i x.kind, .i x.cl, .i x.bi, .i x.nu, .i x.st, .i x.bk, .a a, .n x.pl.length, .n c, .p S]) mixed Tryz.func163 tree_eRight ?_
  unfold t_eRight
  simp only [T.den, E.prop, E.den, RX.look, F1.app, F2.app, Uni.int_i, Uni.nat_n, Uni.bool_c, Uni.str_s, Uni.adr_a, Uni.val_v, Uni.hp_p, hden, cden, V.den, W.den, A.den, BR.den, SA.den, FV.den, capV, exs, exP, allP, Cur.app, List.map_cons, List.map_nil, List.cons_append, List.nil_append, List.drop_succ_cons, List.drop_zero, List.length_cons, List.length_nil, Nat.zero_add, Nat.reduceAdd, Int.neg_neg, Bool.not_not, List.append_nil, Nat.add_zero, List.getElem?_cons_zero, List.getElem?_cons_succ, Decidable.not_not, semW_eq, ne_eq, Nat.reduceEqDiff, not_false_eq_true]
  intro _
  have no : logOk x = false → HP.ent S (HP.and (Value.bool false = .bool (logOk x)) S) := fun h => .of fun R h' H => ⟨by rw [h], H⟩
  refine ⟨fun h1 => ⟨fun h2 => no ?_, fun h2 => ?_⟩, fun h1 => ?_⟩
  · unfold logOk; simp [h1, h2]
  · have hk' : (decide (x.kind = 1) || decide (x.kind = 2)) = true := by
      have h2 : x.kind = 2 := by simpa using h2
      simp [h2]
    clear h1 h2
    refine (ePart_ok x.cl).weak (fun _ _ h => h) ?_
    rintro v R h ⟨rfl, H⟩
    refine ⟨_, rfl, ⟨fun h => no ?_, fun h1 => ?_⟩, H⟩
    · unfold logOk; simp [h]
    refine (ePart_ok x.bi).weak (fun _ _ h => h) ?_
    rintro v R h ⟨rfl, H⟩
    refine ⟨_, rfl, ⟨fun h => no ?_, fun h2 => ?_⟩, H⟩
    · unfold logOk; simp [h]
    refine (ePart_ok x.nu).weak (fun _ _ h => h) ?_
    rintro v R h ⟨rfl, H⟩
    refine ⟨_, rfl, ⟨fun h => no ?_, fun h3 => ⟨fun h => no ?_, fun h4 => ⟨fun h => no ?_, fun h5 => ⟨fun h => no ?_, fun h6 => ⟨fun h => no ?_, fun h7 => .of fun R h' H => ⟨?_, H⟩⟩⟩⟩⟩⟩, H⟩
    · unfold logOk; simp [h]
    · unfold logOk; have : ¬ 0 ≤ x.st := by omega
      simp [this]
    · unfold logOk; have : ¬ x.st < 8 := by omega
      simp [this]
    · unfold logOk; have : ¬ -1 ≤ x.bk := by omega
      simp [this]
    · unfold logOk; have : ¬ x.bk ≤ 4294967296 := by omega
      simp [this]
    · have a1 : 0 ≤ x.st := by omega
      have a2 : x.st < 8 := by omega
      have a3 : -1 ≤ x.bk := by omega
      have a4 : x.bk ≤ 4294967296 := by omega
      have h1 : partOk x.cl = true := by simpa using h1
      have h2 : partOk x.bi = true := by simpa using h2
      have h3 : partOk x.nu = true := by simpa using h3
      unfold logOk
      rw [hk', h1, h2, h3]
      simp [a1, a2, a3, a4]
      omega
  · have hk' : (decide (x.kind = 1) || decide (x.kind = 2)) = true := by
      have h1 : x.kind = 1 := by simpa using h1
      simp [h1]
    clear h1
    refine (ePart_ok x.cl).weak (fun _ _ h => h) ?_
    rintro v R h ⟨rfl, H⟩
    refine ⟨_, rfl, ⟨fun h => no ?_, fun h1 => ?_⟩, H⟩
    · unfold logOk; simp [h]
    refine (ePart_ok x.bi).weak (fun _ _ h => h) ?_
    rintro v R h ⟨rfl, H⟩
    refine ⟨_, rfl, ⟨fun h => no ?_, fun h2 => ?_⟩, H⟩
    · unfold logOk; simp [h]
    refine (ePart_ok x.nu).weak (fun _ _ h => h) ?_
    rintro v R h ⟨rfl, H⟩
    refine ⟨_, rfl, ⟨fun h => no ?_, fun h3 => ⟨fun h => no ?_, fun h4 => ⟨fun h => no ?_, fun h5 => ⟨fun h => no ?_, fun h6 => ⟨fun h => no ?_, fun h7 => .of fun R h' H => ⟨?_, H⟩⟩⟩⟩⟩⟩, H⟩
    · unfold logOk; simp [h]
    · unfold logOk; have : ¬ 0 ≤ x.st := by omega
      simp [this]
    · unfold logOk; have : ¬ x.st < 8 := by omega
      simp [this]
    · unfold logOk; have : ¬ -1 ≤ x.bk := by omega
      simp [this]
    · unfold logOk; have : ¬ x.bk ≤ 4294967296 := by omega
      simp [this]
    · have a1 : 0 ≤ x.st := by omega
      have a2 : x.st < 8 := by omega
      have a3 : -1 ≤ x.bk := by omega
      have a4 : x.bk ≤ 4294967296 := by omega
      have h1 : partOk x.cl = true := by simpa using h1
      have h2 : partOk x.bi = true := by simpa using h2
      have h3 : partOk x.nu = true := by simpa using h3
      unfold logOk
      rw [hk', h1, h2, h3]
      simp [a1, a2, a3, a4]
      omega
def logR (s : RS) : LogM × RS :=
  let k := numR s 1
  let a := numR k.2 4
  let b := numR a.2 4
  let c := numR b.2 4
  let t := numR c.2 1
  let i := numR t.2 8
  let p := bytesR i.2 65536
  (⟨((k.1 % 256 : Nat) : Int), (a.1 : Int), (b.1 : Int), (c.1 : Int), ((t.1 % 256 : Nat) : Int), intOf64 i.1, p.1⟩, p.2)
def entD (l : List UInt8) : Option LogM := if 65536 < l.length then none else match unwrapS l with
  | none => none
  | some q => if (logR (q, false)).2.2 = true ∨ (logR (q, false)).2.1 ≠ [] then none else if logOk (logR (q, false)).1 = true then some (logR (q, false)).1 else none
def EntPost (l : List UInt8) (S : HP) (v : Value) : HP := match entD l with
  | none => HP.and (v = .tuple #[.agg #[.int .i64 0, .int .i64 0, .int .i64 0, .int .i64 0, .int .i64 0, .int .i64 0, .slice none 0 0], .int .i64 3]) S
  | some x => HP.ex fun a => HP.ex fun c => HP.and (v = .tuple #[x.val a c, .int .i64 0]) (HP.sep (OwB a x.pl.length c x.pl) S)
theorem wrapI (v : Nat) (h : v < 256 ^ 4) : IntKind.i64.wrap (v : Int) = v := by
  have h4 : (256 : Nat) ^ 4 = 4294967296 := by decide
  exact wrap_in ⟨by show (-9223372036854775808 : Int) ≤ _; omega, by show _ ≤ (9223372036854775807 : Int); omega⟩
set_option maxHeartbeats 1000000 in
theorem eDecode_ok (a : Option Addr) (n c : Nat) (l : List UInt8) (S : HP) (hr : RdL S a n (l.map u8v)) (hl : l.length = n) (hc : n ≤ c) (ha : n ≠ 0 → a.isSome = true) :
    Tri Tryz.prog 98 #[.slice a n c] S (EntPost l S) := by
  refine tri_of_tree (ρ := [.a a, .n n, .n c, .p S]) mixed Tryz.func98 tree_eDecode ?_
  unfold t_eDecode
  simp only [T.den, E.prop, E.den, RX.look, F1.app, F2.app, Uni.int_i, Uni.nat_n, Uni.bool_c, Uni.str_s, Uni.adr_a, Uni.val_v, Uni.hp_p, hden, cden, V.den, W.den, A.den, BR.den, SA.den, FV.den, capV, exs, exP, allP, Cur.app, List.map_cons, List.map_nil, List.cons_append, List.nil_append, List.drop_succ_cons, List.drop_zero, List.length_cons, List.length_nil, Nat.zero_add, Nat.reduceAdd, Int.neg_neg, Bool.not_not, List.append_nil, Nat.add_zero, List.getElem?_cons_zero, List.getElem?_cons_succ, Decidable.not_not, semW_eq, ne_eq, Nat.reduceEqDiff, not_false_eq_true]
  intro _
  have bad : entD l = none → ∀ {A : HP}, HP.ent A S → HP.ent A (EntPost l S (.tuple #[.agg #[.int .i64 0, .int .i64 0, .int .i64 0, .int .i64 0, .int .i64 0, .int .i64 0, .slice none 0 0], .int .i64 3])) := fun h A hA => by
    unfold EntPost; rw [h]; exact hA.trans (.of fun R h H => ⟨rfl, H⟩)
  refine ⟨fun h => bad ?_ (HP.ent.refl _), fun h => ?_⟩
  · unfold entD; rw [if_pos (by omega)]
  have hle : ¬ 65536 < l.length := by omega
  have hd0 : entD l = match unwrapS l with
    | none => none
    | some q => if (logR (q, false)).2.2 = true ∨ (logR (q, false)).2.1 ≠ [] then none else if logOk (logR (q, false)).1 = true then some (logR (q, false)).1 else none := by unfold entD; rw [if_neg hle]
  refine (unwrap_ok a n c l S hr hl hc ha (by omega)).weak (fun _ _ h => h) ?_
  rintro v R h ⟨a', c', rfl, H⟩
  refine ⟨a', _, c', OwB a' _ c' _, _, S, rfl, ?_, HP.sep_comm H⟩
  clear H
  cases hu : unwrapS l with
  | none =>
    rw [hu] at hd0
    exact ⟨fun _ => bad hd0 (HP.ent.refl _), fun h => (by simp at h)⟩
  | some q =>
    rw [hu] at hd0
    simp only at hd0
    refine ⟨fun h => absurd rfl h, fun _ => ?_⟩
    simp only [Option.getD_some]
    have hq : q.length ≤ 1000000 := by
      unfold unwrapS at hu
      split at hu
      · cases hu
      · split at hu
        · cases hu; rw [List.length_take]; omega
        · cases hu
    refine (rRead_ok a' _ c' q _ (RdL.ow _ _ _ _ _ _) rfl (by omega)).weak (fun _ _ h => h) ?_
    rintro v R h ⟨b, rfl, H⟩
    refine ⟨b, _, _, rfl, ?_, HP.sep_comm H⟩
    clear H
    intro _
    refine (rByte_ok b (q, false)).weak (fun _ _ h => h) ?_
    rintro v R h ⟨rfl, H⟩
    refine ⟨_, _, rfl, ⟨inI64 _ (by omega) (by omega), fun _ => ?_⟩, H⟩
    clear H
    refine (rNumber_ok b _ 4 (by omega)).weak (fun _ _ h => h) ?_
    rintro v R h ⟨rfl, H⟩
    refine ⟨_, _, rfl, ?_, H⟩
    clear H
    refine (rNumber_ok b _ 4 (by omega)).weak (fun _ _ h => h) ?_
    rintro v R h ⟨rfl, H⟩
    refine ⟨_, _, rfl, ?_, H⟩
    clear H
    refine (rNumber_ok b _ 4 (by omega)).weak (fun _ _ h => h) ?_
    rintro v R h ⟨rfl, H⟩
    refine ⟨_, _, rfl, ?_, H⟩
    clear H
    refine (rByte_ok b _).weak (fun _ _ h => h) ?_
    rintro v R h ⟨rfl, H⟩
    refine ⟨_, _, rfl, ⟨inI64 _ (by omega) (by omega), fun _ => ?_⟩, H⟩
    clear H
    refine (rInt_ok b _).weak (fun _ _ h => h) ?_
    rintro v R h ⟨rfl, H⟩
    refine ⟨_, _, rfl, ?_, H⟩
    clear H
    refine (rBytes_ok b _ 65536).weak (fun _ _ h => h) ?_
    rintro v R h ⟨pa, pc, rfl, H⟩
    refine ⟨pa, _, pc, _, _, rfl, ?_, HP.sep_comm H⟩
    clear H
    refine (rEnd_ok b _).weak (fun _ _ h => h) ?_
    rintro v R h ⟨rfl, H⟩
    refine ⟨_, _, rfl, ⟨fun h1 => bad ?_ (HP.ent.refl _), fun h1 => ?_⟩, H⟩
    · rw [hd0, if_pos]
      by_cases e : (logR (q, false)).2.2 = true ∨ (logR (q, false)).2.1 ≠ []
      · exact e
      · exact absurd (if_neg e) h1
    clear H
    have h1' : ¬ ((logR (q, false)).2.2 = true ∨ (logR (q, false)).2.1 ≠ []) := fun e => by
      have h3 : (if (logR (q, false)).2.2 = true ∨ (logR (q, false)).2.1 ≠ [] then (3 : Int) else 0) = 3 := if_pos e
      exact absurd (h3.symm.trans h1) (by decide)
    rw [if_neg h1'] at hd0
    rw [wrapI _ (numR_lt _ _), wrapI _ (numR_lt _ _), wrapI _ (numR_lt _ _)]
    refine (eRight_ok (logR (q, false)).1 pa pc _).weak (fun _ _ h => h) ?_
    rintro v R h ⟨rfl, H⟩
    refine ⟨_, _, rfl, ⟨fun h2 => bad ?_ (HP.ent.refl _), fun h2 => ?_⟩, H⟩
    · rw [hd0, if_neg h2]
    · have h2 : logOk (logR (q, false)).1 = true := by simpa using h2
      rw [if_pos h2] at hd0
      unfold EntPost
      rw [hd0]
      exact .of fun R h H => ⟨pa, pc, rfl, HP.sep_comm H⟩
structure CallP where
  kind : Int
  path : Nm
  other : Nm
  off : Int
  n : Int
  data : List UInt8
def CallP.val (x : CallP) (a : Option Addr) (c : Nat) : Value := .agg #[.int .i64 x.kind, sE x.path, sE x.other, .int .i64 x.off, .int .i64 x.n, .slice a x.data.length c]
def callR (s : RS) : CallP × RS :=
  let k := numR s 1
  let a := bytesR k.2 300
  let b := bytesR a.2 300
  let o := numR b.2 8
  let n := numR o.2 8
  let p := bytesR n.2 4096
  (⟨((k.1 % 256 : Nat) : Int), a.1, b.1, intOf64 o.1, intOf64 n.1, p.1⟩, p.2)
def callD (l : List UInt8) : Option CallP := match unwrapS l with
  | none => none
  | some q => if (callR (q, false)).2.2 = true ∨ (callR (q, false)).2.1 ≠ [] then none else some (callR (q, false)).1
def CallPost (l : List UInt8) (S : HP) (v : Value) : HP := match callD l with
  | none => HP.and (v = .tuple #[.agg #[.int .i64 0, sE [], sE [], .int .i64 0, .int .i64 0, .slice none 0 0], .int .i64 3]) S
  | some x => HP.ex fun a => HP.ex fun c => HP.and (v = .tuple #[x.val a c, .int .i64 0]) (HP.sep (OwB a x.data.length c x.data) S)
set_option maxHeartbeats 1000000 in
theorem cDecode_ok (a : Option Addr) (n c : Nat) (l : List UInt8) (S : HP) (hr : RdL S a n (l.map u8v)) (hl : l.length = n) (hc : n ≤ c) (ha : n ≠ 0 → a.isSome = true) (hb : n ≤ 140737488355000) :
    Tri Tryz.prog 164 #[.slice a n c] S (CallPost l S) := by
  refine tri_of_tree (ρ := [.a a, .n n, .n c, .p S]) mixed Tryz.func164 tree_cDecode ?_
  unfold t_cDecode
  simp only [T.den, E.prop, E.den, RX.look, F1.app, F2.app, Uni.int_i, Uni.nat_n, Uni.bool_c, Uni.str_s, Uni.adr_a, Uni.val_v, Uni.hp_p, hden, cden, V.den, W.den, A.den, BR.den, SA.den, FV.den, capV, exs, exP, allP, Cur.app, List.map_cons, List.map_nil, List.cons_append, List.nil_append, List.drop_succ_cons, List.drop_zero, List.length_cons, List.length_nil, Nat.zero_add, Nat.reduceAdd, Int.neg_neg, Bool.not_not, List.append_nil, Nat.add_zero, List.getElem?_cons_zero, List.getElem?_cons_succ, Decidable.not_not, semW_eq, ne_eq, Nat.reduceEqDiff, not_false_eq_true]
  intro _
  have bad : callD l = none → ∀ {A : HP}, HP.ent A S → HP.ent A (CallPost l S (.tuple #[.agg #[.int .i64 0, sE [], sE [], .int .i64 0, .int .i64 0, .slice none 0 0], .int .i64 3])) := fun h A hA => by
    unfold CallPost; rw [h]; exact hA.trans (.of fun R h H => ⟨rfl, H⟩)
  have hd0 : callD l = match unwrapS l with
    | none => none
    | some q => if (callR (q, false)).2.2 = true ∨ (callR (q, false)).2.1 ≠ [] then none else some (callR (q, false)).1 := rfl
  refine (unwrap_ok a n c l S hr hl hc ha (by omega)).weak (fun _ _ h => h) ?_
  rintro v R h ⟨a', c', rfl, H⟩
  refine ⟨a', _, c', OwB a' _ c' _, _, S, rfl, ?_, HP.sep_comm H⟩
  clear H
  cases hu : unwrapS l with
  | none =>
    rw [hu] at hd0
    exact ⟨fun _ => bad hd0 (HP.ent.refl _), fun h => (by simp at h)⟩
  | some q =>
    rw [hu] at hd0
    simp only at hd0
    refine ⟨fun h => absurd rfl h, fun _ => ?_⟩
    simp only [Option.getD_some]
    have hq : q.length ≤ 140737488355000 := by
      unfold unwrapS at hu
      split at hu
      · cases hu
      · split at hu
        · cases hu; rw [List.length_take]; omega
        · cases hu
    refine (rRead_ok a' _ c' q _ (RdL.ow _ _ _ _ _ _) rfl (by omega)).weak (fun _ _ h => h) ?_
    rintro v R h ⟨b, rfl, H⟩
    refine ⟨b, _, _, rfl, ?_, HP.sep_comm H⟩
    clear H
    intro _
    refine (rByte_ok b (q, false)).weak (fun _ _ h => h) ?_
    rintro v R h ⟨rfl, H⟩
    refine ⟨_, _, rfl, ⟨inI64 _ (by omega) (by omega), fun _ => ?_⟩, H⟩
    clear H
    refine (rBytes_ok b _ 300).weak (fun _ _ h => h) ?_
    rintro v R h ⟨pa, pc, rfl, H⟩
    refine ⟨pa, _, pc, _, _, rfl, ⟨_, convW6 (RdL.ow _ _ _ _ _ _) rfl, ?_⟩, HP.sep_comm H⟩
    clear H
    refine (rBytes_ok b _ 300).weak (fun _ _ h => h) ?_
    rintro v R h ⟨oa, oc, rfl, H⟩
    refine ⟨oa, _, oc, _, _, rfl, ⟨_, convW6 (RdL.ow _ _ _ _ _ _) rfl, ?_⟩, HP.sep_comm H⟩
    clear H
    refine (rInt_ok b _).weak (fun _ _ h => h) ?_
    rintro v R h ⟨rfl, H⟩
    refine ⟨_, _, rfl, ?_, H⟩
    clear H
    refine (rInt_ok b _).weak (fun _ _ h => h) ?_
    rintro v R h ⟨rfl, H⟩
    refine ⟨_, _, rfl, ?_, H⟩
    clear H
    refine (rBytes_ok b _ 4096).weak (fun _ _ h => h) ?_
    rintro v R h ⟨da, dc, rfl, H⟩
    refine ⟨da, _, dc, _, _, rfl, ?_, HP.sep_comm H⟩
    clear H
    refine (rEnd_ok b _).weak (fun _ _ h => h) ?_
    rintro v R h ⟨rfl, H⟩
    refine ⟨_, _, rfl, ⟨fun h1 => bad ?_ (HP.ent.refl _), fun h1 => ?_⟩, H⟩
    · rw [hd0, if_pos]
      by_cases e : (callR (q, false)).2.2 = true ∨ (callR (q, false)).2.1 ≠ []
      · exact e
      · exact absurd (if_neg e) h1
    clear H
    have h1' : ¬ ((callR (q, false)).2.2 = true ∨ (callR (q, false)).2.1 ≠ []) := fun e => by
      have h3 : (if (callR (q, false)).2.2 = true ∨ (callR (q, false)).2.1 ≠ [] then (3 : Int) else 0) = 3 := if_pos e
      exact absurd (h3.symm.trans h1) (by decide)
    rw [if_neg h1'] at hd0
    unfold CallPost
    rw [hd0]
    exact .of fun R h H => ⟨da, dc, rfl, HP.sep_comm H⟩
end Go.Proofs.YtdieogcemmnaaaaGreatDoor

