/- Texts of this claim, joined: Lw4Y, TreeErrorsW, TreeErrorsD, TreeErrorsA, TreeErrorsK, TreeErrorsB. No condition. -/
import Derived.Test.YtdieogcemmnaaaaGreatDoorTEJ6
import Derived.ProofKit
import Derived.OpenShut
import Derived.ShutString
import Derived.ChangeOld
import Derived.Below
import Derived.SizedLaws
import Derived.Lay
import Derived.LaidMore
import Derived.Test.YtdieogcemmnaaaaGreatDoorTie
import Derived.Test.YtdieogcemmnaaaaGreatDoorCards
import Derived.SevenTiedAt
set_option linter.unusedSimpArgs false
set_option linter.unusedVariables false
/- Law 4: TreeErrors answers true. No condition. -/
namespace Go.Proofs.YtdieogcemmnaaaaGreatDoor
set_option linter.unusedSimpArgs false
set_option linter.unusedVariables false
open Go.Proofs.YtdieogcemmnaaaaGreatDoor RX
set_option maxRecDepth 100000

theorem RdL.nil (xs : List Value) (h : xs = []) (S : HP) : RdL S Option.none 0 xs := by subst h; exact ⟨fun w R h F s a j u hj => by simp at hj, fun _ _ _ _ => rfl⟩
set_option maxHeartbeats 4000000 in
theorem treeErrors_ok (a : Option Addr) (n c : Nat) (L : List CallE) : Tri Tryz.prog 7 #[.slice a n c] (Ls kCall a n L) (fun v => HP.pure (v = .bool true)) := by
  refine Tri.fact (φ := L.length = n ∧ (n ≠ 0 → a.isSome = true) ∧ dataAt L) (fun R h H => ⟨H.1, fun hn => Ls.some H hn, dataAt_of H⟩) fun ⟨hl, ha, hL⟩ => ?_
  refine tri_of_tree (ρ := [.a a, .n n, .n c, .p (Ls kCall a n L)]) mixed Tryz.func7 tree_treeErrors ?_
  unfold t_treeErrors
  simp (maxSteps := 3000000) only [T.den, E.prop, E.den, RX.look, F1.app, F2.app, Uni.int_i, Uni.nat_n, Uni.bool_c, Uni.str_s, Uni.adr_a, Uni.val_v, Uni.hp_p, hden, cden, V.den, W.den, A.den, BR.den, SA.den, FV.den, capV, exs, exP, allP, Cur.app, List.map_cons, List.map_nil, List.cons_append, List.nil_append, List.drop_succ_cons, List.drop_zero, List.length_cons, List.length_nil, Nat.zero_add, Nat.reduceAdd, Int.neg_neg, Bool.not_not, List.append_nil, Nat.add_zero, List.getElem?_cons_zero, List.getElem?_cons_succ, Decidable.not_not, semW_eq, semW_load, semW_store, semW_storeC, semW_append, semW_lookup, semW_lookupC, semW_update, semW_updateC, semW_updateK, semW_delete, semW_range, semW_next, semW_entry, semW_nil, ne_eq, Nat.reduceEqDiff, not_false_eq_true]
  refine speaks04_ok.weak (fun _ _ _ => trivial) ?_
  rintro v R h rfl
  refine ⟨true, rfl, ⟨fun h => by simp at h, fun _ => ?_⟩, trivial⟩
  refine (great04_ok a n c L).weak (fun _ _ h => h) ?_
  rintro v R h ⟨rfl, H⟩
  refine ⟨greatB L, rfl, ⟨fun _ => .of fun R h H => trivial, fun hg => ?_⟩, H⟩
  clear H
  have hL120 := great_len hg
  refine tNew_ok.weak (fun _ _ h => h) ?_
  rintro v R h ⟨b, t0, ⟨rfl, h0⟩, H⟩
  refine ⟨b, TRep b t0, rfl, ?_, H⟩
  clear H
  refine ⟨fun _ i P => ∃ k : Nat, i = k ∧ k ≤ n ∧ ∃ t : TS, TWf (k + 1) t.pub ∧ Reach t.pub ∧ P = TRep b t, fun _ i _ => n - i.toNat, ⟨0, rfl, Nat.zero_le _, t0, by rw [h0]; exact newT_wf, by rw [h0]; exact newT_reach, rfl⟩, ?_⟩
  rintro f0 _ _ ⟨k, rfl, hk, t, wf, hr, rfl⟩
  refine ⟨fun hlt => ⟨by omega, fun _ => ⟨ha (by omega), fun _ => ?_⟩⟩, fun hge => .of fun _ _ _ => trivial⟩
  obtain ⟨x, hx⟩ : ∃ x, L[k]? = some x := ⟨_, List.getElem?_eq_getElem (by omega)⟩
  have hxm := List.mem_of_getElem? hx
  refine ⟨x.kind, x.path, x.other, x.off, x.n, x.da, x.data.length, x.dc, loadCall hx, fun q => ?_⟩
  have hk5 : k + 1 ≤ 100000 := by omega
  have h64 := pub_few wf
  refine (tNodes_ok hk5 wf).weak (fun _ _ h => h) ?_
  rintro v R h ⟨na, nc, rfl, g1, g2, gd, gl1, gl2, ⟨es, hes, H1⟩, H2⟩
  refine ⟨na, t.pub.length, nc, Ls kNode na t.pub.length es, rfl, ?_, ⟨g1, g2, gd, gl1, gl2, H1, H2⟩⟩
  clear H1 H2
  refine doL (by omega) wf x.m (Ls kCall a n L) x.data (callD_of hL hxm) fun t1 da dc na1 nc1 h1 => ?_
  have wf1 : TWf (k + 2) t1.pub := by rw [h1]; exact wf.do (by omega) _ _ _ _ _ _
  have hr1 : Reach t1.pub := by rw [h1]; exact hr.do wf _ _ _ _ _ _
  have h641 := pub_few wf1
  have er : (doC t.pub x.m x.data).2.err ≠ 0 → t1.pub = t.pub ∧ (doC t.pub x.m x.data).2 = { err := (doC t.pub x.m x.data).2.err } := fun h => by
    rw [h1]; exact doS_err h
  have qt : ¬ (1 ≤ x.kind ∧ x.kind ≤ 9 ∧ x.kind ≠ 8) → t1.pub = t.pub := fun h => by rw [h1]; exact doS_quiet h
  generalize (doC t.pub x.m x.data).2 = r at er
  intro q1
  have go : (IntKind.i64.min ≤ (k : Int) + 1 ∧ (k : Int) + 1 ≤ IntKind.i64.max) ∧ ((IntKind.i64.min ≤ (k : Int) + 1 ∧ (k : Int) + 1 ≤ IntKind.i64.max) → (∃ k' : Nat, (k : Int) + 1 = k' ∧ k' ≤ n ∧ ∃ t : TS, TWf (k' + 1) t.pub ∧ Reach t.pub ∧ TRep b t1 = TRep b t) ∧ n - ((k : Int) + 1).toNat < n - (k : Int).toNat) :=
    ⟨inI64' _ (by omega) (by omega), fun _ => ⟨⟨k + 1, by omega, by omega, t1, wf1, hr1, rfl⟩, by omega⟩⟩
  -- the two looks at the nodes
  have lookN : ∀ (E : Bool → Prop), E true → t1.pub = t.pub → Tri Tryz.prog 19 #[.pointer (some ⟨b, 0, none⟩)] (TRep b t1) (fun v => HP.ex fun a4 : Option Addr => HP.ex fun n4 : Nat => HP.ex fun c4 : Nat => HP.ex fun P4 : HP => HP.and (v = .slice a4 n4 c4) (HP.and (Tri Tryz.prog 20 #[.slice a4 n4 c4, .slice na t.pub.length nc] (HP.sep P4 (Ls kNode na t.pub.length es)) (fun v => HP.ex fun x : Bool => HP.and (v = .bool x) (HP.and (E x) (HP.sep P4 (Ls kNode na t.pub.length es))))) (HP.sep P4 (TRep b t1)))) := fun E hE e1 => by
    refine (tNodes_ok (by omega) wf1).weak (fun _ _ h => h) ?_
    rintro v R h ⟨na2, nc2, rfl, g1, g2, gd, gl1, gl2, ⟨fs, hfs, H1⟩, H2⟩
    refine ⟨na2, t1.pub.length, nc2, Ls kNode na2 t1.pub.length fs, rfl, ?_, ⟨g1, g2, gd, gl1, gl2, H1, H2⟩⟩
    clear H1 H2
    refine (sameNodes_ok na2 t1.pub.length nc2 fs na t.pub.length nc es (esB (by omega) wf1 hfs) (by omega)).weak (fun _ _ h => h) ?_
    rintro v R h ⟨rfl, H⟩
    refine ⟨_, rfl, ?_, H⟩
    rw [hfs, hes, e1]
    simpa using hE
  have lookR : ∀ (E : Bool → Prop), E true → Tri Tryz.prog 19 #[.pointer (some ⟨b, 0, none⟩)] (TRep b t1) (fun v => HP.ex fun a4 : Option Addr => HP.ex fun n4 : Nat => HP.ex fun c4 : Nat => HP.ex fun P4 : HP => HP.and (v = .slice a4 n4 c4) (HP.and (Tri Tryz.prog 26 #[.slice a4 n4 c4] P4 (fun v => HP.ex fun x : Bool => HP.and (v = .bool x) (HP.and (E x) P4))) (HP.sep P4 (TRep b t1)))) := fun E hE => by
    refine (tNodes_ok (by omega) wf1).weak (fun _ _ h => h) ?_
    rintro v R h ⟨na2, nc2, rfl, g1, g2, gd, gl1, gl2, ⟨fs, hfs, H1⟩, H2⟩
    refine ⟨na2, t1.pub.length, nc2, Ls kNode na2 t1.pub.length fs, rfl, ?_, ⟨g1, g2, gd, gl1, gl2, H1, H2⟩⟩
    clear H1 H2
    refine (right04_ok (B := k + 2) (by omega) na2 t1.pub.length nc2 fs t1.pub hfs wf1 hr1 (by omega)).weak (fun _ _ h => h) ?_
    rintro v R h ⟨rfl, H⟩
    exact ⟨true, rfl, hE, H⟩
  refine ⟨fun e => ?_, fun e => ?_⟩
  · obtain ⟨e1, e2⟩ := er e
    refine lookN _ ?_ e1
    refine ⟨fun h => absurd rfl h, fun _ => ?_⟩
    refine lookR _ ?_
    refine ⟨fun h => absurd rfl h, fun _ => ?_⟩
    have hb1 : r.data = [] := by rw [e2]
    have hb2 : r.names = [] := by rw [e2]
    have := sameAnswer_ok r { err := r.err } da dc na1 nc1 none 0 none 0 (OwB da r.data.length dc r.data) (OwS na1 r.names.length nc1 r.names) HP.tt HP.tt (RdL.ow _ _ _ _ _ _) (RdL.ow _ _ _ _ _ _) (RdL.nil _ rfl _) (RdL.nil _ rfl _) (by rw [hb1]; simp) (by rw [hb2]; simp)
    refine this.weak (fun R h H => HP.sep_mono H (fun _ h => h) fun z hz => HP.sep_mono (HP.sep_tt hz) (fun _ h => h) fun _ _ => HP.sep_tt (A := HP.tt) trivial) ?_
    rintro v R h ⟨rfl, H⟩
    refine ⟨_, rfl, ?_, HP.sep_mono H (fun _ h => h) fun z hz => HP.sep_left hz⟩
    have : decide (r = ({ err := r.err } : AnsM)) = true := decide_eq_true e2
    rw [this]
    exact ⟨fun h => absurd rfl h, fun _ => go⟩
  · refine (tChanges_ok x.kind).weak (fun _ _ h => h) ?_
    rintro v R h rfl
    refine ⟨_, rfl, ⟨fun h => ?_, fun _ => ?_⟩, trivial⟩
    · refine lookN _ ?_ (qt (by simpa using h))
      refine ⟨fun h => absurd rfl h, fun _ => ?_⟩
      refine lookR _ ?_
      exact ⟨fun h => absurd rfl h, fun _ => go⟩
    · refine lookR _ ?_
      exact ⟨fun h => absurd rfl h, fun _ => go⟩
end Go.Proofs.YtdieogcemmnaaaaGreatDoor

/- What comes into TreeErrors, and its walk. No condition. -/
namespace Go.Proofs.YtdieogcemmnaaaaGreatDoor
open Go.RowKit Go.ChangeShapes Go.WideShapes Go.Deep RX

set_option maxRecDepth 100000 in
theorem treeErrors_walk {H : Type} (enc : TypeId × Value → H) (base : Nat) (v0 : Value) (w : World)
    (k0 : Value.okWide Tryz.prog w .any base 22 v0) (h0 : ∃ d p, DataW.Trod enc Tryz.prog w 0 (fun _ => true) true 22 v0 d p ∧ Small Tryz.prog 22 d) :
    Calls Tryz.prog 7 #[v0] w fun e w' => e = .returned (.bool true) ∧ Below w.heap.size w w' := by
  obtain ⟨a0, l0, c0, rfl, b0, z0⟩ := slice_open kCallE Tryz.underlying22 (by kernel_rfl) (of_decide_eq_true (by kernel_rfl)) CallE.of_trod k0 h0
  exact Tri.run (treeErrors_ok a0 l0.length c0 l0) (z0 _)
end Go.Proofs.YtdieogcemmnaaaaGreatDoor

/- TreeErrors holds: for every input the law returns true, and each argument reads behind the call as it read before. No condition. -/
namespace Go.Proofs.YtdieogcemmnaaaaGreatDoor.treeErrors
open Go.ChangeShapes Go.WideShapes Go.ChangeAt Go.RowKit
set_option linter.unusedVariables false

theorem own : ownKnob Tryz.prog.godebug = none := by kernel_rfl
theorem laidOut : laidOutB Tryz.prog = true := by kernel_rfl

def laidL : List (String × DataW Unit) := [("unicode/utf8.acceptRanges", Rows.laid_unicode_utf8_acceptRanges), ("unicode/utf8.first", Rows.laid_unicode_utf8_first)]
set_option maxRecDepth 100000 in
theorem plainL (w : World) : laidMetH Tryz.prog laidL w = laidMet Tryz.prog laidL w := MakeChecks.laidMetH_plain _ _ _ (by kernel_rfl)
set_option maxRecDepth 100000 in
theorem door_met (os : Os) (args : Array Value) : laidMetH Tryz.prog laidL ((World.laidAll Tryz.prog os laidL).forCall (fun _ _ => 0) ⟨#[], args, []⟩).memory := by
  rw [plainL]
  exact laidMet_laidAll _ (by kernel_rfl) (by kernel_rfl)
end Go.Proofs.YtdieogcemmnaaaaGreatDoor.treeErrors


/- TreeErrors holds: for every input the law returns true, and each argument reads behind the call as it read before. No condition. -/
namespace Go.Proofs.YtdieogcemmnaaaaGreatDoor.treeErrors
open Go.ChangeShapes Go.WideShapes Go.ChangeAt Go.RowKit
set_option linter.unusedVariables false

set_option maxRecDepth 100000 in
theorem lifted (os : Os) (started : os.Started) (H : Type) (enc : TypeId × Value → H) :
    ReturnsInHanded {} Tryz.checked os 7 .any (fun w args => (Rows.treeErrorsSpec.pre enc Tryz.prog Tryz.f7 [] false w args ∧ laidMetH Tryz.prog laidL w) ∧ sizedMet enc Tryz.prog Tryz.f7 (OpenSpec.ofChange Rows.treeErrorsSpec) false w args) (Rows.treeErrorsSpec.post enc Tryz.prog Tryz.f7 false true false false) := by
  refine returnsInHanded_of_change_and (C := Tryz.checked) (X := fun w _ => laidMetH Tryz.prog laidL w) (fun _ _ _ hh h => h.of_heap hh) own started (by kernel_rfl) Tryz.func7
    (ChangeSpec.witness_shaped (enc := enc) (C := Tryz.checked) (os := os) (X := fun w _ => laidMetH Tryz.prog laidL w) false (World.laidAll Tryz.prog os laidL) #[.slice none 0 0] 8 (World.laidAll_os _ _ _) (World.shaped_of_ZipB (by kernel_rfl) (by kernel_rfl)) (by kernel_rfl) (by kernel_rfl) (by kernel_rfl) (door_met os _)) ?_
  intro W base args ds gs before hval0 hW hcnd hsz0 _ _
  have hval : ∀ (j : Nat) t v, Tryz.f7.params[j]? = some t → args[j]? = some v → Value.okWide Tryz.prog W .any base t v := hval0
  have hW' := hW
  obtain ⟨p, q, hA0, hV, rfl, hfz, hnd⟩ := hW
  have hA : DataW.TrodAll enc Tryz.prog W 0 (fun _ => true) true Tryz.f7.params.toList args.toList ds p := hA0
  have hsz : (DataW.weightsEach Tryz.prog (Tryz.f7.params.toList ++ Rows.treeErrorsSpec.plain.varTypes Tryz.prog) (ds ++ gs)).all (· ≤ reachBytes) = true := hsz0
  clear hsz0
  rw [Tryz.params7] at hA hval hsz
  obtain ⟨v0, vs0, d0, ds0, p0, q0, hargs, rfl, rfl, h0, r0⟩ := trodAll_cons hA
  obtain ⟨rfl, rfl, rfl⟩ := trodAll_nil r0
  obtain rfl : args = #[v0] := by cases args; simp_all
  obtain ⟨rfl, rfl⟩ := trodVars_none hV
  have lt0 : ∀ x ∈ p0, x.block < W.heap.size := by obtain ⟨m, hm⟩ := h0; exact DataW.trod_lt m _ _ _ hm
  refine (treeErrors_walk enc base v0 W (hval 0 22 v0 rfl rfl) ⟨_, _, h0, Small.arg hsz (j := 0) rfl rfl⟩).mono fun e W' ⟨he, bel⟩ => ?_
  subst he
  exact ⟨_, rfl, _, _, _, [], _, [], hW', trodAll_mk1 (shut_bool Tryz.underlying4 _), (trodAll_cons_mk (Below.trod laidOut (by kernel_rfl) (of_decide_eq_true (by kernel_rfl)) h0 bel lt0) trodAll_mk0), rfl, bel.frame _, fun h => by cases h⟩

end Go.Proofs.YtdieogcemmnaaaaGreatDoor.treeErrors


/- TreeErrors holds: for every input the law returns true, and each argument reads behind the call as it read before. No condition. -/
namespace Go.Proofs.YtdieogcemmnaaaaGreatDoor.treeErrors
open Go.ChangeShapes Go.WideShapes Go.ChangeAt Go.RowKit
set_option linter.unusedVariables false

theorem and2 {a b : Bool} (h1 : a = true) (h2 : b = true) : (a && b) = true := by rw [h1, h2]; rfl
theorem c0 : (fun (P : Program) (f : FuncId) (fn : Func) (s : ChangeSpec) (c : OpenClaim) => (c.wf (OpenSpec.ofChange s) : Bool)) Tryz.pinned.checked.prog 7 Tryz.f7 Rows.treeErrorsSpec Rows.treeErrorsRow = true := by kernel_rfl
theorem c1 : (fun (P : Program) (f : FuncId) (fn : Func) (s : ChangeSpec) (c : OpenClaim) => (laidOutB P : Bool)) Tryz.pinned.checked.prog 7 Tryz.f7 Rows.treeErrorsSpec Rows.treeErrorsRow = true := by kernel_rfl
theorem c2 : (fun (P : Program) (f : FuncId) (fn : Func) (s : ChangeSpec) (c : OpenClaim) => (mapsRowed P : Bool)) Tryz.pinned.checked.prog 7 Tryz.f7 Rows.treeErrorsSpec Rows.treeErrorsRow = true := by kernel_rfl
theorem c3 : (fun (P : Program) (f : FuncId) (fn : Func) (s : ChangeSpec) (c : OpenClaim) => (fn.params.all (P.readableRec ·) : Bool)) Tryz.pinned.checked.prog 7 Tryz.f7 Rows.treeErrorsSpec Rows.treeErrorsRow = true := by kernel_rfl
theorem c4 : (fun (P : Program) (f : FuncId) (fn : Func) (s : ChangeSpec) (c : OpenClaim) => (namedTie P c.named s.vars : Bool)) Tryz.pinned.checked.prog 7 Tryz.f7 Rows.treeErrorsSpec Rows.treeErrorsRow = true := by kernel_rfl
theorem c5 : (fun (P : Program) (f : FuncId) (fn : Func) (s : ChangeSpec) (c : OpenClaim) => ((c.stops == []) : Bool)) Tryz.pinned.checked.prog 7 Tryz.f7 Rows.treeErrorsSpec Rows.treeErrorsRow = true := by kernel_rfl
theorem c6 : (fun (P : Program) (f : FuncId) (fn : Func) (s : ChangeSpec) (c : OpenClaim) => ((P.stops == []) : Bool)) Tryz.pinned.checked.prog 7 Tryz.f7 Rows.treeErrorsSpec Rows.treeErrorsRow = true := by kernel_rfl
theorem c7 : (fun (P : Program) (f : FuncId) (fn : Func) (s : ChangeSpec) (c : OpenClaim) => ((c.knobs == []) : Bool)) Tryz.pinned.checked.prog 7 Tryz.f7 Rows.treeErrorsSpec Rows.treeErrorsRow = true := by kernel_rfl
theorem c8 : (fun (P : Program) (f : FuncId) (fn : Func) (s : ChangeSpec) (c : OpenClaim) => ((P.stopKnobs == []) : Bool)) Tryz.pinned.checked.prog 7 Tryz.f7 Rows.treeErrorsSpec Rows.treeErrorsRow = true := by kernel_rfl
theorem c9 : (fun (P : Program) (f : FuncId) (fn : Func) (s : ChangeSpec) (c : OpenClaim) => ((c.inPlace == P.inPlace f) : Bool)) Tryz.pinned.checked.prog 7 Tryz.f7 Rows.treeErrorsSpec Rows.treeErrorsRow = true := by kernel_rfl
theorem c10 : (fun (P : Program) (f : FuncId) (fn : Func) (s : ChangeSpec) (c : OpenClaim) => ((c.unfollowed == P.unfollowed f) : Bool)) Tryz.pinned.checked.prog 7 Tryz.f7 Rows.treeErrorsSpec Rows.treeErrorsRow = true := by kernel_rfl
theorem c11 : (fun (P : Program) (f : FuncId) (fn : Func) (s : ChangeSpec) (c : OpenClaim) => ((c.recurses == P.recurses f) : Bool)) Tryz.pinned.checked.prog 7 Tryz.f7 Rows.treeErrorsSpec Rows.treeErrorsRow = true := by kernel_rfl
theorem c12 : (fun (P : Program) (f : FuncId) (fn : Func) (s : ChangeSpec) (c : OpenClaim) => ((c.named == P.varsNamed f) : Bool)) Tryz.pinned.checked.prog 7 Tryz.f7 Rows.treeErrorsSpec Rows.treeErrorsRow = true := by kernel_rfl
theorem c13 : (fun (P : Program) (f : FuncId) (fn : Func) (s : ChangeSpec) (c : OpenClaim) => ((c.maps == (fn.params.toList ++ s.plain.varTypes P).any (P.mapsRec ·)) : Bool)) Tryz.pinned.checked.prog 7 Tryz.f7 Rows.treeErrorsSpec Rows.treeErrorsRow = true := by kernel_rfl
theorem c14 : (fun (P : Program) (f : FuncId) (fn : Func) (s : ChangeSpec) (c : OpenClaim) => ((c.ifaces == (fn.params.toList ++ s.plain.varTypes P).any (P.ifacesRec ·)) : Bool)) Tryz.pinned.checked.prog 7 Tryz.f7 Rows.treeErrorsSpec Rows.treeErrorsRow = true := by kernel_rfl
theorem c15 : (fun (P : Program) (f : FuncId) (fn : Func) (s : ChangeSpec) (c : OpenClaim) => ((c.mapsOut == P.mapsAmong fn.resultTypes.toList) : Bool)) Tryz.pinned.checked.prog 7 Tryz.f7 Rows.treeErrorsSpec Rows.treeErrorsRow = true := by kernel_rfl
theorem c16 : (fun (P : Program) (f : FuncId) (fn : Func) (s : ChangeSpec) (c : OpenClaim) => ((c.loops == (fn.params.toList ++ s.plain.varTypes P).any (P.loopsFrom ·)) : Bool)) Tryz.pinned.checked.prog 7 Tryz.f7 Rows.treeErrorsSpec Rows.treeErrorsRow = true := by kernel_rfl
theorem c17 : (fun (P : Program) (f : FuncId) (fn : Func) (s : ChangeSpec) (c : OpenClaim) => ((c.wideKeys == (fn.params.toList ++ s.plain.varTypes P ++ fn.resultTypes.toList).any (P.wideKeysFrom ·)) : Bool)) Tryz.pinned.checked.prog 7 Tryz.f7 Rows.treeErrorsSpec Rows.treeErrorsRow = true := by kernel_rfl
theorem c18 : (fun (P : Program) (f : FuncId) (fn : Func) (s : ChangeSpec) (c : OpenClaim) => (s.vars.all (P.varReadable ·) : Bool)) Tryz.pinned.checked.prog 7 Tryz.f7 Rows.treeErrorsSpec Rows.treeErrorsRow = true := by kernel_rfl
theorem c19 : (fun (P : Program) (f : FuncId) (fn : Func) (s : ChangeSpec) (c : OpenClaim) => (fn.resultTypes.all (fun t => P.readableRec t && decide (t < P.types.size)) : Bool)) Tryz.pinned.checked.prog 7 Tryz.f7 Rows.treeErrorsSpec Rows.treeErrorsRow = true := by kernel_rfl
theorem c20 : (fun (P : Program) (f : FuncId) (fn : Func) (s : ChangeSpec) (c : OpenClaim) => ((c.ifacesOut == fn.resultTypes.toList.any (P.ifacesRec ·)) : Bool)) Tryz.pinned.checked.prog 7 Tryz.f7 Rows.treeErrorsSpec Rows.treeErrorsRow = true := by kernel_rfl
theorem c21 : (fun (P : Program) (f : FuncId) (fn : Func) (s : ChangeSpec) (c : OpenClaim) => ((c.loopsOut == fn.resultTypes.toList.any (P.loopsFrom ·)) : Bool)) Tryz.pinned.checked.prog 7 Tryz.f7 Rows.treeErrorsSpec Rows.treeErrorsRow = true := by kernel_rfl
theorem c22 : (fun (P : Program) (f : FuncId) (fn : Func) (s : ChangeSpec) (c : OpenClaim) => ((c.plainKeys == P.plainKeys) : Bool)) Tryz.pinned.checked.prog 7 Tryz.f7 Rows.treeErrorsSpec Rows.treeErrorsRow = true := by kernel_rfl
theorem c23 : (fun (P : Program) (f : FuncId) (fn : Func) (s : ChangeSpec) (c : OpenClaim) => (c.shortTexts.isNone : Bool)) Tryz.pinned.checked.prog 7 Tryz.f7 Rows.treeErrorsSpec Rows.treeErrorsRow = true := by kernel_rfl
theorem c24 : (fun (P : Program) (f : FuncId) (fn : Func) (s : ChangeSpec) (c : OpenClaim) => (P.stopsHeard : Bool)) Tryz.pinned.checked.prog 7 Tryz.f7 Rows.treeErrorsSpec Rows.treeErrorsRow = true := by kernel_rfl
theorem c25 : (fun (P : Program) (f : FuncId) (fn : Func) (s : ChangeSpec) (c : OpenClaim) => (P.mayEnter : Bool)) Tryz.pinned.checked.prog 7 Tryz.f7 Rows.treeErrorsSpec Rows.treeErrorsRow = true := by kernel_rfl
theorem c26 : (fun (P : Program) (f : FuncId) (fn : Func) (s : ChangeSpec) (c : OpenClaim) => ((c.lifted == P.liftsFinal) : Bool)) Tryz.pinned.checked.prog 7 Tryz.f7 Rows.treeErrorsSpec Rows.treeErrorsRow = true := by kernel_rfl
theorem c27 : (fun (P : Program) (f : FuncId) (fn : Func) (s : ChangeSpec) (c : OpenClaim) => ((P.make == some c.make) : Bool)) Tryz.pinned.checked.prog 7 Tryz.f7 Rows.treeErrorsSpec Rows.treeErrorsRow = true := by kernel_rfl
theorem c28 : (fun (P : Program) (f : FuncId) (fn : Func) (s : ChangeSpec) (c : OpenClaim) => ((c.kinds == (if c.domain.isEmpty then [] else fn.params.toList.map fun t => match P.underlying t with | some (.int k) => some k | _ => none)) : Bool)) Tryz.pinned.checked.prog 7 Tryz.f7 Rows.treeErrorsSpec Rows.treeErrorsRow = true := by kernel_rfl
theorem c29 : (fun (P : Program) (f : FuncId) (fn : Func) (s : ChangeSpec) (c : OpenClaim) => ((c.pinned == c.pinnedBy) : Bool)) Tryz.pinned.checked.prog 7 Tryz.f7 Rows.treeErrorsSpec Rows.treeErrorsRow = true := by kernel_rfl
theorem c30 : (fun (P : Program) (f : FuncId) (fn : Func) (s : ChangeSpec) (c : OpenClaim) => ((c.veiled == (fn.params.toList ++ s.plain.varTypes P ++ fn.resultTypes.toList).any (P.veiledRec ·)) : Bool)) Tryz.pinned.checked.prog 7 Tryz.f7 Rows.treeErrorsSpec Rows.treeErrorsRow = true := by kernel_rfl
theorem c31 : (fun (P : Program) (f : FuncId) (fn : Func) (s : ChangeSpec) (c : OpenClaim) => (c.veiledFits P fn.params.toList (fn.params.toList ++ s.plain.varTypes P ++ fn.resultTypes.toList) : Bool)) Tryz.pinned.checked.prog 7 Tryz.f7 Rows.treeErrorsSpec Rows.treeErrorsRow = true := by kernel_rfl
theorem inst : Tryz.f7.isInstance Tryz.pinned.checked.prog Rows.treeErrorsRow.origin Rows.treeErrorsRow.targs := (of_decide_eq_true (by kernel_rfl))
theorem wrap : Tryz.f7.isWrapper Tryz.pinned.checked.prog Rows.treeErrorsRow.wrapper Rows.treeErrorsRow.mainSum := by unfold Func.isWrapper; first | (rw [if_pos (by decide +kernel)]; kernel_rfl) | (rw [if_neg (by decide +kernel)]; exact ⟨rfl, rfl⟩)
theorem nmd : Tryz.pinned.checked.prog.funcNamed Rows.treeErrorsRow.func = some 7 := by kernel_rfl
end Go.Proofs.YtdieogcemmnaaaaGreatDoor.treeErrors


/- TreeErrors holds: for every input the law returns true, and each argument reads behind the call as it read before. No condition. -/
namespace Go.Proofs.YtdieogcemmnaaaaGreatDoor.treeErrors
open Go.ChangeShapes Go.WideShapes Go.ChangeAt Go.RowKit
set_option linter.unusedVariables false

set_option maxRecDepth 100000 in
theorem closed : joinedFacts Tryz.pinned.checked.prog 7 Tryz.f7 Rows.treeErrorsSpec Rows.treeErrorsRow = true := (and2 (and2 (and2 (and2 (and2 (and2 (and2 (and2 (and2 (and2 (and2 (and2 (and2 (and2 (and2 (and2 (and2 (and2 (and2 (and2 (and2 (and2 (and2 (and2 (and2 (and2 (and2 (and2 (and2 (and2 (and2 c0 c1) c2) c3) c4) c5) c6) c7) c8) c9) c10) c11) c12) c13) c14) c15) c16) c17) c18) c19) c20) c21) c22) c23) c24) c25) c26) c27) c28) c29) c30) c31)
theorem over : Rows.treeErrorsRow.holds Tryz.pinned (OpenSpec.ofChange Rows.treeErrorsSpec) :=
  OpenClaim.holds_of_wide 7 Tryz.f7 rfl rfl rfl rfl rfl rfl rfl ⟨rfl, rfl, rfl, rfl, rfl⟩ rfl rfl rfl rfl rfl nmd Tryz.func7 closed inst wrap (fun os started H enc _ => lifted os started H enc)
end Go.Proofs.YtdieogcemmnaaaaGreatDoor.treeErrors

