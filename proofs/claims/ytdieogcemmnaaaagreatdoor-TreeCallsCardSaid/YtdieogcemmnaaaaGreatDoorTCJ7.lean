/- Texts of this claim, joined: Lw4S, Lw4X, TrLaw04C, Lw4Z, TreeCallsW, TreeCallsD, TreeCallsA, TreeCallsK, TreeCallsB. No condition. -/
import Derived.Test.YtdieogcemmnaaaaGreatDoorTCJ1
import Derived.Test.YtdieogcemmnaaaaGreatDoorTCJ4
import Derived.Test.YtdieogcemmnaaaaGreatDoorTCJ5
import Derived.Test.YtdieogcemmnaaaaGreatDoorTCJ6
import Derived.KernelRfl
import Derived.ProofKit
import Derived.OpenShut
import Derived.ShutString
import Derived.ChangeOld
import Derived.Below
import Derived.SizedLaws
import Derived.Lay
import Derived.LaidMore
import Derived.Test.YtdieogcemmnaaaaGreatDoorTie
import Derived.Test.YtdieogcemmnaaaaGreatDoorCards
import Derived.SevenTiedAt
set_option linter.unusedSimpArgs false
set_option linter.unusedVariables false
/- Law 4: TreeRenames answers true. No condition. -/
namespace Go.Proofs.YtdieogcemmnaaaaGreatDoor
set_option linter.unusedSimpArgs false
set_option linter.unusedVariables false
open Go.Proofs.YtdieogcemmnaaaaGreatDoor RX
set_option maxRecDepth 100000

theorem renameL {b : Nat} {t : TS} {B : Nat} {T1 : List Nd} (wf : TWf B T1) (hB : B ≤ 100000) (hT : t.pub = T1) (path other : Nm) {K : Int → Int → Int → Int → Option Addr → Nat → Nat → HP → Option Addr → Nat → Nat → HP → HP → Prop}
    (hK : ∀ t' da dc na nc, t'.pub = (renameS T1 path other).1 → K (renameS T1 path other).2 0 0 0 da 0 dc (OwB da 0 dc []) na 0 nc (OwS na 0 nc []) (TRep b t')) :
    Tri Tryz.prog 18 #[.pointer (some ⟨b, 0, none⟩), .agg #[.int .i64 6, .string ⟨path.toArray⟩, .string ⟨other.toArray⟩, .int .i64 0, .int .i64 0, .slice none 0 0]] (TRep b t) (fun v => HP.ex fun e : Int => HP.ex fun k : Int => HP.ex fun s : Int => HP.ex fun l : Int => HP.ex fun da : Option Addr => HP.ex fun dl : Nat => HP.ex fun dc : Nat => HP.ex fun dP : HP => HP.ex fun na : Option Addr => HP.ex fun nl : Nat => HP.ex fun nc : Nat => HP.ex fun nP : HP => HP.ex fun tP : HP =>
      HP.and (v = .agg #[.int .i64 e, .int .i64 k, .int .i64 s, .int .i64 l, .slice da dl dc, .slice na nl nc]) (HP.and (K e k s l da dl dc dP na nl nc nP tP) (HP.sep dP (HP.sep nP tP)))) := by
  have e : doS t.pub 6 path other 0 0 [] = ((renameS T1 path other).1, { err := (renameS T1 path other).2 }) := by rw [hT]; simp [doS]
  refine doL0 hB (by rw [hT]; exact wf) 6 path other 0 0 fun t' da dc na nc h => ?_
  rw [e] at h ⊢
  exact hK t' da dc na nc h
theorem esB {B : Nat} (hB : B ≤ 100000) {T : List Nd} (wf : TWf B T) {es : List NodeE} (he : es.map (·.nd) = T) : ∀ x ∈ es, x.nd.data.length ≤ 140737488355328 ∧ x.nd.ents.length ≤ 140737488355328 := fun x hx => by
  have hm : x.nd ∈ T := by rw [← he]; exact List.mem_map.2 ⟨x, hx, rfl⟩
  have := wf.good _ hm
  have := this.data
  have := (wf.good _ hm).efew
  omega
theorem statS_len {T : List Nd} {p : Nm} : (statS T p).data = [] ∧ (statS T p).names = [] := by
  unfold statS
  split
  · exact ⟨rfl, rfl⟩
  · split <;> exact ⟨rfl, rfl⟩
theorem stat_gone {T : List Nd} {p : Nm} (h : (findS T p).2 ≠ 0) : (statS T p).err ≠ 0 := by
  unfold statS
  rw [if_pos h]
  exact h
theorem pub_few {B : Nat} {t : TS} (wf : TWf B t.pub) : t.pub.length ≤ 64 := by have := wf.few; unfold TS.pub; rw [List.length_map]; exact this
set_option maxHeartbeats 4000000 in
theorem treeRenames_ok (a : Option Addr) (n c : Nat) (L : List CallE) (p q : Nm) : Tri Tryz.prog 4 #[.slice a n c, sE p, sE q] (Ls kCall a n L) (fun v => HP.pure (v = .bool true)) := by
  refine Tri.fact (φ := L.length = n ∧ (n ≠ 0 → a.isSome = true) ∧ dataAt L) (fun R h H => ⟨H.1, fun hn => Ls.some H hn, dataAt_of H⟩) fun ⟨hl, ha, hL⟩ => ?_
  refine tri_of_tree (ρ := [.a a, .n n, .n c, .p (Ls kCall a n L), .s p, .s q]) mixed Tryz.func4 tree_treeRenames ?_
  unfold t_treeRenames
  simp (maxSteps := 3000000) only [T.den, E.prop, E.den, RX.look, F1.app, F2.app, Uni.int_i, Uni.nat_n, Uni.bool_c, Uni.str_s, Uni.adr_a, Uni.val_v, Uni.hp_p, hden, cden, V.den, W.den, A.den, BR.den, SA.den, FV.den, capV, exs, exP, allP, Cur.app, List.map_cons, List.map_nil, List.cons_append, List.nil_append, List.drop_succ_cons, List.drop_zero, List.length_cons, List.length_nil, Nat.zero_add, Nat.reduceAdd, Int.neg_neg, Bool.not_not, List.append_nil, Nat.add_zero, List.getElem?_cons_zero, List.getElem?_cons_succ, Decidable.not_not, semW_eq, semW_load, semW_store, semW_storeC, semW_append, semW_lookup, semW_lookupC, semW_update, semW_updateC, semW_updateK, semW_delete, semW_range, semW_next, semW_entry, semW_nil, ne_eq, Nat.reduceEqDiff, not_false_eq_true]
  refine speaks04_ok.weak (fun _ _ _ => trivial) ?_
  rintro v R h rfl
  refine ⟨true, rfl, ⟨fun h => by simp at h, fun _ => ?_⟩, trivial⟩
  refine (great04_ok a n c L).weak (fun _ _ h => h) ?_
  rintro v R h ⟨rfl, H⟩
  refine ⟨greatB L, rfl, ⟨fun _ => .of fun R h H => trivial, fun hg => ?_⟩, H⟩
  clear H
  have hL120 := great_len hg
  refine ⟨fun _ => .of fun R h H => trivial, fun _ => ⟨fun _ => .of fun R h H => trivial, fun _ => ?_⟩⟩
  refine tNew_ok.weak (fun _ _ h => h) ?_
  rintro v R h ⟨b, t0, ⟨rfl, h0⟩, H⟩
  refine ⟨b, TRep b t0, rfl, ?_, H⟩
  clear H
  refine ⟨fun i P => ∃ k : Nat, i = k ∧ k ≤ n ∧ ∃ t : TS, TWf (k + 1) t.pub ∧ P = TRep b t, fun i _ => n - i.toNat, ⟨0, rfl, Nat.zero_le _, t0, by rw [h0]; exact newT_wf, rfl⟩, ?_⟩
  rintro _ _ ⟨k, rfl, hk, t, wf, rfl⟩
  refine ⟨fun hlt => ⟨by omega, fun _ => ⟨ha (by omega), fun _ => ?_⟩⟩, fun hge => ?_⟩
  · obtain ⟨x, hx⟩ : ∃ x, L[k]? = some x := ⟨_, List.getElem?_eq_getElem (by omega)⟩
    have hxm := List.mem_of_getElem? hx
    refine ⟨x.kind, x.path, x.other, x.off, x.n, x.da, x.data.length, x.dc, loadCall hx, fun q => ?_⟩
    refine doL (by omega) wf x.m (Ls kCall a n L) x.data (callD_of hL hxm) fun t1 da dc na nc h1 => ?_
    have wf1 : TWf (k + 2) t1.pub := by rw [h1]; exact wf.do (by omega) _ _ _ _ _ _
    exact ⟨inI64' _ (by omega) (by omega), fun _ => ⟨⟨k + 1, by omega, by omega, t1, wf1, rfl⟩, by dsimp only; omega⟩⟩
  · obtain rfl : k = n := by omega
    have h64 := pub_few wf
    have hk5 : k + 1 ≤ 100000 := by omega
    refine (tNodes_ok hk5 wf).weak (fun _ _ h => h) ?_
    rintro v R h ⟨na, nc, rfl, g1, g2, gd, gl1, gl2, ⟨es, hes, H1⟩, H2⟩
    refine ⟨na, t.pub.length, nc, Ls kNode na t.pub.length es, rfl, ?_, ⟨g1, g2, gd, gl1, gl2, H1, H2⟩⟩
    clear H1 H2
    have fin : ∀ (t4 : TS) {B : Nat}, B ≤ 100000 → TWf B t4.pub → t4.pub = t.pub → Tri Tryz.prog 19 #[.pointer (some ⟨b, 0, none⟩)] (TRep b t4) (fun v => HP.ex fun a4 : Option Addr => HP.ex fun n4 : Nat => HP.ex fun c4 : Nat => HP.ex fun P4 : HP => HP.and (v = .slice a4 n4 c4) (HP.and (Tri Tryz.prog 20 #[.slice a4 n4 c4, .slice na t.pub.length nc] (HP.sep P4 (Ls kNode na t.pub.length es)) (fun v => HP.ex fun x : Bool => HP.and (v = .bool x) (HP.and (HP.ent (Ls kCall a k L) (HP.pure (Value.bool x = .bool true))) (HP.sep P4 (Ls kNode na t.pub.length es))))) (HP.sep P4 (TRep b t4)))) := fun t4 B hB wf4 e4 => by
      refine (tNodes_ok hB wf4).weak (fun _ _ h => h) ?_
      rintro v R h ⟨na2, nc2, rfl, g1, g2, gd, gl1, gl2, ⟨fs, hfs, H1⟩, H2⟩
      refine ⟨na2, t4.pub.length, nc2, Ls kNode na2 t4.pub.length fs, rfl, ?_, ⟨g1, g2, gd, gl1, gl2, H1, H2⟩⟩
      clear H1 H2
      refine (sameNodes_ok na2 t4.pub.length nc2 fs na t.pub.length nc es (esB hB wf4 hfs) (by rw [e4]; omega)).weak (fun _ _ h => h) ?_
      rintro v R h ⟨rfl, H⟩
      refine ⟨_, rfl, .of fun R h H => ?_, H⟩
      show Value.bool _ = _
      rw [hfs, hes, e4]
      simp
    refine statL wf hk5 rfl p fun t1 da dc na1 nc1 h1 => ?_
    intro x1
    refine renameL wf hk5 h1 p q fun t2 da2 dc2 na2 nc2 h2 => ?_
    have wf2 : TWf (k + 2) t2.pub := by rw [h2]; exact wf.rename p q
    refine ⟨fun e2 => ?_, fun e2 => ⟨fun e3 => ?_, fun e3 => ?_⟩⟩
    · exact fin t2 (by omega) wf2 (by rw [h2]; exact rename_err (.inl e2))
    · exact fin t2 (by omega) wf2 (by rw [h2]; exact rename_err (.inr e3.symm))
    · have mv := renamed wf (Ne.symm e3) (by simpa using e2)
      rw [← h2] at mv
      refine statL wf2 (by omega) rfl q fun t3 da3 dc3 na3 nc3 h3 => ?_
      intro x3
      refine statL wf2 (by omega) h3 p fun t5 da5 dc5 na5 nc5 h5 => ?_
      intro x5
      rw [mv.stat]
      have bl := statS_len (T := t.pub) (p := p)
      refine (sameAnswer_ok (statS t.pub p) (statS t.pub p) da dc na1 nc1 da3 dc3 na3 nc3 _ _ _ _ (RdL.ow _ _ _ _ _ _) (RdL.ow _ _ _ _ _ _) (RdL.ow _ _ _ _ _ _) (RdL.ow _ _ _ _ _ _) (by rw [bl.1]; simp) (by rw [bl.2]; simp)).weak (fun _ _ h => h) ?_
      rintro v R h ⟨rfl, H⟩
      refine ⟨_, rfl, ?_, H⟩
      clear H
      refine ⟨fun h => by simp at h, fun _ => ⟨fun h => absurd h (stat_gone mv.gone), fun _ => ?_⟩⟩
      have wf5 : TWf (k + 2) t5.pub := by rw [h5]; exact wf2
      refine (tNodes_ok (by omega) wf5).weak (fun _ _ h => h) ?_
      rintro v R h ⟨na6, nc6, rfl, g1, g2, gd, gl1, gl2, ⟨fs, hfs, H1⟩, H2⟩
      refine ⟨na6, t5.pub.length, nc6, Ls kNode na6 t5.pub.length fs, rfl, ?_, ⟨g1, g2, gd, gl1, gl2, H1, H2⟩⟩
      clear H1 H2
      have hlen : t5.pub.length = t.pub.length := by rw [h5]; exact mv.len
      refine ⟨fun h => absurd (by rw [hlen]) h, fun _ => ?_⟩
      refine renameL wf2 (by omega) h5 q p fun t6 da6 dc6 na6 nc6 h6 => ?_
      rw [mv.back] at h6 ⊢
      refine ⟨fun _ => ?_, fun h => absurd rfl h⟩
      exact fin t6 hk5 (by rw [h6]; exact wf) h6
end Go.Proofs.YtdieogcemmnaaaaGreatDoor

/- Law 4: TreeErrors answers true. No condition. -/
namespace Go.Proofs.YtdieogcemmnaaaaGreatDoor
open Go.Proofs.YtdieogcemmnaaaaGreatDoor RX
set_option maxRecDepth 100000

theorem pr_err {T : List Nd} {q : List Nd × Int} (h : q.2 ≠ 0 → q.1 = T) (he : (({ err := q.2 } : AnsM)).err ≠ 0) : q.1 = T ∧ ({ err := q.2 } : AnsM) = { err := ({ err := q.2 } : AnsM).err } := ⟨h he, rfl⟩
set_option maxHeartbeats 2000000 in
/-- What is answered with an error changes nothing, and tells nothing besides. -/
theorem doS_err {T : List Nd} {kind : Int} {p o : Nm} {off n : Int} {d : List UInt8} (h : (doS T kind p o off n d).2.err ≠ 0) : (doS T kind p o off n d).1 = T ∧ (doS T kind p o off n d).2 = { err := (doS T kind p o off n d).2.err } := by
  have mk : (makeS T kind p).2 ≠ 0 → (makeS T kind p).1 = T := fun h => by
    unfold makeS at h ⊢
    split
    · rfl
    split
    · rfl
    · rename_i h1 h2; rw [if_neg h1, if_neg h2] at h; exact absurd rfl h
  have rm : (rmdirS T p).2 ≠ 0 → (rmdirS T p).1 = T := fun h => by
    unfold rmdirS at h ⊢
    split
    · rfl
    · rename_i h1
      rw [if_neg h1] at h
      split
      · rfl
      · rename_i x hx
        rw [hx] at h
        simp only at h
        split
        · rfl
        split
        · rfl
        · rename_i h2 h3; rw [if_neg h2, if_neg h3] at h; exact absurd rfl h
  have ul : (unlinkS T p).2 ≠ 0 → (unlinkS T p).1 = T := fun h => by
    unfold unlinkS at h ⊢
    split
    · rfl
    · rename_i h1
      rw [if_neg h1] at h
      split
      · rfl
      · rename_i x hx
        rw [hx] at h
        simp only at h
        split
        · rfl
        · rename_i h2
          rw [if_neg h2] at h
          split at h <;> exact absurd rfl h
  have lnk : (linkS T p o).2 ≠ 0 → (linkS T p o).1 = T := fun h => by
    unfold linkS at h ⊢
    split
    · rfl
    split
    · rfl
    · rename_i h1 h2; rw [if_neg h1, if_neg h2] at h; exact absurd rfl h
  have wr : (writeS T p off d).2 ≠ 0 → (writeS T p off d).1 = T := fun h => by
    unfold writeS at h ⊢
    split
    · rfl
    split
    · rfl
    split
    · rfl
    split
    · rfl
    · rename_i h1 h2 h3 h4; rw [if_neg h1, if_neg h2, if_neg h3, if_neg h4] at h; exact absurd rfl h
  have ct : (cutS T p n).2 ≠ 0 → (cutS T p n).1 = T := fun h => by
    unfold cutS at h ⊢
    split
    · rfl
    split
    · rfl
    split
    · rfl
    · rename_i h1 h2 h3; rw [if_neg h1, if_neg h2, if_neg h3] at h; exact absurd rfl h
  have st : (statS T p).err ≠ 0 → statS T p = { err := (statS T p).err } := fun h => by
    unfold statS at h ⊢
    split
    · rfl
    · rename_i h1
      rw [if_neg h1] at h
      split at h <;> exact absurd rfl h
  have ls : (listS T p).err ≠ 0 → listS T p = { err := (listS T p).err } := fun h => by
    unfold listS at h ⊢
    split
    · rfl
    · rename_i h1
      rw [if_neg h1] at h
      split
      · rfl
      · rename_i x hx
        rw [hx] at h
        simp only at h
        split
        · rfl
        · rename_i h2; rw [if_neg h2] at h; exact absurd rfl h
  have rd : (readS' T p off n).err ≠ 0 → readS' T p off n = { err := (readS' T p off n).err } := fun h => by
    have : (readS T p off n).2 = [] := by
      have h' : (readS T p off n).1 ≠ 0 := h
      unfold readS at h' ⊢
      split
      · rfl
      · rename_i h1
        rw [if_neg h1] at h'
        split
        · rfl
        · rename_i h2
          rw [if_neg h2] at h'
          split at h' <;> exact absurd rfl h'
    show ({ err := (readS T p off n).1, data := (readS T p off n).2 } : AnsM) = { err := (readS T p off n).1 }
    rw [this]
  have key : ∀ r, doS T kind p o off n d = r → r.2.err ≠ 0 → r.1 = T ∧ r.2 = { err := r.2.err } := fun r hr h => by
    unfold doS at hr
    split at hr
    · subst hr; exact ⟨mk h, rfl⟩
    split at hr
    · subst hr; exact ⟨rm h, rfl⟩
    split at hr
    · subst hr; exact ⟨ul h, rfl⟩
    split at hr
    · subst hr; exact ⟨lnk h, rfl⟩
    split at hr
    · subst hr; exact ⟨rename_err (.inl h), rfl⟩
    split at hr
    · subst hr; exact ⟨wr h, rfl⟩
    split at hr
    · subst hr; exact ⟨rfl, rd h⟩
    split at hr
    · subst hr; exact ⟨ct h, rfl⟩
    split at hr
    · subst hr; exact ⟨rfl, st h⟩
    split at hr
    · subst hr; exact ⟨rfl, ls h⟩
    split at hr
    · subst hr; exact absurd rfl h
    · subst hr; exact ⟨rfl, rfl⟩
  exact key _ rfl h
/-- What does not change a tree by its kind leaves it. -/
theorem doS_quiet {T : List Nd} {kind : Int} {p o : Nm} {off n : Int} {d : List UInt8} (h : ¬ (1 ≤ kind ∧ kind ≤ 9 ∧ kind ≠ 8)) : (doS T kind p o off n d).1 = T := by
  have key : ∀ r, doS T kind p o off n d = r → r.1 = T := fun r hr => by
    unfold doS at hr
    rw [if_neg (by omega), if_neg (by omega), if_neg (by omega), if_neg (by omega), if_neg (by omega), if_neg (by omega)] at hr
    split at hr
    · subst hr; rfl
    rw [if_neg (by omega)] at hr
    split at hr
    · subst hr; rfl
    split at hr
    · subst hr; rfl
    split at hr
    · subst hr; rfl
    · subst hr; rfl
  exact key _ rfl
end Go.Proofs.YtdieogcemmnaaaaGreatDoor

/- Trees of functions, printed by rx.lean. No condition. -/
namespace Go.Proofs.YtdieogcemmnaaaaGreatDoor.RX
set_option maxRecDepth 100000
-- tideline/tidelinelaw04.TreeCalls: ρ := [.a callsa, .n callsl, .n callsc, .p callsP]
def t_treeCalls : T :=
(.call 15 [] [] [.c] (.w (.a (.bool (.v 4)))) []
(.br (.o1 .not (.v 4))
 (.ret (.w (.a (.bool (.c false)))) [((.a 0), (.prop 3))])
 (.call 16 [(.a (.sl (.v 0) (.v 1) (.v 2)))] [((.a 0), (.prop 3))] [.c] (.w (.a (.bool (.v 5)))) [((.a 0), (.prop 3))]
 (.br (.v 5)
  (.ret (.w (.a (.bool (.c true)))) [((.a 0), (.prop 3))])
  (.call 17 [] [] [.n, .p] (.w (.a (.ptr (.v 6) 0))) [((.b (.v 6)), (.prop 7))]
  (.call 22 [] [] [.n, .p] (.w (.a (.ptr (.v 8) 0))) [((.b (.v 8)), (.prop 9))]
  (.loop [.c, .i, .p, .p] [(.e (.o1 .not (.o1 .not (.c false)))), (.e (.o1 .neg (.o1 .neg (.i 0)))), (.p [((.b (.v 8)), (.prop 9))]), (.p [((.b (.v 6)), (.prop 7))])]
   (.br (.o2 .lt (.v 11) (.o1 .ofNat (.v 1)))
    (.need (.o2 .le (.i 0) (.v 11))
    (.need (.o1 .isSome (.v 0))
    (.read (.load 34 (.tmp 17)) 34 [(17, (.w (.a (.eptr 0 (.v 11) 6 0))))] [((.a 0), (.prop 3))] [.i, .s, .s, .i, .i, .a, .n, .n] (.w (.agg [(.int .i64 (.v 14)), (.str (.v 15)), (.str (.v 16)), (.int .i64 (.v 17)), (.int .i64 (.v 18)), (.sl (.v 19) (.v 20) (.v 21))]))
    (.new
    (.join [.c, .p, .p]
     (.call 18 [(.a (.ptr (.v 6) 0)), (.agg [(.int .i64 (.v 14)), (.str (.v 15)), (.str (.v 16)), (.int .i64 (.v 17)), (.int .i64 (.v 18)), (.sl (.v 19) (.v 20) (.v 21))])] [((.b (.v 6)), (.prop 13)), ((.a 0), (.prop 3))] [.i, .i, .i, .i, .a, .n, .n, .p, .a, .n, .n, .p, .p] (.w (.agg [(.int .i64 (.v 23)), (.int .i64 (.v 24)), (.int .i64 (.v 25)), (.int .i64 (.v 26)), (.sl (.v 27) (.v 28) (.v 29)), (.sl (.v 31) (.v 32) (.v 33))])) [((.a 27), (.prop 30)), ((.a 31), (.prop 34)), ((.b (.v 6)), (.prop 35)), ((.a 0), (.prop 3))]
     (.call 23 [(.a (.ptr (.v 8) 0)), (.agg [(.int .i64 (.v 14)), (.str (.v 15)), (.str (.v 16)), (.int .i64 (.v 17)), (.int .i64 (.v 18)), (.sl (.v 19) (.v 20) (.v 21))])] [((.b (.v 8)), (.prop 12)), ((.a 0), (.prop 3))] [.i, .i, .i, .i, .a, .n, .n, .p, .a, .n, .n, .p, .p] (.w (.agg [(.int .i64 (.v 36)), (.int .i64 (.v 37)), (.int .i64 (.v 38)), (.int .i64 (.v 39)), (.sl (.v 40) (.v 41) (.v 42)), (.sl (.v 44) (.v 45) (.v 46))])) [((.a 40), (.prop 43)), ((.a 44), (.prop 47)), ((.b (.v 8)), (.prop 48)), ((.a 0), (.prop 3))]
     (.call 21 [(.agg [(.int .i64 (.v 23)), (.int .i64 (.v 24)), (.int .i64 (.v 25)), (.int .i64 (.v 26)), (.sl (.v 27) (.v 28) (.v 29)), (.sl (.v 31) (.v 32) (.v 33))]), (.agg [(.int .i64 (.v 36)), (.int .i64 (.v 37)), (.int .i64 (.v 38)), (.int .i64 (.v 39)), (.sl (.v 40) (.v 41) (.v 42)), (.sl (.v 44) (.v 45) (.v 46))])] [((.a 27), (.prop 30)), ((.a 31), (.prop 34)), ((.a 40), (.prop 43)), ((.a 44), (.prop 47))] [.c] (.w (.a (.bool (.v 49)))) [((.a 27), (.prop 30)), ((.a 31), (.prop 34)), ((.a 40), (.prop 43)), ((.a 44), (.prop 47))]
     (.br (.o1 .not (.v 49))
      (.again 0 [(.e (.o1 .not (.o1 .not (.c true)))), (.p [((.b (.v 8)), (.prop 48))]), (.p [((.b (.v 6)), (.prop 35))])])
      (.call 19 [(.a (.ptr (.v 6) 0))] [((.b (.v 6)), (.prop 35))] [.a, .n, .n, .p] (.w (.a (.sl (.v 50) (.v 51) (.v 52)))) [((.a 50), (.prop 53)), ((.b (.v 6)), (.prop 35))]
      (.call 24 [(.a (.ptr (.v 8) 0))] [((.b (.v 8)), (.prop 48))] [.a, .n, .n, .p] (.w (.a (.sl (.v 54) (.v 55) (.v 56)))) [((.a 54), (.prop 57)), ((.b (.v 8)), (.prop 48))]
      (.call 20 [(.a (.sl (.v 50) (.v 51) (.v 52))), (.a (.sl (.v 54) (.v 55) (.v 56)))] [((.a 50), (.prop 53)), ((.a 54), (.prop 57))] [.c] (.w (.a (.bool (.v 58)))) [((.a 50), (.prop 53)), ((.a 54), (.prop 57))]
      (.br (.o1 .not (.v 58))
       (.again 0 [(.e (.o1 .not (.o1 .not (.c true)))), (.p [((.b (.v 8)), (.prop 48))]), (.p [((.b (.v 6)), (.prop 35))])])
       (.call 25 [(.a (.int .i64 (.v 14)))] [] [.c] (.w (.a (.bool (.v 59)))) []
       (.br (.o2 .le (.i 1) (.v 14))
        (.br (.o2 .le (.v 14) (.i 9))
         (.again 0 [(.e (.o1 .not (.o1 .not (.o1 .not (.o2 .beq (.v 59) (.o1 .not (.o2 .eq (.v 14) (.i 8)))))))), (.p [((.b (.v 8)), (.prop 48))]), (.p [((.b (.v 6)), (.prop 35))])])
         (.again 0 [(.e (.o1 .not (.o1 .not (.o1 .not (.o2 .beq (.v 59) (.c false)))))), (.p [((.b (.v 8)), (.prop 48))]), (.p [((.b (.v 6)), (.prop 35))])]))
        (.again 0 [(.e (.o1 .not (.o1 .not (.o1 .not (.o2 .beq (.v 59) (.c false)))))), (.p [((.b (.v 8)), (.prop 48))]), (.p [((.b (.v 6)), (.prop 35))])])))))))))))
    (.br (.v 23)
     (.ret (.w (.a (.bool (.c false)))) [((.a 0), (.prop 3))])
     (.need (.o1 (.inr .i64) (.o2 .add (.v 11) (.i 1)))
     (.again 0 [(.e (.o1 .not (.o1 .not (.v 10)))), (.e (.o1 .neg (.o1 .neg (.o2 .add (.v 11) (.i 1))))), (.p [((.b (.v 8)), (.prop 24))]), (.p [((.b (.v 6)), (.prop 25))])]))))))))
    (.ret (.w (.a (.bool (.c true)))) [((.a 0), (.prop 3))])))))))))
theorem tree_treeCalls : tree Tryz.prog { absT := [142, 144], opq := [], hv := [(0, [(.b (.v 8)), (.b (.v 6))])], keep := [19, 25, 21, 20, 24, 16], link := [], ent := [], turn := [(18, [0]), (23, [0])], shr := [], vt := [], mkd := [], rlink := [], pty := [], outl := false, stay := [], snk := [], rdf := true, jn := [((19, 23), some { ss := [.c, .p, .p], n := 26, tv := [(19, none), (20, none), (21, none), (22, none), (23, none), (24, none), (25, none), (26, none), (27, none), (28, none), (29, none), (30, none), (31, none), (32, none), (33, none), (34, none), (35, none), (36, none), (37, none), (38, none), (39, none), (40, none), (41, none), (42, none), (43, none), (44, none), (45, none), (46, none), (47, none), (48, none), (49, none), (50, none), (51, none), (52, none), (53, some (.w (.a (.bool (.v 23)))))], h := [((.b (.v 8)), (.prop 24)), ((.a 0), (.prop 3)), ((.b (.v 6)), (.prop 25)), ((.b (.v 22)), (.cells [(.int .i64 (.v 14)), (.str (.v 15)), (.str (.v 16)), (.int .i64 (.v 17)), (.int .i64 (.v 18)), (.sl (.v 19) (.v 20) (.v 21))] 34))], lk := [] })] } Tryz.f6 [(.a (.sl (.v 0) (.v 1) (.v 2)))] [((.a 0), (.prop 3))] 4 = t_treeCalls := by kernel_rfl
end Go.Proofs.YtdieogcemmnaaaaGreatDoor.RX

/- Law 4: TreeCalls answers true. No condition. -/
namespace Go.Proofs.YtdieogcemmnaaaaGreatDoor
set_option linter.unusedSimpArgs false
set_option linter.unusedVariables false
open Go.Proofs.YtdieogcemmnaaaaGreatDoor RX
set_option maxRecDepth 100000

theorem rdo_ok {B b : Nat} {g : Nat → NodeE} {NS : List Nd} {path other : Nm} {off n : Int} {S : HP} {da : Option Addr} {dl dc : Nat} {d : List UInt8} (kind : Int) (I : DoI B g NS path other S da dl d) : DoT b g NS kind path other off n S da dl dc d := by
  by_cases h0 : kind < 1 ∨ 12 < kind
  · exact rdo0_ok kind h0 I
  by_cases h : kind = 1
  · subst h; exact rdo1_ok I
  by_cases h : kind = 2
  · subst h; exact rdo2_ok I
  by_cases h : kind = 3
  · subst h; exact rdo3_ok I
  by_cases h : kind = 4
  · subst h; exact rdo4_ok I
  by_cases h : kind = 5
  · subst h; exact rdo5_ok I
  by_cases h : kind = 6
  · subst h; exact rdo6_ok I
  by_cases h : kind = 7
  · subst h; exact rdo7_ok I
  by_cases h : kind = 8
  · subst h; exact rdo8_ok I
  by_cases h : kind = 9
  · subst h; exact rdo9_ok I
  by_cases h : kind = 10
  · subst h; exact rdo10_ok I
  by_cases h : kind = 11
  · subst h; exact rdo11_ok I
  obtain rfl : kind = 12 := by omega
  exact rdo12_ok I
theorem put4 {A S O N : HP} {R h : PH} (H : (HP.sep A (HP.sep S (HP.sep O N))).p R h) : (HP.sep O (HP.sep N (HP.sep A S))).p R h :=
  HP.sep_assoc (HP.sep_comm (HP.sep_assoc' H))
set_option maxHeartbeats 1000000 in
theorem rDo_ok {B b : Nat} {g : Nat → NodeE} {NS : List Nd} {path other : Nm} {off n : Int} {S : HP} {da : Option Addr} {dl dc : Nat} {d : List UInt8} (kind : Int) (I : DoI B g NS path other S da dl d) :
    Tri Tryz.prog 23 #[.pointer (some ⟨b, 0, none⟩), .agg #[.int .i64 kind, sE path, sE other, .int .i64 off, .int .i64 n, .slice da dl dc]] (HP.sep (RT b g) S)
      (fun v => HP.ex fun da' => HP.ex fun dc' => HP.ex fun na' => HP.ex fun nc' => HP.ex fun g' => HP.and (v = (doS NS kind path other off n d).2.at da' dc' na' nc' ∧ Rp g' (doS NS kind path other off n d).1)
        (HP.sep (OwB da' (doS NS kind path other off n d).2.data.length dc' (doS NS kind path other off n d).2.data) (HP.sep (OwS na' (doS NS kind path other off n d).2.names.length nc' (doS NS kind path other off n d).2.names) (HP.sep (RT b g') S)))) := by
  refine tri_of_tree (ρ := [.n b, .p (RT b g), .i kind, .s path, .s other, .i off, .i n, .a da, .n dl, .n dc, .p S]) mixed Tryz.func23 tree_rDo ?_
  unfold t_rDo
  simp only [T.den, E.prop, E.den, RX.look, F1.app, F2.app, Uni.int_i, Uni.nat_n, Uni.bool_c, Uni.str_s, Uni.adr_a, Uni.val_v, Uni.hp_p, hden, cden, V.den, W.den, A.den, BR.den, SA.den, FV.den, capV, exs, exP, allP, Cur.app, List.map_cons, List.map_nil, List.cons_append, List.nil_append, List.drop_succ_cons, List.drop_zero, List.length_cons, List.length_nil, Nat.zero_add, Nat.reduceAdd, Int.neg_neg, Bool.not_not, List.append_nil, Nat.add_zero, List.getElem?_cons_zero, List.getElem?_cons_succ, Decidable.not_not, semW_eq, semW_load, semW_store, semW_storeC, semW_append, semW_lookup, semW_lookupC, semW_update, semW_updateC, semW_updateK, semW_delete, semW_range, semW_next, semW_entry, semW_nil, ne_eq, Nat.reduceEqDiff, not_false_eq_true]
  intro _ _
  have er : (doS NS kind path other off n d).2.err ≠ 0 → (doS NS kind path other off n d).2 = { err := (doS NS kind path other off n d).2.err } := fun h => (doS_err h).2
  refine (rdo_ok (b := b) (dc := dc) kind I).weak (fun _ _ h => h) ?_
  rintro v R h ⟨r0, da', dc', na', nc', g', ⟨rfl, h1, h2⟩, H⟩
  generalize (doS NS kind path other off n d).2 = r at *
  refine ⟨r0.err, r0.kind, r0.size, r0.links, da', r0.data.length, dc', _, na', r0.names.length, nc', _, r.err, _, rfl, ?_, H⟩
  clear H
  intro _
  refine ⟨fun hne => .of fun R h H => ?_, fun he => .of fun R h H => ?_⟩
  · have e := er hne
    refine ⟨none, 0, none, 0, g', ⟨?_, h2⟩, AnsR.nil (by rw [e]) (by rw [e]) H⟩
    rw [e]; rfl
  · have e := h1 he
    subst e
    exact ⟨da', dc', na', nc', g', ⟨rfl, h2⟩, put4 H⟩
theorem rDoL {b B : Nat} {g : Nat → NodeE} {NS : List Nd} (hB : B ≤ 100000) (wf : TWf B NS) (hg : Rp g NS) (c : CallM) (hp : c.path.length ≤ 1000) (ho : c.other.length ≤ 1000) (S : HP) (d : List UInt8) (hd : CallD c S d) (hdl : c.dl ≤ 100000) {K : Int → Int → Int → Int → Option Addr → Nat → Nat → HP → Option Addr → Nat → Nat → HP → HP → Prop}
    (hK : ∀ g' da dc na nc, Rp g' (doC NS c d).1 → K (doC NS c d).2.err (doC NS c d).2.kind (doC NS c d).2.size (doC NS c d).2.links da (doC NS c d).2.data.length dc (OwB da (doC NS c d).2.data.length dc (doC NS c d).2.data) na (doC NS c d).2.names.length nc (OwS na (doC NS c d).2.names.length nc (doC NS c d).2.names) (RT b g')) :
    Tri Tryz.prog 23 #[.pointer (some ⟨b, 0, none⟩), c.val] (HP.sep (RT b g) S) (fun v => HP.ex fun e : Int => HP.ex fun k : Int => HP.ex fun s : Int => HP.ex fun l : Int => HP.ex fun da : Option Addr => HP.ex fun dl : Nat => HP.ex fun dc : Nat => HP.ex fun dP : HP => HP.ex fun na : Option Addr => HP.ex fun nl : Nat => HP.ex fun nc : Nat => HP.ex fun nP : HP => HP.ex fun tP : HP =>
      HP.and (v = .agg #[.int .i64 e, .int .i64 k, .int .i64 s, .int .i64 l, .slice da dl dc, .slice na nl nc]) (HP.and (K e k s l da dl dc dP na nl nc nP tP) (HP.sep dP (HP.sep nP (HP.sep tP S))))) := by
  refine (rDo_ok (b := b) (off := c.off) (n := c.n) (dc := c.dc) c.kind ⟨hB, wf, hg, hp, ho, hd.rd, hd.len, hdl, hd.some'⟩).weak (fun _ _ h => h) ?_
  rintro v R h ⟨da, dc, na, nc, g', ⟨rfl, h2⟩, H⟩
  exact ⟨_, _, _, _, da, _, dc, _, na, _, nc, _, _, rfl, hK g' da dc na nc h2, H⟩
theorem great_x {L : List CallE} (h : ¬ greatB L = true) : ∀ x ∈ L, x.path.length ≤ 300 ∧ x.other.length ≤ 300 ∧ x.data.length ≤ 600 := fun x hx => by
  have h' : greatB L = false := by simpa using h
  unfold greatB at h'
  rw [Bool.or_eq_false_iff, List.any_eq_false] at h'
  have := h'.2 x hx
  simp at this
  omega
set_option maxHeartbeats 4000000 in
theorem doS_len {B : Nat} {T : List Nd} (wf : TWf B T) (hB : B ≤ 100000) {kind : Int} {p o : Nm} {off n : Int} {d : List UInt8} : (doS T kind p o off n d).2.data.length ≤ 1000000 ∧ (doS T kind p o off n d).2.names.length ≤ 1000000 := by
  have key : ∀ r, doS T kind p o off n d = r → r.2.data.length ≤ 1000000 ∧ r.2.names.length ≤ 1000000 := fun r hr => by
    have rd : (readS T p off n).2.length ≤ 1000000 := by
      unfold readS
      split
      · simp
      split
      · simp
      split
      · simp
      · rename_i x hx
        have := (wf.at' hx).1.data
        rw [List.length_take, List.length_drop]; omega
    have ls : (listS T p).data.length ≤ 1000000 ∧ (listS T p).names.length ≤ 1000000 := by
      unfold listS
      split
      · simp
      split
      · simp
      · rename_i x hx
        have := (wf.at' hx).1.efew
        split
        · simp
        · simp; omega
    unfold doS at hr
    split at hr
    · subst hr; simp
    split at hr
    · subst hr; simp
    split at hr
    · subst hr; simp
    split at hr
    · subst hr; simp
    split at hr
    · subst hr; simp
    split at hr
    · subst hr; simp
    split at hr
    · subst hr; exact ⟨rd, by simp [readS']⟩
    split at hr
    · subst hr; simp
    split at hr
    · subst hr; rw [(statS_len (T := T) (p := p)).1, (statS_len (T := T) (p := p)).2]; simp
    split at hr
    · subst hr; exact ls
    split at hr
    · subst hr; simp
    · subst hr; simp
  exact key _ rfl
set_option maxHeartbeats 4000000 in
theorem treeCalls_ok (a : Option Addr) (n c : Nat) (L : List CallE) : Tri Tryz.prog 6 #[.slice a n c] (Ls kCall a n L) (fun v => HP.pure (v = .bool true)) := by
  refine Tri.fact (φ := L.length = n ∧ (n ≠ 0 → a.isSome = true) ∧ dataAt L) (fun R h H => ⟨H.1, fun hn => Ls.some H hn, dataAt_of H⟩) fun ⟨hl, ha, hL⟩ => ?_
  refine tri_of_tree (ρ := [.a a, .n n, .n c, .p (Ls kCall a n L)]) mixed Tryz.func6 tree_treeCalls ?_
  unfold t_treeCalls
  simp (maxSteps := 3000000) only [T.den, E.prop, E.den, RX.look, F1.app, F2.app, Uni.int_i, Uni.nat_n, Uni.bool_c, Uni.str_s, Uni.adr_a, Uni.val_v, Uni.hp_p, hden, cden, V.den, W.den, A.den, BR.den, SA.den, FV.den, capV, exs, exP, allP, Cur.app, List.map_cons, List.map_nil, List.cons_append, List.nil_append, List.drop_succ_cons, List.drop_zero, List.length_cons, List.length_nil, Nat.zero_add, Nat.reduceAdd, Int.neg_neg, Bool.not_not, List.append_nil, Nat.add_zero, List.getElem?_cons_zero, List.getElem?_cons_succ, Decidable.not_not, semW_eq, semW_load, semW_store, semW_storeC, semW_append, semW_lookup, semW_lookupC, semW_update, semW_updateC, semW_updateK, semW_delete, semW_range, semW_next, semW_entry, semW_nil, ne_eq, Nat.reduceEqDiff, not_false_eq_true]
  refine speaks04_ok.weak (fun _ _ _ => trivial) ?_
  rintro v R h rfl
  refine ⟨true, rfl, ⟨fun h => by simp at h, fun _ => ?_⟩, trivial⟩
  refine (great04_ok a n c L).weak (fun _ _ h => h) ?_
  rintro v R h ⟨rfl, H⟩
  refine ⟨greatB L, rfl, ⟨fun _ => .of fun R h H => trivial, fun hg => ?_⟩, H⟩
  clear H
  have hL120 := great_len hg
  have hLx := great_x hg
  refine tNew_ok.weak (fun _ _ h => h) ?_
  rintro v R h ⟨b, t0, ⟨rfl, h0⟩, H⟩
  refine ⟨b, TRep b t0, rfl, ?_, H⟩
  clear H
  refine rNew_ok.weak (fun _ _ h => trivial) ?_
  rintro v R h ⟨b2, rfl, H⟩
  refine ⟨b2, RT b2 g0, rfl, ?_, H⟩
  clear H
  refine ⟨fun _ i P8 P6 => ∃ (k : Nat) (t : TS) (g : Nat → NodeE), i = k ∧ k ≤ n ∧ TWf (k + 1) t.pub ∧ Rp g t.pub ∧ P8 = RT b2 g ∧ P6 = TRep b t, fun _ i _ _ => n - i.toNat, ⟨0, t0, g0, rfl, Nat.zero_le _, by rw [h0]; exact newT_wf, by rw [h0]; exact g0_rp, rfl, rfl⟩, ?_⟩
  rintro f0 _ _ _ ⟨k, t, g, rfl, hk, wf, rp, rfl, rfl⟩
  refine ⟨fun hlt => ⟨by omega, fun _ => ⟨ha (by omega), fun _ => ?_⟩⟩, fun hge => .of fun _ _ _ => trivial⟩
  obtain ⟨x, hx⟩ : ∃ x, L[k]? = some x := ⟨_, List.getElem?_eq_getElem (by omega)⟩
  have hxm := List.mem_of_getElem? hx
  obtain ⟨hx1, hx2, hx3⟩ := hLx x hxm
  refine ⟨x.kind, x.path, x.other, x.off, x.n, x.da, x.data.length, x.dc, loadCall hx, fun q => ?_⟩
  have hk5 : k + 1 ≤ 100000 := by omega
  refine ⟨fun f P8 P6 => f = false ∧ ∃ (t1 : TS) (g1 : Nat → NodeE), TWf (k + 2) t1.pub ∧ Rp g1 t1.pub ∧ P8 = RT b2 g1 ∧ P6 = TRep b t1, ?_, ?_⟩
  · refine doL (by omega) wf x.m (Ls kCall a n L) x.data (callD_of hL hxm) fun t1 da dc na1 nc1 h1 => ?_
    have wf1 : TWf (k + 2) t1.pub := by rw [h1]; exact wf.do (by omega) _ _ _ _ _ _
    refine rDoL hk5 wf rp x.m (by show x.path.length ≤ 1000; omega) (by show x.other.length ≤ 1000; omega) (Ls kCall a n L) x.data (callD_of hL hxm) (by show x.data.length ≤ 100000; omega) fun g1 da2 dc2 na2 nc2 h2 => ?_
    rw [← h1] at h2
    have hlen := doS_len wf hk5 (kind := x.m.kind) (p := x.m.path) (o := x.m.other) (off := x.m.off) (n := x.m.n) (d := x.data)
    have hlen' : (doC t.pub x.m x.data).2.data.length ≤ 1000000 ∧ (doC t.pub x.m x.data).2.names.length ≤ 1000000 := hlen
    clear hlen
    clear h1
    generalize (doC t.pub x.m x.data).2 = r at *
    have fin : ∀ (f : Bool), f = false → (f = false ∧ ∃ (t' : TS) (g' : Nat → NodeE), TWf (k + 2) t'.pub ∧ Rp g' t'.pub ∧ RT b2 g1 = RT b2 g' ∧ TRep b t1 = TRep b t') := fun f hf => ⟨hf, t1, g1, wf1, h2, rfl, rfl⟩
    refine (sameAnswer_ok r r da dc na1 nc1 da2 dc2 na2 nc2 _ _ _ _ (RdL.ow _ _ _ _ _ _) (RdL.ow _ _ _ _ _ _) (RdL.ow _ _ _ _ _ _) (RdL.ow _ _ _ _ _ _) (by omega) (by omega)).weak (fun _ _ h => h) ?_
    rintro v R h ⟨rfl, H⟩
    refine ⟨_, rfl, ⟨fun h => absurd (by simp) h, fun _ => ?_⟩, H⟩
    clear H
    have h64 := pub_few wf1
    refine (tNodes_ok (by omega) wf1).weak (fun _ _ h => h) ?_
    rintro v R h ⟨na3, nc3, rfl, q1, q2, qd, ql1, ql2, ⟨es, hes, H1⟩, H2⟩
    refine ⟨na3, t1.pub.length, nc3, Ls kNode na3 t1.pub.length es, rfl, ?_, ⟨q1, q2, qd, ql1, ql2, H1, H2⟩⟩
    clear H1 H2
    refine (rAll_ok (B := k + 2) wf1 h2).weak (fun _ _ h => h) ?_
    rintro v R h ⟨na4, nc4, fs, ⟨rfl, hfs⟩, H⟩
    refine ⟨na4, t1.pub.length, nc4, _, rfl, ?_, H⟩
    clear H
    refine (sameNodes_ok na3 t1.pub.length nc3 es na4 t1.pub.length nc4 fs (esB (by omega) wf1 hes) (by omega)).weak (fun _ _ h => h) ?_
    rintro v R h ⟨rfl, H⟩
    refine ⟨_, rfl, ⟨fun h => absurd (by rw [hes, hfs]; simp) h, fun _ => ?_⟩, H⟩
    clear H
    refine (tChanges_ok x.kind).weak (fun _ _ _ => trivial) ?_
    rintro v R h rfl
    refine ⟨_, rfl, ⟨fun h1 => ⟨fun h9 => fin _ ?_, fun h9 => fin _ ?_⟩, fun h1 => fin _ ?_⟩, trivial⟩
    · by_cases h8 : x.kind = 8
      · simp [h8] <;> rfl
      · simp [h1, h9, h8] <;> rfl
    · have : ¬ (1 ≤ x.kind ∧ x.kind ≤ 9 ∧ x.kind ≠ 8) := by omega
      simp [this] <;> rfl
    · have : ¬ (1 ≤ x.kind ∧ x.kind ≤ 9 ∧ x.kind ≠ 8) := by omega
      simp [this] <;> rfl
  · rintro f _ _ ⟨rfl, t1, g1, wf1, rp1, rfl, rfl⟩
    exact ⟨fun h => Bool.noConfusion h, fun _ => ⟨inI64' _ (by omega) (by omega), fun _ => ⟨⟨k + 1, t1, g1, by omega, by omega, wf1, rp1, rfl, rfl⟩, by dsimp only; omega⟩⟩⟩
end Go.Proofs.YtdieogcemmnaaaaGreatDoor

/- What comes into TreeCalls, and its walk. No condition. -/
namespace Go.Proofs.YtdieogcemmnaaaaGreatDoor
open Go.RowKit Go.ChangeShapes Go.WideShapes Go.Deep RX

set_option maxRecDepth 100000 in
theorem treeCalls_walk {H : Type} (enc : TypeId × Value → H) (base : Nat) (v0 : Value) (w : World)
    (k0 : Value.okWide Tryz.prog w .any base 22 v0) (h0 : ∃ d p, DataW.Trod enc Tryz.prog w 0 (fun _ => true) true 22 v0 d p ∧ Small Tryz.prog 22 d) :
    Calls Tryz.prog 6 #[v0] w fun e w' => e = .returned (.bool true) ∧ Below w.heap.size w w' := by
  obtain ⟨a0, l0, c0, rfl, b0, z0⟩ := slice_open kCallE Tryz.underlying22 (by kernel_rfl) (of_decide_eq_true (by kernel_rfl)) CallE.of_trod k0 h0
  exact Tri.run (treeCalls_ok a0 l0.length c0 l0) (z0 _)
end Go.Proofs.YtdieogcemmnaaaaGreatDoor

/- TreeCalls holds: for every input the law returns true, and each argument reads behind the call as it read before. No condition. -/
namespace Go.Proofs.YtdieogcemmnaaaaGreatDoor.treeCalls
open Go.ChangeShapes Go.WideShapes Go.ChangeAt Go.RowKit
set_option linter.unusedVariables false

theorem own : ownKnob Tryz.prog.godebug = none := by kernel_rfl
theorem laidOut : laidOutB Tryz.prog = true := by kernel_rfl

def laidL : List (String × DataW Unit) := [("unicode/utf8.acceptRanges", Rows.laid_unicode_utf8_acceptRanges), ("unicode/utf8.first", Rows.laid_unicode_utf8_first)]
set_option maxRecDepth 100000 in
theorem plainL (w : World) : laidMetH Tryz.prog laidL w = laidMet Tryz.prog laidL w := MakeChecks.laidMetH_plain _ _ _ (by kernel_rfl)
set_option maxRecDepth 100000 in
theorem door_met (os : Os) (args : Array Value) : laidMetH Tryz.prog laidL ((World.laidAll Tryz.prog os laidL).forCall (fun _ _ => 0) ⟨#[], args, []⟩).memory := by
  rw [plainL]
  exact laidMet_laidAll _ (by kernel_rfl) (by kernel_rfl)
end Go.Proofs.YtdieogcemmnaaaaGreatDoor.treeCalls


/- TreeCalls holds: for every input the law returns true, and each argument reads behind the call as it read before. No condition. -/
namespace Go.Proofs.YtdieogcemmnaaaaGreatDoor.treeCalls
open Go.ChangeShapes Go.WideShapes Go.ChangeAt Go.RowKit
set_option linter.unusedVariables false

set_option maxRecDepth 100000 in
theorem lifted (os : Os) (started : os.Started) (H : Type) (enc : TypeId × Value → H) :
    ReturnsInHanded {} Tryz.checked os 6 .any (fun w args => (Rows.treeCallsSpec.pre enc Tryz.prog Tryz.f6 [] false w args ∧ laidMetH Tryz.prog laidL w) ∧ sizedMet enc Tryz.prog Tryz.f6 (OpenSpec.ofChange Rows.treeCallsSpec) false w args) (Rows.treeCallsSpec.post enc Tryz.prog Tryz.f6 false true false false) := by
  refine returnsInHanded_of_change_and (C := Tryz.checked) (X := fun w _ => laidMetH Tryz.prog laidL w) (fun _ _ _ hh h => h.of_heap hh) own started (by kernel_rfl) Tryz.func6
    (ChangeSpec.witness_shaped (enc := enc) (C := Tryz.checked) (os := os) (X := fun w _ => laidMetH Tryz.prog laidL w) false (World.laidAll Tryz.prog os laidL) #[.slice none 0 0] 8 (World.laidAll_os _ _ _) (World.shaped_of_ZipB (by kernel_rfl) (by kernel_rfl)) (by kernel_rfl) (by kernel_rfl) (by kernel_rfl) (door_met os _)) ?_
  intro W base args ds gs before hval0 hW hcnd hsz0 _ _
  have hval : ∀ (j : Nat) t v, Tryz.f6.params[j]? = some t → args[j]? = some v → Value.okWide Tryz.prog W .any base t v := hval0
  have hW' := hW
  obtain ⟨p, q, hA0, hV, rfl, hfz, hnd⟩ := hW
  have hA : DataW.TrodAll enc Tryz.prog W 0 (fun _ => true) true Tryz.f6.params.toList args.toList ds p := hA0
  have hsz : (DataW.weightsEach Tryz.prog (Tryz.f6.params.toList ++ Rows.treeCallsSpec.plain.varTypes Tryz.prog) (ds ++ gs)).all (· ≤ reachBytes) = true := hsz0
  clear hsz0
  rw [Tryz.params6] at hA hval hsz
  obtain ⟨v0, vs0, d0, ds0, p0, q0, hargs, rfl, rfl, h0, r0⟩ := trodAll_cons hA
  obtain ⟨rfl, rfl, rfl⟩ := trodAll_nil r0
  obtain rfl : args = #[v0] := by cases args; simp_all
  obtain ⟨rfl, rfl⟩ := trodVars_none hV
  have lt0 : ∀ x ∈ p0, x.block < W.heap.size := by obtain ⟨m, hm⟩ := h0; exact DataW.trod_lt m _ _ _ hm
  refine (treeCalls_walk enc base v0 W (hval 0 22 v0 rfl rfl) ⟨_, _, h0, Small.arg hsz (j := 0) rfl rfl⟩).mono fun e W' ⟨he, bel⟩ => ?_
  subst he
  exact ⟨_, rfl, _, _, _, [], _, [], hW', trodAll_mk1 (shut_bool Tryz.underlying4 _), (trodAll_cons_mk (Below.trod laidOut (by kernel_rfl) (of_decide_eq_true (by kernel_rfl)) h0 bel lt0) trodAll_mk0), rfl, bel.frame _, fun h => by cases h⟩

end Go.Proofs.YtdieogcemmnaaaaGreatDoor.treeCalls


/- TreeCalls holds: for every input the law returns true, and each argument reads behind the call as it read before. No condition. -/
namespace Go.Proofs.YtdieogcemmnaaaaGreatDoor.treeCalls
open Go.ChangeShapes Go.WideShapes Go.ChangeAt Go.RowKit
set_option linter.unusedVariables false

theorem and2 {a b : Bool} (h1 : a = true) (h2 : b = true) : (a && b) = true := by rw [h1, h2]; rfl
theorem c0 : (fun (P : Program) (f : FuncId) (fn : Func) (s : ChangeSpec) (c : OpenClaim) => (c.wf (OpenSpec.ofChange s) : Bool)) Tryz.pinned.checked.prog 6 Tryz.f6 Rows.treeCallsSpec Rows.treeCallsRow = true := by kernel_rfl
theorem c1 : (fun (P : Program) (f : FuncId) (fn : Func) (s : ChangeSpec) (c : OpenClaim) => (laidOutB P : Bool)) Tryz.pinned.checked.prog 6 Tryz.f6 Rows.treeCallsSpec Rows.treeCallsRow = true := by kernel_rfl
theorem c2 : (fun (P : Program) (f : FuncId) (fn : Func) (s : ChangeSpec) (c : OpenClaim) => (mapsRowed P : Bool)) Tryz.pinned.checked.prog 6 Tryz.f6 Rows.treeCallsSpec Rows.treeCallsRow = true := by kernel_rfl
theorem c3 : (fun (P : Program) (f : FuncId) (fn : Func) (s : ChangeSpec) (c : OpenClaim) => (fn.params.all (P.readableRec ·) : Bool)) Tryz.pinned.checked.prog 6 Tryz.f6 Rows.treeCallsSpec Rows.treeCallsRow = true := by kernel_rfl
theorem c4 : (fun (P : Program) (f : FuncId) (fn : Func) (s : ChangeSpec) (c : OpenClaim) => (namedTie P c.named s.vars : Bool)) Tryz.pinned.checked.prog 6 Tryz.f6 Rows.treeCallsSpec Rows.treeCallsRow = true := by kernel_rfl
theorem c5 : (fun (P : Program) (f : FuncId) (fn : Func) (s : ChangeSpec) (c : OpenClaim) => ((c.stops == []) : Bool)) Tryz.pinned.checked.prog 6 Tryz.f6 Rows.treeCallsSpec Rows.treeCallsRow = true := by kernel_rfl
theorem c6 : (fun (P : Program) (f : FuncId) (fn : Func) (s : ChangeSpec) (c : OpenClaim) => ((P.stops == []) : Bool)) Tryz.pinned.checked.prog 6 Tryz.f6 Rows.treeCallsSpec Rows.treeCallsRow = true := by kernel_rfl
theorem c7 : (fun (P : Program) (f : FuncId) (fn : Func) (s : ChangeSpec) (c : OpenClaim) => ((c.knobs == []) : Bool)) Tryz.pinned.checked.prog 6 Tryz.f6 Rows.treeCallsSpec Rows.treeCallsRow = true := by kernel_rfl
theorem c8 : (fun (P : Program) (f : FuncId) (fn : Func) (s : ChangeSpec) (c : OpenClaim) => ((P.stopKnobs == []) : Bool)) Tryz.pinned.checked.prog 6 Tryz.f6 Rows.treeCallsSpec Rows.treeCallsRow = true := by kernel_rfl
theorem c9 : (fun (P : Program) (f : FuncId) (fn : Func) (s : ChangeSpec) (c : OpenClaim) => ((c.inPlace == P.inPlace f) : Bool)) Tryz.pinned.checked.prog 6 Tryz.f6 Rows.treeCallsSpec Rows.treeCallsRow = true := by kernel_rfl
theorem c10 : (fun (P : Program) (f : FuncId) (fn : Func) (s : ChangeSpec) (c : OpenClaim) => ((c.unfollowed == P.unfollowed f) : Bool)) Tryz.pinned.checked.prog 6 Tryz.f6 Rows.treeCallsSpec Rows.treeCallsRow = true := by kernel_rfl
theorem c11 : (fun (P : Program) (f : FuncId) (fn : Func) (s : ChangeSpec) (c : OpenClaim) => ((c.recurses == P.recurses f) : Bool)) Tryz.pinned.checked.prog 6 Tryz.f6 Rows.treeCallsSpec Rows.treeCallsRow = true := by kernel_rfl
theorem c12 : (fun (P : Program) (f : FuncId) (fn : Func) (s : ChangeSpec) (c : OpenClaim) => ((c.named == P.varsNamed f) : Bool)) Tryz.pinned.checked.prog 6 Tryz.f6 Rows.treeCallsSpec Rows.treeCallsRow = true := by kernel_rfl
theorem c13 : (fun (P : Program) (f : FuncId) (fn : Func) (s : ChangeSpec) (c : OpenClaim) => ((c.maps == (fn.params.toList ++ s.plain.varTypes P).any (P.mapsRec ·)) : Bool)) Tryz.pinned.checked.prog 6 Tryz.f6 Rows.treeCallsSpec Rows.treeCallsRow = true := by kernel_rfl
theorem c14 : (fun (P : Program) (f : FuncId) (fn : Func) (s : ChangeSpec) (c : OpenClaim) => ((c.ifaces == (fn.params.toList ++ s.plain.varTypes P).any (P.ifacesRec ·)) : Bool)) Tryz.pinned.checked.prog 6 Tryz.f6 Rows.treeCallsSpec Rows.treeCallsRow = true := by kernel_rfl
theorem c15 : (fun (P : Program) (f : FuncId) (fn : Func) (s : ChangeSpec) (c : OpenClaim) => ((c.mapsOut == P.mapsAmong fn.resultTypes.toList) : Bool)) Tryz.pinned.checked.prog 6 Tryz.f6 Rows.treeCallsSpec Rows.treeCallsRow = true := by kernel_rfl
theorem c16 : (fun (P : Program) (f : FuncId) (fn : Func) (s : ChangeSpec) (c : OpenClaim) => ((c.loops == (fn.params.toList ++ s.plain.varTypes P).any (P.loopsFrom ·)) : Bool)) Tryz.pinned.checked.prog 6 Tryz.f6 Rows.treeCallsSpec Rows.treeCallsRow = true := by kernel_rfl
theorem c17 : (fun (P : Program) (f : FuncId) (fn : Func) (s : ChangeSpec) (c : OpenClaim) => ((c.wideKeys == (fn.params.toList ++ s.plain.varTypes P ++ fn.resultTypes.toList).any (P.wideKeysFrom ·)) : Bool)) Tryz.pinned.checked.prog 6 Tryz.f6 Rows.treeCallsSpec Rows.treeCallsRow = true := by kernel_rfl
theorem c18 : (fun (P : Program) (f : FuncId) (fn : Func) (s : ChangeSpec) (c : OpenClaim) => (s.vars.all (P.varReadable ·) : Bool)) Tryz.pinned.checked.prog 6 Tryz.f6 Rows.treeCallsSpec Rows.treeCallsRow = true := by kernel_rfl
theorem c19 : (fun (P : Program) (f : FuncId) (fn : Func) (s : ChangeSpec) (c : OpenClaim) => (fn.resultTypes.all (fun t => P.readableRec t && decide (t < P.types.size)) : Bool)) Tryz.pinned.checked.prog 6 Tryz.f6 Rows.treeCallsSpec Rows.treeCallsRow = true := by kernel_rfl
theorem c20 : (fun (P : Program) (f : FuncId) (fn : Func) (s : ChangeSpec) (c : OpenClaim) => ((c.ifacesOut == fn.resultTypes.toList.any (P.ifacesRec ·)) : Bool)) Tryz.pinned.checked.prog 6 Tryz.f6 Rows.treeCallsSpec Rows.treeCallsRow = true := by kernel_rfl
theorem c21 : (fun (P : Program) (f : FuncId) (fn : Func) (s : ChangeSpec) (c : OpenClaim) => ((c.loopsOut == fn.resultTypes.toList.any (P.loopsFrom ·)) : Bool)) Tryz.pinned.checked.prog 6 Tryz.f6 Rows.treeCallsSpec Rows.treeCallsRow = true := by kernel_rfl
theorem c22 : (fun (P : Program) (f : FuncId) (fn : Func) (s : ChangeSpec) (c : OpenClaim) => ((c.plainKeys == P.plainKeys) : Bool)) Tryz.pinned.checked.prog 6 Tryz.f6 Rows.treeCallsSpec Rows.treeCallsRow = true := by kernel_rfl
theorem c23 : (fun (P : Program) (f : FuncId) (fn : Func) (s : ChangeSpec) (c : OpenClaim) => (c.shortTexts.isNone : Bool)) Tryz.pinned.checked.prog 6 Tryz.f6 Rows.treeCallsSpec Rows.treeCallsRow = true := by kernel_rfl
theorem c24 : (fun (P : Program) (f : FuncId) (fn : Func) (s : ChangeSpec) (c : OpenClaim) => (P.stopsHeard : Bool)) Tryz.pinned.checked.prog 6 Tryz.f6 Rows.treeCallsSpec Rows.treeCallsRow = true := by kernel_rfl
theorem c25 : (fun (P : Program) (f : FuncId) (fn : Func) (s : ChangeSpec) (c : OpenClaim) => (P.mayEnter : Bool)) Tryz.pinned.checked.prog 6 Tryz.f6 Rows.treeCallsSpec Rows.treeCallsRow = true := by kernel_rfl
theorem c26 : (fun (P : Program) (f : FuncId) (fn : Func) (s : ChangeSpec) (c : OpenClaim) => ((c.lifted == P.liftsFinal) : Bool)) Tryz.pinned.checked.prog 6 Tryz.f6 Rows.treeCallsSpec Rows.treeCallsRow = true := by kernel_rfl
theorem c27 : (fun (P : Program) (f : FuncId) (fn : Func) (s : ChangeSpec) (c : OpenClaim) => ((P.make == some c.make) : Bool)) Tryz.pinned.checked.prog 6 Tryz.f6 Rows.treeCallsSpec Rows.treeCallsRow = true := by kernel_rfl
theorem c28 : (fun (P : Program) (f : FuncId) (fn : Func) (s : ChangeSpec) (c : OpenClaim) => ((c.kinds == (if c.domain.isEmpty then [] else fn.params.toList.map fun t => match P.underlying t with | some (.int k) => some k | _ => none)) : Bool)) Tryz.pinned.checked.prog 6 Tryz.f6 Rows.treeCallsSpec Rows.treeCallsRow = true := by kernel_rfl
theorem c29 : (fun (P : Program) (f : FuncId) (fn : Func) (s : ChangeSpec) (c : OpenClaim) => ((c.pinned == c.pinnedBy) : Bool)) Tryz.pinned.checked.prog 6 Tryz.f6 Rows.treeCallsSpec Rows.treeCallsRow = true := by kernel_rfl
theorem c30 : (fun (P : Program) (f : FuncId) (fn : Func) (s : ChangeSpec) (c : OpenClaim) => ((c.veiled == (fn.params.toList ++ s.plain.varTypes P ++ fn.resultTypes.toList).any (P.veiledRec ·)) : Bool)) Tryz.pinned.checked.prog 6 Tryz.f6 Rows.treeCallsSpec Rows.treeCallsRow = true := by kernel_rfl
theorem c31 : (fun (P : Program) (f : FuncId) (fn : Func) (s : ChangeSpec) (c : OpenClaim) => (c.veiledFits P fn.params.toList (fn.params.toList ++ s.plain.varTypes P ++ fn.resultTypes.toList) : Bool)) Tryz.pinned.checked.prog 6 Tryz.f6 Rows.treeCallsSpec Rows.treeCallsRow = true := by kernel_rfl
theorem inst : Tryz.f6.isInstance Tryz.pinned.checked.prog Rows.treeCallsRow.origin Rows.treeCallsRow.targs := (of_decide_eq_true (by kernel_rfl))
theorem wrap : Tryz.f6.isWrapper Tryz.pinned.checked.prog Rows.treeCallsRow.wrapper Rows.treeCallsRow.mainSum := by unfold Func.isWrapper; first | (rw [if_pos (by decide +kernel)]; kernel_rfl) | (rw [if_neg (by decide +kernel)]; exact ⟨rfl, rfl⟩)
theorem nmd : Tryz.pinned.checked.prog.funcNamed Rows.treeCallsRow.func = some 6 := by kernel_rfl
end Go.Proofs.YtdieogcemmnaaaaGreatDoor.treeCalls


/- TreeCalls holds: for every input the law returns true, and each argument reads behind the call as it read before. No condition. -/
namespace Go.Proofs.YtdieogcemmnaaaaGreatDoor.treeCalls
open Go.ChangeShapes Go.WideShapes Go.ChangeAt Go.RowKit
set_option linter.unusedVariables false

set_option maxRecDepth 100000 in
theorem closed : joinedFacts Tryz.pinned.checked.prog 6 Tryz.f6 Rows.treeCallsSpec Rows.treeCallsRow = true := (and2 (and2 (and2 (and2 (and2 (and2 (and2 (and2 (and2 (and2 (and2 (and2 (and2 (and2 (and2 (and2 (and2 (and2 (and2 (and2 (and2 (and2 (and2 (and2 (and2 (and2 (and2 (and2 (and2 (and2 (and2 c0 c1) c2) c3) c4) c5) c6) c7) c8) c9) c10) c11) c12) c13) c14) c15) c16) c17) c18) c19) c20) c21) c22) c23) c24) c25) c26) c27) c28) c29) c30) c31)
theorem over : Rows.treeCallsRow.holds Tryz.pinned (OpenSpec.ofChange Rows.treeCallsSpec) :=
  OpenClaim.holds_of_wide 6 Tryz.f6 rfl rfl rfl rfl rfl rfl rfl ⟨rfl, rfl, rfl, rfl, rfl⟩ rfl rfl rfl rfl rfl nmd Tryz.func6 closed inst wrap (fun os started H enc _ => lifted os started H enc)
end Go.Proofs.YtdieogcemmnaaaaGreatDoor.treeCalls

