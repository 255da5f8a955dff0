/- Texts of this claim, joined: TreeF, TreeG, TreeH, Sized, In, Ins, Ptrs, TreeI, TrLaw04, In04, Lw4A, Lw4R, Reach, TrRef04, TrRd, Rdr. No condition. -/
import Derived.Test.YtdieogcemmnaaaaGreatDoorTCJ1
import Derived.Test.YtdieogcemmnaaaaGreatDoorTCJ3
import Derived.SizedLaws
import Derived.ProofKit
import Derived.OpenShut
import Derived.Deep.Slices
import Derived.Lib.SmallJoins
import Derived.Below
import Derived.KernelRfl
set_option linter.unusedSimpArgs false
set_option linter.unusedVariables false
/- The tree package: contracts of the calls that write and that ask. No condition. -/
namespace Go.Proofs.YtdieogcemmnaaaaGreatDoor
set_option linter.unusedSimpArgs false
set_option linter.unusedVariables false
open Go.Proofs.YtdieogcemmnaaaaGreatDoor RX
set_option maxRecDepth 100000

variable {b : Nat} {t : TS}
theorem semW_sllo {i j : Nat} {t ty : TypeId} {u v : Value} (h : i ≠ j) : semW (.slice t (.tmp i) (some (.tmp j)) none none) ty [(i, u), (j, v)] = sliceS t u (some v) none none := by
  have hb : (i == j) = false := by simpa using h
  simp [semW, execOp, arW, sliceS, List.find?, hb]
structure CallD (c : CallM) (S : HP) (d : List UInt8) : Prop where
  rd : RdL S c.da c.dl (d.map u8v)
  len : d.length = c.dl
  some' : c.dl ≠ 0 → c.da.isSome = true
set_option maxHeartbeats 1000000 in
theorem tCut_ok {B : Nat} (wf : TWf B t.pub) (c : CallM) (S : HP) : Tri Tryz.prog 68 #[.pointer (some ⟨b, 0, none⟩), c.val] (HP.sep (TRep b t) S)
    (fun v => HP.ex fun t' : TS => HP.and (v = .int .i64 (cutS t.pub c.path c.n).2 ∧ t'.pub = (cutS t.pub c.path c.n).1) (HP.sep (TRep b t') S)) := by
  refine tri_of_tree (ρ := [.n b, .p (TRep b t), .i c.kind, .s c.path, .s c.other, .i c.off, .i c.n, .a c.da, .n c.dl, .n c.dc, .p S]) mixed Tryz.func68 tree_tCut ?_
  unfold t_tCut
  simp only [T.den, E.prop, E.den, RX.look, F1.app, F2.app, Uni.int_i, Uni.nat_n, Uni.bool_c, Uni.str_s, Uni.adr_a, Uni.val_v, Uni.hp_p, hden, cden, V.den, W.den, A.den, BR.den, SA.den, FV.den, capV, exs, exP, allP, Cur.app, List.map_cons, List.map_nil, List.cons_append, List.nil_append, List.drop_succ_cons, List.drop_zero, List.length_cons, List.length_nil, Nat.zero_add, Nat.reduceAdd, Int.neg_neg, Bool.not_not, List.append_nil, Nat.add_zero, List.getElem?_cons_zero, List.getElem?_cons_succ, Decidable.not_not, semW_eq, semW_load, semW_store, semW_storeC, semW_append, semW_lookup, semW_lookupC, semW_update, semW_updateC, semW_updateK, semW_delete, semW_range, semW_next, semW_entry, semW_nil, ne_eq, Nat.reduceEqDiff, not_false_eq_true]
  intro x0
  refine (tFile_ok wf c.path).weak (fun _ _ h => h) ?_
  rintro v R h ⟨rfl, H⟩
  obtain ⟨T1, hT1⟩ : ∃ q, cutS t.pub c.path c.n = q := ⟨_, rfl⟩
  rw [hT1]
  unfold cutS at hT1
  by_cases hf : (fileS t.pub c.path).2 = 0
  · rw [if_neg (by simp [hf])] at hT1
    rw [if_pos hf]
    obtain ⟨n, h4, hk2, -⟩ := file_at wf hf
    obtain ⟨y, j, hj, rfl, hjn, hjh, hjp, hjm⟩ := hnIdx h4
    rw [hjp]
    refine ⟨.pointer (some ⟨y.nb, 0, none⟩), HP.tt, _, _, rfl, ⟨fun h => absurd hf h, fun _ => ⟨fun h => .of fun R' h' H => ⟨t, ⟨?_, ?_⟩, H⟩, fun hn0 => ⟨fun h => .of fun R' h' H => ⟨t, ⟨?_, ?_⟩, H⟩, fun hn1 => ?_⟩⟩⟩, HP.tt_sep H⟩
    · rw [if_pos h] at hT1; rw [← hT1]
    · rw [if_pos h] at hT1; rw [← hT1]
    · rw [if_neg hn0, if_pos h] at hT1; rw [← hT1]
    · rw [if_neg hn0, if_pos h] at hT1; rw [← hT1]
    rw [if_neg hn0, if_neg hn1] at hT1
    obtain ⟨k, hk⟩ := Int.eq_ofNat_of_zero_le (Int.not_lt.1 hn0)
    rw [hk] at hT1 ⊢
    refine (tResize_ok hj k (by omega)).weak (fun _ _ H => HP.sep_right H) ?_
    rintro v R h ⟨a', c', ⟨rfl, ha⟩, H⟩
    refine ⟨HP.tt, _, rfl, .of fun R h H => ⟨_, ⟨by rw [← hT1], ?_⟩, H⟩, HP.tt_sep H⟩
    rw [← hT1]
    exact pubSet wf.nd hj hjn (f := fD fun l => sizeD l (k : Int).toNat) rfl
  · refine ⟨.pointer none, HP.tt, (fileS t.pub c.path).1, (fileS t.pub c.path).2, ?_, ⟨fun _ => .of fun R h H => ⟨t, ⟨?_, ?_⟩, H⟩, fun h => absurd h hf⟩, HP.tt_sep H⟩
    · rw [if_neg hf]; rfl
    · rw [if_pos hf] at hT1; rw [← hT1]
    · rw [if_pos hf] at hT1; rw [← hT1]
set_option maxHeartbeats 1000000 in
theorem tWrite_ok {B : Nat} (wf : TWf B t.pub) (c : CallM) (S : HP) (d : List UInt8) (hd : CallD c S d) : Tri Tryz.prog 66 #[.pointer (some ⟨b, 0, none⟩), c.val] (HP.sep (TRep b t) S)
    (fun v => HP.ex fun t' : TS => HP.and (v = .int .i64 (writeS t.pub c.path c.off d).2 ∧ t'.pub = (writeS t.pub c.path c.off d).1) (HP.sep (TRep b t') S)) := by
  refine tri_of_tree (ρ := [.n b, .p (TRep b t), .i c.kind, .s c.path, .s c.other, .i c.off, .i c.n, .a c.da, .n c.dl, .n c.dc, .p S]) mixed Tryz.func66 tree_tWrite ?_
  unfold t_tWrite
  simp only [T.den, E.prop, E.den, RX.look, F1.app, F2.app, Uni.int_i, Uni.nat_n, Uni.bool_c, Uni.str_s, Uni.adr_a, Uni.val_v, Uni.hp_p, hden, cden, V.den, W.den, A.den, BR.den, SA.den, FV.den, capV, exs, exP, allP, Cur.app, List.map_cons, List.map_nil, List.cons_append, List.nil_append, List.drop_succ_cons, List.drop_zero, List.length_cons, List.length_nil, Nat.zero_add, Nat.reduceAdd, Int.neg_neg, Bool.not_not, List.append_nil, Nat.add_zero, List.getElem?_cons_zero, List.getElem?_cons_succ, Decidable.not_not, semW_eq, semW_load, semW_store, semW_storeC, semW_append, semW_lookup, semW_lookupC, semW_update, semW_updateC, semW_updateK, semW_delete, semW_range, semW_next, semW_entry, semW_nil, ne_eq, Nat.reduceEqDiff, not_false_eq_true]
  intro x0
  refine (tFile_ok wf c.path).weak (fun _ _ h => h) ?_
  rintro v R h ⟨rfl, H⟩
  obtain ⟨T1, hT1⟩ : ∃ q, writeS t.pub c.path c.off d = q := ⟨_, rfl⟩
  rw [hT1]
  unfold writeS at hT1
  by_cases hf : (fileS t.pub c.path).2 = 0
  · rw [if_neg (by simp [hf])] at hT1
    rw [if_pos hf]
    obtain ⟨n, h4, hk2, -⟩ := file_at wf hf
    obtain ⟨y, j, hj, rfl, hjn, hjh, hjp, hjm⟩ := hnIdx h4
    rw [hjp]
    have hlen := hd.len
    refine ⟨.pointer (some ⟨y.nb, 0, none⟩), HP.tt, _, _, rfl, ⟨fun h => absurd hf h, fun _ => ⟨fun h => .of fun R h H => ⟨t, ⟨?_, ?_⟩, H⟩, fun hn0 => ⟨fun h => .of fun R h H => ⟨t, ⟨?_, ?_⟩, H⟩, fun hn1 => ⟨inI64' _ (by omega) (by omega), fun _ => ⟨fun h => .of fun R h H => ⟨t, ⟨?_, ?_⟩, H⟩, fun hn2 => ⟨fun h => .of fun R h H => ⟨t, ⟨?_, ?_⟩, H⟩, fun hn3 => ?_⟩⟩⟩⟩⟩⟩, HP.tt_sep H⟩
    · rw [if_pos (by omega)] at hT1; rw [← hT1]
    · rw [if_pos (by omega)] at hT1; rw [← hT1]
    · rw [if_pos (by omega)] at hT1; rw [← hT1]
    · rw [if_pos (by omega)] at hT1; rw [← hT1]
    · rw [if_neg (by omega), if_pos (by omega)] at hT1; rw [← hT1]
    · rw [if_neg (by omega), if_pos (by omega)] at hT1; rw [← hT1]
    · rw [if_neg (by omega), if_neg (by omega), if_pos (List.length_eq_zero_iff.1 (by omega))] at hT1; rw [← hT1]
    · rw [if_neg (by omega), if_neg (by omega), if_pos (List.length_eq_zero_iff.1 (by omega))] at hT1; rw [← hT1]
    rw [if_neg (by omega), if_neg (by omega), if_neg (fun e => by rw [e] at hlen; simp at hlen; omega)] at hT1
    obtain ⟨k, hk⟩ := Int.eq_ofNat_of_zero_le (Int.not_lt.1 hn0)
    rw [hk] at hT1 hn2 ⊢
    have hN : max (y.p.data.length : Int) (k + c.dl) = ((max y.p.data.length (k + c.dl) : Nat) : Int) := by omega
    have hNb : max y.p.data.length (k + c.dl) ≤ 100000 := by have := (wf.at' h4).1.data; omega
    refine ⟨y.nb, nilChk', y.da, y.p.data.length, y.dc, rdU (ldData hjm), inI64' _ (by omega) (by omega), fun _ => ?_⟩
    rw [hN]
    refine (tResize_ok hj _ hNb).weak (fun _ _ H => HP.sep_right H) ?_
    rintro v R h ⟨a', c', ⟨rfl, ha⟩, H⟩
    obtain ⟨y1, hy1⟩ : ∃ q, y.setD a' c' (sizeD y.p.data (max y.p.data.length (k + c.dl))) = q := ⟨_, rfl⟩
    have hy1d : y1.p.data = sizeD y.p.data (max y.p.data.length (k + c.dl)) := by rw [← hy1]; rfl
    have hy1l : y1.p.data.length = max y.p.data.length (k + c.dl) := by rw [hy1d, sizeD_len]
    have hj1 : (t.setN j y1).ns[j]? = some y1 := by have := setN_at (z := y1) hj hj; rwa [if_pos rfl] at this
    have hjm1 := List.mem_of_getElem? hj1
    have hnb : y1.nb = y.nb := by rw [← hy1]; rfl
    have hda : y1.da = a' := by rw [← hy1]; rfl
    rw [hy1] at H
    have hcap : y1.p.data.length ≤ y1.dc := OwC.le (HP.sep_left (HP.sep_right (TRep.node H hjm1)))
    refine ⟨HP.tt, _, rfl, ?_, HP.tt_sep H⟩
    obtain ⟨j8, hj8, z1, z2, z3⟩ := info_parts info8
    have hcd : k < y1.dc := by omega
    have sl := slice_ok undB8 hj8 (HP.sep HP.tt (TRep b (t.setN j y1))) y1.da y1.p.data.length y1.dc (some k) none none (by simp; omega) (by simpa using hcap) (Nat.le_refl _) (fun h => by cases h)
    simp only [Option.getD_some, Option.getD_none, if_neg (show ¬ y1.dc = k by omega), show szT Tryz.prog 5 = 1 from by kernel_rfl, Nat.mul_one] at sl
    rw [← hnb]
    refine ⟨y1.nb, nilChk', y1.da, y1.p.data.length, y1.dc, rdU (ldData hjm1), y1.da.map (fun x => x.add k), y1.p.data.length - k, y1.dc - k, ?_, ?_⟩
    · rw [semW_sllo (by decide)]; exact sl
    rw [semW_copy (by decide)]
    have cp := cpData (b := b) (S := S) hj1 (ty := 3) (o := k) (dl := y1.p.data.length - k) (dc := y1.dc - k) (m := c.dl) (c2 := c.dc) (d := d) hd.rd hd.len hd.some' (fun e => by have := hd.some' (by omega); rw [e] at this; cases this) (by rw [hda]; exact ha) (by omega)
    have hmin : min c.dl (y1.p.data.length - k) = c.dl := by omega
    rw [hmin] at cp
    refine cp.weak (fun _ _ H => HP.sep_right H) ?_
    rintro v R h ⟨rfl, H⟩
    refine ⟨_, HP.tt, _, rfl, .of fun R h H => ⟨_, ⟨by rw [← hT1], ?_⟩, H⟩, HP.tt_sep H⟩
    rw [← hT1]
    have e1 : ((t.setN j y1).setN j (y1.setD y1.da y1.dc (y1.p.data.take k ++ d.take c.dl ++ y1.p.data.drop (k + c.dl)))) = t.setN j (y1.setD y1.da y1.dc (y1.p.data.take k ++ d.take c.dl ++ y1.p.data.drop (k + c.dl))) := by
      unfold TS.setN; simp only [List.set_set]
    rw [e1]
    refine pubSet wf.nd hj hjn (f := fD (wrote (k : Int).toNat d)) ?_
    have e2 : y1.p.data.take k ++ d.take c.dl ++ y1.p.data.drop (k + c.dl) = wrote (k : Int).toNat d y.p.data := by
      rw [hy1d]
      unfold wrote
      rw [hlen, List.take_of_length_le (Nat.le_of_eq hlen)]
      rfl
    rw [e2, ← hy1]; rfl
  · refine ⟨.pointer none, HP.tt, (fileS t.pub c.path).1, (fileS t.pub c.path).2, ?_, ⟨fun _ => .of fun R h H => ⟨t, ⟨?_, ?_⟩, H⟩, fun h => absurd h hf⟩, HP.tt_sep H⟩
    · rw [if_neg hf]; rfl
    · rw [if_pos hf] at hT1; rw [← hT1]
    · rw [if_pos hf] at hT1; rw [← hT1]
end Go.Proofs.YtdieogcemmnaaaaGreatDoor

/- The tree package: contracts of the calls that ask. No condition. -/
namespace Go.Proofs.YtdieogcemmnaaaaGreatDoor
set_option linter.unusedSimpArgs false
set_option linter.unusedVariables false
open Go.Proofs.YtdieogcemmnaaaaGreatDoor RX
set_option maxRecDepth 100000

variable {b : Nat} {t : TS}
def readS (T : List Nd) (path : Nm) (off n : Int) : Int × List UInt8 :=
  if (fileS T path).2 ≠ 0 then ((fileS T path).2, []) else if off < 0 ∨ n < 0 ∨ 256 < n then (1, []) else match nodeAt T (fileS T path).1 with
    | none => (0, [])
    | some x => (0, (x.data.drop off.toNat).take n.toNat)
/-- An answer: its error, kind, size, links, bytes, names. -/
structure AnsM where
  err : Int := 0
  kind : Int := 0
  size : Int := 0
  links : Int := 0
  data : List UInt8 := []
  names : List Nm := []
def AnsM.at (a : AnsM) (da : Option Addr) (dc : Nat) (na : Option Addr) (nc : Nat) : Value :=
  .agg #[.int .i64 a.err, .int .i64 a.kind, .int .i64 a.size, .int .i64 a.links, .slice da a.data.length dc, .slice na a.names.length nc]
/-! what is drawn out of an assertion -/
def HP.conj (A : HP) (C : HP) : HP := ⟨fun R h => A.p R h ∧ C.p R h, fun l1 l2 ⟨h1, h2⟩ => ⟨A.mono l1 l2 h1, C.mono l1 l2 h2⟩⟩
theorem Tri.draw {P : Program} {f : FuncId} {args : Array Value} {A : HP} {B : Value → HP} {α : Type} {A' : α → HP} (h : ∀ R h, A.p R h → ∃ x, (A' x).p R h) (t : ∀ x, Tri P f args (A' x) B) : Tri P f args A B := fun w R hh F s a => by
  obtain ⟨x, hx⟩ := h R hh a
  exact t x w R hh F s hx
theorem sort_eq {α : Type} [LT α] [LE α] [DecidableRel (α := α) (· ≤ ·)] (tr : ∀ a b c : α, a ≤ b → b ≤ c → a ≤ c) (tot : ∀ a b : α, a ≤ b ∨ b ≤ a) (anti : ∀ a b : α, a ≤ b → b ≤ a → a = b) {ys zs : List α} (h : ys.Perm zs) (hs : zs.Pairwise (· ≤ ·)) : (ys.mergeSort fun x y => decide (x ≤ y)) = zs := by
  refine List.Perm.eq_of_pairwise (le := (· ≤ ·)) (fun a b _ _ => anti a b) ?_ hs ((List.mergeSort_perm ys _).trans h)
  have := List.pairwise_mergeSort (le := fun x y : α => decide (x ≤ y)) (fun a b c h1 h2 => by simp only [decide_eq_true_eq] at *; exact tr a b c h1 h2) (fun a b => by simpa using tot a b) ys
  exact this.imp fun h => by simpa using h
theorem entsDraw {x : HN} (hx : x ∈ t.ns) {X : HP} {R h : PH} (H : (HP.sep X (TRep b t)).p R h) : ∃ q : AL Nm × Nat, (HP.sep X (HP.conj (TRep b t) ⟨fun _ h => x.p.kind = 1 → MapI q.1 q.2 ∧ (∀ k, alFind k q.1 = (lk x.p.ents k).map fun n => Value.int .i64 n) ∧ h x.mb = some (mapObj sE q.1 q.2), fun _ l hh hd => ⟨(hh hd).1, (hh hd).2.1, l _ _ (hh hd).2.2⟩⟩)).p R h := by
  obtain ⟨h1, h2, d, l1, l2, H1, H2⟩ := H
  by_cases hd : x.p.kind = 1
  · obtain ⟨l, c, hI, hk, hh⟩ := NRep.emap (TRep.node H2 hx) hd
    exact ⟨(l, c), h1, h2, d, l1, l2, H1, H2, fun _ => ⟨hI, hk, hh⟩⟩
  · exact ⟨([], 0), h1, h2, d, l1, l2, H1, H2, fun e => absurd e hd⟩
theorem sortedEnts {B : Nat} {x : HN} (hx : x ∈ t.ns) (g : GoodN B x.p) (hB : B ≤ 100000) (kx : Nat) :
    Tri Tryz.prog 74 #[.func (.func 138) #[] #[.pointer (some ⟨kx, 0, none⟩)]] (HP.sep (KBoxS kx x.mapo) (TRep b t))
      (fun v => HP.ex fun a => HP.ex fun cc => HP.and (v = .slice a x.p.ents.length cc) (HP.sep (OwS a x.p.ents.length cc (x.p.ents.map (·.1))) (HP.sep (KBoxS kx x.mapo) (TRep b t)))) := by
  by_cases hd : x.p.kind = 1
  · refine Tri.draw (fun R h H => entsDraw hx H) fun q => ?_
    obtain ⟨l, c⟩ := q
    refine Tri.fact (φ := MapI l c ∧ ∀ k, alFind k l = (lk x.p.ents k).map fun n => Value.int .i64 n) (fun R h H => ⟨((HP.sep_right H).2 hd).1, ((HP.sep_right H).2 hd).2.1⟩) fun ⟨hI, hk⟩ => ?_
    have hlen := EntM.len (mb := 0) (nodupE g.sort) hI hk
    have hmo : x.mapo = some x.mb := by unfold HN.mapo; rw [if_pos hd]
    have := g.efew
    refine (sortedS_ok kx x.mapo l c _ hI (fun y hy => ?_) (fun mb e R h H => ?_) (fun e => by rw [hmo] at e; cases e) (by omega)).weak (fun _ _ h => h) ?_
    · obtain ⟨k, v, z⟩ := y
      have h1 := alFind_mem k v z l hI.1 hy
      rw [hk] at h1
      obtain ⟨n, _, h2⟩ := Option.map_eq_some_iff.1 h1
      exact ⟨n, h2.symm⟩
    · rw [hmo] at e; cases e
      exact (H.2 hd).2.2
    · rintro v R h ⟨ys, a, cc, ⟨hp, rfl⟩, H⟩
      have hp2 : ys.Perm (x.p.ents.map (·.1)) := hp.trans (al_perm hI.1 (nodupE g.sort) (lk x.p.ents) (fun k => by rw [hk]; cases lk x.p.ents k <;> rfl) (fun k => lk_keys k x.p.ents))
      rw [sort_eq (fun a b c => List.le_trans) (fun a b => List.le_total a b) (fun a b => List.le_antisymm) hp2 (g.sort.imp fun h => List.le_of_lt h)] at H
      have hl : ys.length = x.p.ents.length := by rw [hp2.length_eq, List.length_map]
      rw [hl] at H ⊢
      exact ⟨a, cc, rfl, HP.sep_mono H (fun _ h => h) fun z hz => HP.sep_mono hz (fun _ h => h) fun u hu => hu.1⟩
  · have he : x.p.ents = [] := by
      rcases g.kind with ⟨h, _⟩ | ⟨_, h⟩
      · exact absurd h hd
      · exact h
    have hmo : x.mapo = none := by unfold HN.mapo; rw [if_neg hd]
    refine (sortedS_ok kx x.mapo [] 0 (TRep b t) (MapI.nil 0) (fun y hy => by cases hy) (fun mb e R h H => by rw [hmo] at e; cases e) (fun e => rfl) (by simp)).weak (fun _ _ h => h) ?_
    rintro v R h ⟨ys, a, cc, ⟨hp, rfl⟩, H⟩
    have : ys = [] := List.Perm.eq_nil (by simpa using hp)
    subst this
    rw [he]
    rw [List.mergeSort_nil] at H
    exact ⟨a, cc, rfl, H⟩
theorem nodsDraw {X : HP} {R h : PH} (H : (HP.sep X (TRep b t)).p R h) : ∃ q : AL Int × Nat, (HP.sep X (HP.conj (TRep b t) ⟨fun _ h => MapI q.1 q.2 ∧ (∀ k, alFind k q.1 = nodeV t.ns k) ∧ h t.mb = some (mapObj i64v q.1 q.2), fun _ l hh => ⟨hh.1, hh.2.1, l _ _ hh.2.2⟩⟩)).p R h := by
  obtain ⟨h1, h2, d, l1, l2, H1, H2⟩ := H
  obtain ⟨l, c, hI, hk, hh⟩ := TRep.nmap H2
  exact ⟨(l, c), h1, h2, d, l1, l2, H1, H2, hI, hk, hh⟩
theorem TWf.few {B : Nat} {t : TS} (wf : TWf B t.pub) : t.ns.length ≤ 64 := by
  have hp : ((t.ns.map fun x => (x.p.num : Int))).length ≤ 64 := by
    have hsub : ((t.pub.map (·.num)).filter fun k => decide (k < 64)).Perm ((List.range 64).filter fun k => (nodeAt t.pub k).isSome) := by
      refine (List.perm_ext_iff_of_nodup (wf.nd.sublist List.filter_sublist) (List.nodup_range.sublist List.filter_sublist)).2 fun k => ?_
      rw [List.mem_filter, List.mem_filter, List.mem_range]
      constructor
      · rintro ⟨h1, h2⟩
        obtain ⟨n, hn, rfl⟩ := List.mem_map.1 h1
        exact ⟨by simpa using h2, by rw [mem_nodeAt wf.nd hn]; rfl⟩
      · rintro ⟨h1, h2⟩
        obtain ⟨n, hn⟩ := Option.isSome_iff_exists.1 h2
        exact ⟨List.mem_map.2 ⟨n, (nodeAt_mem hn).1, (nodeAt_mem hn).2⟩, by simpa using h1⟩
    have h1 := hsub.length_eq
    have h2 := List.length_filter_le (fun k => (nodeAt t.pub k).isSome) (List.range 64)
    have h3 : ((t.pub.map (·.num)).filter fun k => decide (k < 64)) = t.pub.map (·.num) := by
      rw [List.filter_eq_self]
      intro k hk
      obtain ⟨n, hn, rfl⟩ := List.mem_map.1 hk
      simpa using (wf.good n hn).num
    rw [h3, List.length_map] at h1
    rw [show t.pub.length = t.ns.length from by unfold TS.pub; rw [List.length_map]] at h1
    rw [List.length_range] at h2
    rw [List.length_map]; omega
  simpa using hp
theorem sortedNodes {B : Nat} (wf : TWf B t.pub) (kx : Nat) :
    Tri Tryz.prog 71 #[.func (.func 135) #[] #[.pointer (some ⟨kx, 0, none⟩)]] (HP.sep (KBoxI kx (some t.mb)) (TRep b t))
      (fun v => HP.ex fun a => HP.ex fun cc => HP.and (v = .slice a t.ns.length cc) (HP.sep (OwI a t.ns.length cc (t.ns.map fun x => (x.p.num : Int))) (HP.sep (KBoxI kx (some t.mb)) (TRep b t)))) := by
  have hs : (t.ns.map fun x => (x.p.num : Int)).Pairwise (· < ·) := by
    have h1 := wf.sorted
    unfold TS.pub at h1
    rw [List.map_map] at h1
    have e : (t.ns.map fun x => (x.p.num : Int)) = (t.ns.map ((fun n : Nd => n.num) ∘ fun x : HN => x.p)).map (fun n : Nat => (n : Int)) := by rw [List.map_map]; rfl
    rw [e]
    exact List.Pairwise.map _ (fun a b h => by exact_mod_cast h) h1
  have hnd : (t.ns.map fun x => (x.p.num : Int)).Nodup := hs.imp fun h => by omega
  have hlen64 := wf.few
  refine Tri.draw (fun R h H => nodsDraw H) fun q => ?_
  obtain ⟨l, c⟩ := q
  refine Tri.fact (φ := MapI l c ∧ ∀ k, alFind k l = nodeV t.ns k) (fun R h H => ⟨(HP.sep_right H).2.1, (HP.sep_right H).2.2.1⟩) fun ⟨hI, hk⟩ => ?_
  have hp1 : (l.map (·.1)).Perm (t.ns.map fun x => (x.p.num : Int)) := al_perm hI.1 hnd (nodeV t.ns) (fun k => by rw [hk]) fun k => by
    unfold nodeV
    rw [Option.isSome_map, List.find?_isSome]
    simp [List.mem_map]
  have hlen : l.length = t.ns.length := by simpa using hp1.length_eq
  refine (sortedI_ok kx (some t.mb) l c _ hI (fun y hy => ?_) (fun mb e R h H => by cases e; exact H.2.2.2) (fun e => by cases e) (by omega)).weak (fun _ _ h => h) ?_
  · obtain ⟨k, v, z⟩ := y
    have h1 := alFind_mem k v z l hI.1 hy
    rw [hk] at h1
    obtain ⟨n, _, h2⟩ := Option.map_eq_some_iff.1 h1
    exact ⟨n.nb, h2.symm⟩
  · rintro v R h ⟨ys, a, cc, ⟨hp, rfl⟩, H⟩
    rw [sort_eq (fun a b c => Int.le_trans) (fun a b => Int.le_total a b) (fun a b => Int.le_antisymm) (hp.trans hp1) (hs.imp fun h => Int.le_of_lt h)] at H
    have hl : ys.length = t.ns.length := by rw [hp.length_eq, List.length_map, hlen]
    rw [hl] at H ⊢
    exact ⟨a, cc, rfl, HP.sep_mono H (fun _ h => h) fun z hz => HP.sep_mono hz (fun _ h => h) fun u hu => hu.1⟩
theorem RdL.sub {S : HP} {a : Option Addr} {n : Nat} {xs : List Value} (r : RdL S a n xs) (o k : Nat) (hk : o + k ≤ n) (z : Prop) [Decidable z] (hz : z → k = 0) : RdL S (if z then a else a.map fun x => x.add o) k ((xs.drop o).take k) where
  rd w R h F s H j u hj := by
    rw [List.getElem?_take] at hj
    split at hj
    · rename_i hjk
      rw [List.getElem?_drop] at hj
      obtain ⟨g, off, rfl, hc⟩ := r.rd w R h F s H (o + j) u hj
      rw [if_neg (fun h => by have := hz h; omega)]
      refine ⟨g, off + o, by rw [Option.map_some, RX.addr_add], ?_⟩
      rw [Nat.add_assoc]; exact hc
    · cases hj
  none R h H e := by
    split at e
    · rename_i h; exact hz h
    · have := r.none R h H (by simpa using e)
      omega
theorem semW_sllh {i j k : Nat} {t ty : TypeId} {u v x : Value} (h : i ≠ j) (h2 : i ≠ k) (h3 : j ≠ k) : semW (.slice t (.tmp i) (some (.tmp j)) (some (.tmp k)) none) ty [(i, u), (j, v), (k, x)] = sliceS t u (some v) (some x) none := by
  have hb : (i == j) = false := by simpa using h
  have hb2 : (i == k) = false := by simpa using h2
  have hb3 : (j == k) = false := by simpa using h3
  simp [semW, execOp, arW, sliceS, List.find?, hb, hb2, hb3]
/-- .. and the answers' parts. -/
def AnsR (da : Option Addr) (dc : Nat) (na : Option Addr) (nc : Nat) (a : AnsM) : HP := HP.sep (OwB da a.data.length dc a.data) (OwS na a.names.length nc a.names)
theorem AnsR.nil {a : AnsM} (hd : a.data = []) (hn : a.names = []) {A : HP} {R h : PH} (H : A.p R h) : (HP.sep (OwB none a.data.length 0 a.data) (HP.sep (OwS none a.names.length 0 a.names) A)).p R h := by
  rw [hd, hn]
  exact HP.sep_mono (HP.tt_sep H) (fun _ _ => OwC.nil _ _ _ _) fun z hz => HP.sep_mono (HP.tt_sep hz) (fun _ _ => OwC.nil _ _ _ _) fun _ h => h
/-- What a call gives that asks only: its answer, whose parts are its own. -/
def Told (b : Nat) (t : TS) (S : HP) (a : AnsM) (v : Value) : HP := HP.ex fun da => HP.ex fun dc => HP.ex fun na => HP.ex fun nc => HP.and (v = a.at da dc na nc) (HP.sep (OwB da a.data.length dc a.data) (HP.sep (OwS na a.names.length nc a.names) (HP.sep (TRep b t) S)))
theorem Told.nil {S : HP} {a : AnsM} {v : Value} (hd : a.data = []) (hn : a.names = []) (hv : v = a.at none 0 none 0) : HP.ent (HP.sep (TRep b t) S) (Told b t S a v) := .of fun R h H => ⟨none, 0, none, 0, hv, AnsR.nil hd hn H⟩
def readS' (T : List Nd) (path : Nm) (off n : Int) : AnsM := { err := (readS T path off n).1, data := (readS T path off n).2 }
def statS (T : List Nd) (path : Nm) : AnsM :=
  if (findS T path).2 ≠ 0 then { err := (findS T path).2 } else match nodeAt T (findS T path).1 with
    | none => {}
    | some x => { kind := x.kind, size := if x.kind = 1 then x.ents.length else x.data.length, links := x.links }
def listS (T : List Nd) (path : Nm) : AnsM :=
  if (findS T path).2 ≠ 0 then { err := (findS T path).2 } else match nodeAt T (findS T path).1 with
    | none => {}
    | some x => if x.kind ≠ 1 then { err := 23 } else { names := x.ents.map (·.1) }
set_option maxHeartbeats 1000000 in
theorem tList_ok {B : Nat} (hB : B ≤ 100000) (wf : TWf B t.pub) (c : CallM) (S : HP) : Tri Tryz.prog 70 #[.pointer (some ⟨b, 0, none⟩), c.val] (HP.sep (TRep b t) S) (Told b t S (listS t.pub c.path)) := by
  refine tri_of_tree (ρ := [.n b, .p (TRep b t), .i c.kind, .s c.path, .s c.other, .i c.off, .i c.n, .a c.da, .n c.dl, .n c.dc, .p S]) mixed Tryz.func70 tree_tList ?_
  unfold t_tList
  simp only [T.den, E.prop, E.den, RX.look, F1.app, F2.app, Uni.int_i, Uni.nat_n, Uni.bool_c, Uni.str_s, Uni.adr_a, Uni.val_v, Uni.hp_p, hden, cden, V.den, W.den, A.den, BR.den, SA.den, FV.den, capV, exs, exP, allP, Cur.app, List.map_cons, List.map_nil, List.cons_append, List.nil_append, List.drop_succ_cons, List.drop_zero, List.length_cons, List.length_nil, Nat.zero_add, Nat.reduceAdd, Int.neg_neg, Bool.not_not, List.append_nil, Nat.add_zero, List.getElem?_cons_zero, List.getElem?_cons_succ, Decidable.not_not, semW_eq, semW_load, semW_store, semW_storeC, semW_append, semW_lookup, semW_lookupC, semW_update, semW_updateC, semW_updateK, semW_delete, semW_range, semW_next, semW_entry, semW_nil, ne_eq, Nat.reduceEqDiff, not_false_eq_true]
  intro x0 x00
  refine (tFind_ok wf c.path).weak (fun _ _ h => h) ?_
  rintro v R h ⟨rfl, H⟩
  obtain ⟨T1, hT1⟩ : ∃ q, listS t.pub c.path = q := ⟨_, rfl⟩
  rw [hT1]
  unfold listS at hT1
  refine ⟨_, _, rfl, ?_, H⟩
  clear H
  obtain ⟨xn, hxn⟩ := Option.isSome_iff_exists.1 (findS_some wf c.path)
  obtain ⟨x, i, hi, rfl, hin, hih, hip, him⟩ := hnIdx hxn
  have hlk := lkNode (b := b) (t := t) (findS t.pub c.path).1
  rw [hih] at hlk
  refine ⟨fun hc => ?_, fun hc => ⟨t.mb, ldNodes, .pointer (some ⟨x.nb, 0, none⟩), hlk, x.nb, nilChk', x.p.kind, ldKind him, ⟨fun hk => ?_, fun hk => ?_⟩⟩⟩
  · rw [if_pos hc] at hT1; subst hT1
    exact Told.nil rfl rfl rfl
  · rw [if_neg (by simp [hc]), hxn] at hT1
    simp only at hT1
    rw [if_pos hk] at hT1; subst hT1
    exact Told.nil rfl rfl rfl
  · rw [if_neg (by simp [hc]), hxn] at hT1
    simp only at hT1
    rw [if_neg (by simp [hk])] at hT1
    have he := ldEnts (b := b) him
    have hmo : x.mapo = some x.mb := by unfold HN.mapo; rw [if_pos hk]
    rw [hmo] at he
    refine ⟨x.nb, nilChk', x.mb, he, ?_⟩
    refine (keysS_ok (some x.mb) (TRep b t)).weak (fun _ _ h => h) ?_
    rintro v R h ⟨kx, rfl, H⟩
    refine ⟨.func (.func 138) #[] #[.pointer (some ⟨kx, 0, none⟩)], KBoxS kx (some x.mb), rfl, ?_, H⟩
    clear H
    have so := sortedEnts (b := b) him (wf.good _ (wf.at' hxn).2.2) hB kx
    rw [hmo] at so
    refine so.weak (fun _ _ h => h) ?_
    rintro v R h ⟨a, cc, rfl, H⟩
    refine ⟨a, x.p.ents.length, cc, _, rfl, .of fun R h H => ?_, H⟩
    subst hT1
    refine ⟨none, 0, a, cc, ?_, ?_⟩
    · unfold AnsM.at; simp only [List.length_map]; rfl
    · refine HP.sep_mono (HP.tt_sep H) (fun _ _ => OwC.nil _ _ _ _) fun z hz => ?_
      simp only [List.length_map]
      exact HP.pick [_, _, _] [2, 0, 1] (by decide) rfl hz
set_option maxHeartbeats 1000000 in
theorem tStat_ok {B : Nat} (wf : TWf B t.pub) (c : CallM) (S : HP) : Tri Tryz.prog 69 #[.pointer (some ⟨b, 0, none⟩), c.val] (HP.sep (TRep b t) S) (Told b t S (statS t.pub c.path)) := by
  refine tri_of_tree (ρ := [.n b, .p (TRep b t), .i c.kind, .s c.path, .s c.other, .i c.off, .i c.n, .a c.da, .n c.dl, .n c.dc, .p S]) mixed Tryz.func69 tree_tStat ?_
  unfold t_tStat
  simp only [T.den, E.prop, E.den, RX.look, F1.app, F2.app, Uni.int_i, Uni.nat_n, Uni.bool_c, Uni.str_s, Uni.adr_a, Uni.val_v, Uni.hp_p, hden, cden, V.den, W.den, A.den, BR.den, SA.den, FV.den, capV, exs, exP, allP, Cur.app, List.map_cons, List.map_nil, List.cons_append, List.nil_append, List.drop_succ_cons, List.drop_zero, List.length_cons, List.length_nil, Nat.zero_add, Nat.reduceAdd, Int.neg_neg, Bool.not_not, List.append_nil, Nat.add_zero, List.getElem?_cons_zero, List.getElem?_cons_succ, Decidable.not_not, semW_eq, semW_load, semW_store, semW_storeC, semW_append, semW_lookup, semW_lookupC, semW_update, semW_updateC, semW_updateK, semW_delete, semW_range, semW_next, semW_entry, semW_nil, ne_eq, Nat.reduceEqDiff, not_false_eq_true]
  intro x0 x00
  refine (tFind_ok wf c.path).weak (fun _ _ h => h) ?_
  rintro v R h ⟨rfl, H⟩
  obtain ⟨T1, hT1⟩ : ∃ q, statS t.pub c.path = q := ⟨_, rfl⟩
  rw [hT1]
  unfold statS at hT1
  refine ⟨_, _, rfl, ?_, H⟩
  clear H
  obtain ⟨xn, hxn⟩ := Option.isSome_iff_exists.1 (findS_some wf c.path)
  obtain ⟨x, i, hi, rfl, hin, hih, hip, him⟩ := hnIdx hxn
  have hlk := lkNode (b := b) (t := t) (findS t.pub c.path).1
  rw [hih] at hlk
  refine ⟨fun hc => ?_, fun hc => ⟨t.mb, ldNodes, .pointer (some ⟨x.nb, 0, none⟩), hlk, x.nb, nilChk', x.da, x.p.data.length, x.dc, ldData him, x.nb, nilChk', x.p.kind, ldKind him, ⟨fun hk => ?_, fun hk => ?_⟩⟩⟩
  · rw [if_pos hc] at hT1; subst hT1
    exact Told.nil rfl rfl rfl
  · rw [if_neg (by simp [hc]), hxn] at hT1
    simp only at hT1
    rw [if_pos hk] at hT1; subst hT1
    have he := ldEnts (b := b) him
    have hmo : x.mapo = some x.mb := by unfold HN.mapo; rw [if_pos hk]
    rw [hmo] at he
    refine ⟨x.nb, nilChk', x.mb, he, x.p.ents.length, by rw [semW_len]; exact lenEnts him hk (nodupE (wf.at' hxn).1.sort), x.nb, nilChk', x.p.kind, ldKind him, x.nb, nilChk', x.p.links, ldLinks him, ?_⟩
    exact Told.nil rfl rfl rfl
  · rw [if_neg (by simp [hc]), hxn] at hT1
    simp only at hT1
    rw [if_neg hk] at hT1; subst hT1
    refine ⟨x.nb, nilChk', x.p.kind, ldKind him, x.nb, nilChk', x.p.links, ldLinks him, ?_⟩
    exact Told.nil rfl rfl rfl
set_option maxHeartbeats 1000000 in
theorem tRead_ok {B : Nat} (wf : TWf B t.pub) (c : CallM) (S : HP) : Tri Tryz.prog 67 #[.pointer (some ⟨b, 0, none⟩), c.val] (HP.sep (TRep b t) S) (Told b t S (readS' t.pub c.path c.off c.n)) := by
  refine tri_of_tree (ρ := [.n b, .p (TRep b t), .i c.kind, .s c.path, .s c.other, .i c.off, .i c.n, .a c.da, .n c.dl, .n c.dc, .p S]) mixed Tryz.func67 tree_tRead ?_
  unfold t_tRead
  simp only [T.den, E.prop, E.den, RX.look, F1.app, F2.app, Uni.int_i, Uni.nat_n, Uni.bool_c, Uni.str_s, Uni.adr_a, Uni.val_v, Uni.hp_p, hden, cden, V.den, W.den, A.den, BR.den, SA.den, FV.den, capV, exs, exP, allP, Cur.app, List.map_cons, List.map_nil, List.cons_append, List.nil_append, List.drop_succ_cons, List.drop_zero, List.length_cons, List.length_nil, Nat.zero_add, Nat.reduceAdd, Int.neg_neg, Bool.not_not, List.append_nil, Nat.add_zero, List.getElem?_cons_zero, List.getElem?_cons_succ, Decidable.not_not, semW_eq, semW_load, semW_store, semW_storeC, semW_append, semW_lookup, semW_lookupC, semW_update, semW_updateC, semW_updateK, semW_delete, semW_range, semW_next, semW_entry, semW_nil, ne_eq, Nat.reduceEqDiff, not_false_eq_true]
  intro x0 x00
  refine (tFile_ok wf c.path).weak (fun _ _ h => h) ?_
  rintro v R h ⟨rfl, H⟩
  obtain ⟨T1, hT1⟩ : ∃ q, readS' t.pub c.path c.off c.n = q := ⟨_, rfl⟩
  rw [hT1]
  unfold readS' readS at hT1
  by_cases hf : (fileS t.pub c.path).2 = 0
  · rw [if_neg (by simp [hf])] at hT1
    rw [if_pos hf]
    obtain ⟨n, h4, hk2, -⟩ := file_at wf hf
    obtain ⟨y, j, hj, rfl, hjn, hjh, hjp, hjm⟩ := hnIdx h4
    rw [hjp]
    rw [h4] at hT1
    simp only at hT1
    have hcap : y.p.data.length ≤ y.dc := OwC.le (HP.sep_left (HP.sep_right (TRep.node H hjm)))
    refine ⟨.pointer (some ⟨y.nb, 0, none⟩), HP.tt, _, _, rfl, ⟨fun h => absurd hf h, fun _ => ⟨fun h1 => ?_, fun h1 => ⟨fun h2 => ?_, fun h2 => ⟨fun h3 => ?_, fun h3 => ?_⟩⟩⟩⟩, HP.tt_sep H⟩
    · rw [if_pos (by omega)] at hT1; subst hT1; exact Told.nil rfl rfl rfl
    · rw [if_pos (by omega)] at hT1; subst hT1; exact Told.nil rfl rfl rfl
    · rw [if_pos (by omega)] at hT1; subst hT1; exact Told.nil rfl rfl rfl
    rw [if_neg (by omega)] at hT1
    obtain ⟨o, ho⟩ : ∃ o, min c.off.toNat y.p.data.length = o := ⟨_, rfl⟩
    obtain ⟨e, he⟩ : ∃ e, min (o + c.n.toNat) y.p.data.length = e := ⟨_, rfl⟩
    have e1 : min c.off (y.p.data.length : Int) = (o : Int) := by omega
    have e2 : min ((o : Int) + c.n) (y.p.data.length : Int) = (e : Int) := by omega
    have hdl := (wf.at' h4).1.data
    have hoe : o ≤ e := by omega
    have hel : e ≤ y.p.data.length := by omega
    obtain ⟨j8, hj8, z1, z2, z3⟩ := info_parts info8
    have sl := slice_ok undB8 hj8 (HP.sep HP.tt (TRep b t)) y.da y.p.data.length y.dc (some o) (some e) none (by simpa using hoe) (by simp; omega) (Nat.le_refl _) (fun h => by cases h)
    simp only [Option.getD_some, Option.getD_none, show szT Tryz.prog 5 = 1 from by kernel_rfl, Nat.mul_one] at sl
    refine ⟨y.nb, nilChk', y.da, y.p.data.length, y.dc, rdU (ldData hjm), by rw [e1]; exact inI64' _ (by omega) (by omega), fun _ => ⟨y.nb, nilChk', y.da, y.p.data.length, y.dc, rdU (ldData hjm), y.nb, nilChk', y.da, y.p.data.length, y.dc, rdU (ldData hjm), (if y.dc = o then y.da else y.da.map fun x => x.add o), e - o, y.dc - o, ?_, ?_⟩⟩
    · rw [semW_sllh (by decide) (by decide) (by decide), e1, e2]; exact sl
    have hr : RdL (HP.sep HP.tt (TRep b t)) (if y.dc = o then y.da else y.da.map fun x => x.add o) (e - o) (((y.p.data.drop o).take (e - o)).map u8v) := by
      have r0 := rdData (b := b) hjm
      have r1 : RdL (HP.sep HP.tt (TRep b t)) y.da y.p.data.length (y.p.data.map u8v) := ⟨r0.rd.right, fun R h H => r0.none R h (HP.sep_right H)⟩
      have := r1.sub o (e - o) (by omega) (y.dc = o) (fun h => by omega)
      rwa [← List.map_drop, ← List.map_take] at this
    have hd : (y.p.data.drop o).take (e - o) = (y.p.data.drop c.off.toNat).take c.n.toNat := by
      rcases Nat.le_total c.off.toNat y.p.data.length with h | h
      · have : o = c.off.toNat := by omega
        rw [this]
        rcases Nat.le_total (c.off.toNat + c.n.toNat) y.p.data.length with g | g
        · congr 1; omega
        · rw [List.take_of_length_le (by rw [List.length_drop]; omega), List.take_of_length_le (by rw [List.length_drop]; omega)]
      · have : e - o = 0 := by omega
        rw [this, List.take_zero, List.drop_eq_nil_of_le h, List.take_nil]
    refine (clone8_ok _ _ (e - o) (y.dc - o) ((y.p.data.drop o).take (e - o)) hr (by rw [List.length_take, List.length_drop]; omega) (by omega)).weak (fun _ _ h => h) ?_
    rintro v R h ⟨a', c', rfl, H⟩
    refine ⟨a', e - o, c', _, rfl, .of fun R h H => ?_, H⟩
    subst hT1
    have hl : ((y.p.data.drop c.off.toNat).take c.n.toNat).length = e - o := by rw [← hd, List.length_take, List.length_drop]; omega
    refine ⟨a', c', none, 0, ?_, ?_⟩
    · unfold AnsM.at; simp only [hl]; rfl
    · simp only [hl]
      rw [hd] at H
      exact HP.sep_mono (HP.pick [_, _, _] [2, 0, 1] (by decide) rfl H) (fun _ h => h) fun z hz => HP.sep_mono (HP.tt_sep hz) (fun _ _ => OwC.nil _ _ _ _) fun _ h => h
  · refine ⟨.pointer none, HP.tt, (fileS t.pub c.path).1, (fileS t.pub c.path).2, ?_, ⟨fun _ => ?_, fun h => absurd h hf⟩, HP.tt_sep H⟩
    · rw [if_neg hf]; rfl
    · rw [if_pos hf] at hT1; subst hT1
      exact Told.nil rfl rfl rfl
end Go.Proofs.YtdieogcemmnaaaaGreatDoor

/- The tree package: Do, New, Changes. No condition. -/
namespace Go.Proofs.YtdieogcemmnaaaaGreatDoor
set_option linter.unusedSimpArgs false
set_option linter.unusedVariables false
open Go.Proofs.YtdieogcemmnaaaaGreatDoor RX
set_option maxRecDepth 100000

variable {b : Nat} {t : TS}
def doS (T : List Nd) (kind : Int) (path other : Nm) (off n : Int) (d : List UInt8) : List Nd × AnsM :=
  if kind = 1 ∨ kind = 3 then ((makeS T kind path).1, { err := (makeS T kind path).2 })
  else if kind = 2 then ((rmdirS T path).1, { err := (rmdirS T path).2 })
  else if kind = 4 then ((unlinkS T path).1, { err := (unlinkS T path).2 })
  else if kind = 5 then ((linkS T path other).1, { err := (linkS T path other).2 })
  else if kind = 6 then ((renameS T path other).1, { err := (renameS T path other).2 })
  else if kind = 7 then ((writeS T path off d).1, { err := (writeS T path off d).2 })
  else if kind = 8 then (T, readS' T path off n)
  else if kind = 9 then ((cutS T path n).1, { err := (cutS T path n).2 })
  else if kind = 10 then (T, statS T path)
  else if kind = 11 then (T, listS T path)
  else if kind = 12 then (T, {})
  else (T, { err := 1 })
theorem TWf.do {B : Nat} {T : List Nd} (wf : TWf B T) (hB : 1 ≤ B) (kind : Int) (path other : Nm) (off n : Int) (d : List UInt8) : TWf (B + 1) (doS T kind path other off n d).1 := by
  unfold doS
  split
  · exact wf.make kind hB path
  split
  · exact wf.rmdir path
  split
  · exact wf.unlink path
  split
  · exact wf.link path other
  split
  · exact wf.rename path other
  split
  · exact (wf.write path off d).le (by omega)
  split
  · exact wf.le (by omega)
  split
  · exact (wf.cut path n).le (by omega)
  split
  · exact wf.le (by omega)
  split
  · exact wf.le (by omega)
  split
  · exact wf.le (by omega)
  · exact wf.le (by omega)
def DoPost (b : Nat) (r : List Nd × AnsM) (S : HP) (v : Value) : HP := HP.ex fun t' : TS => HP.and (t'.pub = r.1) (Told b t' S r.2 v)
theorem DoPost.err {r : List Nd × AnsM} {t' : TS} {S : HP} {v : Value} {e : Int} (hp : t'.pub = r.1) (hr : r.2 = { err := e }) (hv : v = AnsM.at { err := e } none 0 none 0) : HP.ent (HP.sep (TRep b t') S) (DoPost b r S v) := by
  refine .of fun R h H => ⟨t', hp, ?_⟩
  rw [hr]
  exact ⟨none, 0, none, 0, hv, AnsR.nil rfl rfl H⟩
theorem DoPost.told {r : List Nd × AnsM} {S : HP} {da na : Option Addr} {dc nc : Nat} (hp : t.pub = r.1) : HP.ent (HP.sep (TRep b t) (HP.sep S (HP.sep (OwB da r.2.data.length dc r.2.data) (OwS na r.2.names.length nc r.2.names)))) (DoPost b r S (r.2.at da dc na nc)) :=
  .of fun R h H => ⟨t, hp, da, dc, na, nc, rfl, HP.pick [_, _, _, _] [2, 3, 0, 1] (by decide) rfl H⟩
theorem doErr {f : FuncId} {args : Array Value} {S : HP} {X : List Nd × Int} {r : List Nd × AnsM} (tr : Tri Tryz.prog f args (HP.sep (TRep b t) S) (fun v => HP.ex fun t' : TS => HP.and (v = .int .i64 X.2 ∧ t'.pub = X.1) (HP.sep (TRep b t') S))) (hr : (X.1, ({ err := X.2 } : AnsM)) = r) :
    Tri Tryz.prog f args (HP.sep (TRep b t) S) (fun v => HP.ex fun x : Int => HP.ex fun x1 : HP => HP.ex fun x2 : HP => HP.and (v = .int .i64 x) (HP.and ((HP.sep x1 x2).ent (DoPost b r S (.agg #[.int .i64 x, .int .i64 0, .int .i64 0, .int .i64 0, .slice none 0 0, .slice none 0 0]))) (HP.sep x1 x2))) := by
  refine tr.weak (fun _ _ h => h) ?_
  rintro v R h ⟨t', ⟨rfl, hp⟩, H⟩
  exact ⟨X.2, TRep b t', S, rfl, DoPost.err (e := X.2) (by rw [← hr]; exact hp) (by rw [← hr]) rfl, H⟩
theorem doTold {f : FuncId} {args : Array Value} {S : HP} {a : AnsM} {r : List Nd × AnsM} (tr : Tri Tryz.prog f args (HP.sep (TRep b t) S) (Told b t S a)) (hr : (t.pub, a) = r) :
    Tri Tryz.prog f args (HP.sep (TRep b t) S) (fun v => HP.ex fun x : Int => HP.ex fun x1 : Int => HP.ex fun x2 : Int => HP.ex fun x3 : Int => HP.ex fun da : Option Addr => HP.ex fun dl : Nat => HP.ex fun dc : Nat => HP.ex fun dP : HP => HP.ex fun na : Option Addr => HP.ex fun nl : Nat => HP.ex fun nc : Nat => HP.ex fun nP : HP =>
      HP.and (v = .agg #[.int .i64 x, .int .i64 x1, .int .i64 x2, .int .i64 x3, .slice da dl dc, .slice na nl nc]) (HP.and ((HP.sep (TRep b t) (HP.sep S (HP.sep dP nP))).ent (DoPost b r S (.agg #[.int .i64 x, .int .i64 x1, .int .i64 x2, .int .i64 x3, .slice da dl dc, .slice na nl nc]))) (HP.sep dP (HP.sep nP (HP.sep (TRep b t) S))))) := by
  refine tr.weak (fun _ _ h => h) ?_
  rintro v R h ⟨da, dc, na, nc, rfl, H⟩
  refine ⟨a.err, a.kind, a.size, a.links, da, a.data.length, dc, _, na, a.names.length, nc, _, rfl, ?_, H⟩
  subst hr
  exact DoPost.told (r := (t.pub, a)) rfl
set_option maxHeartbeats 2000000 in
theorem tDo_ok {B : Nat} (hB : B ≤ 100000) (wf : TWf B t.pub) (c : CallM) (S : HP) (d : List UInt8) (hd : CallD c S d) : Tri Tryz.prog 18 #[.pointer (some ⟨b, 0, none⟩), c.val] (HP.sep (TRep b t) S) (DoPost b (doS t.pub c.kind c.path c.other c.off c.n d) S) := by
  refine tri_of_tree (ρ := [.n b, .p (TRep b t), .i c.kind, .s c.path, .s c.other, .i c.off, .i c.n, .a c.da, .n c.dl, .n c.dc, .p S]) mixed Tryz.func18 tree_tDo ?_
  unfold t_tDo
  simp only [T.den, E.prop, E.den, RX.look, F1.app, F2.app, Uni.int_i, Uni.nat_n, Uni.bool_c, Uni.str_s, Uni.adr_a, Uni.val_v, Uni.hp_p, hden, cden, V.den, W.den, A.den, BR.den, SA.den, FV.den, capV, exs, exP, allP, Cur.app, List.map_cons, List.map_nil, List.cons_append, List.nil_append, List.drop_succ_cons, List.drop_zero, List.length_cons, List.length_nil, Nat.zero_add, Nat.reduceAdd, Int.neg_neg, Bool.not_not, List.append_nil, Nat.add_zero, List.getElem?_cons_zero, List.getElem?_cons_succ, Decidable.not_not, semW_eq, semW_load, semW_store, semW_storeC, semW_append, semW_lookup, semW_lookupC, semW_update, semW_updateC, semW_updateK, semW_delete, semW_range, semW_next, semW_entry, semW_nil, ne_eq, Nat.reduceEqDiff, not_false_eq_true]
  obtain ⟨r, hr⟩ : ∃ q, doS t.pub c.kind c.path c.other c.off c.n d = q := ⟨_, rfl⟩
  rw [hr]
  unfold doS at hr
  intro x0 x00
  refine ⟨fun k => ?_, fun k1 => ⟨fun k => ?_, fun k3 => ⟨fun k => ?_, fun k2 => ⟨fun k => ?_, fun k4 => ⟨fun k => ?_, fun k5 => ⟨fun k => ?_, fun k6 => ⟨fun k => ?_, fun k7 => ⟨fun k => ?_, fun k8 => ⟨fun k => ?_, fun k9 => ⟨fun k => ?_, fun k10 => ⟨fun k => ?_, fun k11 => ⟨fun k => ?_, fun k12 => ?_⟩⟩⟩⟩⟩⟩⟩⟩⟩⟩⟩⟩
  · rw [if_pos (.inl k)] at hr
    exact doErr (tMake_ok wf c S) hr
  · rw [if_pos (.inr k)] at hr
    exact doErr (tMake_ok wf c S) hr
  all_goals rw [if_neg (by omega)] at hr
  · rw [if_pos k] at hr
    exact doErr (tRmdir_ok wf c S) hr
  all_goals rw [if_neg (by omega)] at hr
  · rw [if_pos k] at hr
    exact doErr (tUnlink_ok (by omega) wf c S) hr
  all_goals rw [if_neg (by omega)] at hr
  · rw [if_pos k] at hr
    exact doErr (tLink_ok (by omega) wf c S) hr
  all_goals rw [if_neg (by omega)] at hr
  · rw [if_pos k] at hr
    exact doErr (tRename_ok wf c S) hr
  all_goals rw [if_neg (by omega)] at hr
  · rw [if_pos k] at hr
    exact doErr (tWrite_ok wf c S d hd) hr
  all_goals rw [if_neg (by omega)] at hr
  · rw [if_pos k] at hr
    exact doTold (tRead_ok wf c S) hr
  all_goals rw [if_neg (by omega)] at hr
  · rw [if_pos k] at hr
    exact doErr (tCut_ok wf c S) hr
  all_goals rw [if_neg (by omega)] at hr
  · rw [if_pos k] at hr
    exact doTold (tStat_ok wf c S) hr
  all_goals rw [if_neg (by omega)] at hr
  · rw [if_pos k] at hr
    exact doTold (tList_ok hB wf c S) hr
  all_goals rw [if_neg (by omega)] at hr
  · rw [if_pos k] at hr
    exact DoPost.err (e := 0) (by rw [← hr]) (by rw [← hr]) rfl
  · rw [if_neg k12] at hr
    exact DoPost.err (e := 1) (by rw [← hr]) (by rw [← hr]) rfl
theorem semW_insert {i j : Nat} {t ty : TypeId} {u v k : Value} (h : i ≠ j) : semW (.insert t (.tmp i) (.const k) (.tmp j)) ty [(i, u), (j, v)] = updS t u k v := by
  have hb : (i == j) = false := by simpa using h
  simp [semW, execOp, arW, updS, List.find?, hb]
def newT : List Nd := [newNd 0 1]
theorem newT_wf : TWf 1 newT := by
  refine TWf.mk' (by simp [newT]) ⟨_, rfl, rfl⟩ (fun k n h => ?_) (fun k n h => ?_) (fun k n h h0 => ?_)
  · obtain ⟨h1, h2⟩ := nodeAt_mem h
    obtain rfl : n = newNd 0 1 := by simpa [newT] using h1
    exact ⟨.inl ⟨rfl, rfl, rfl⟩, by simp [newNd], by simp [newNd], by simp [newNd], by simp [newNd], by simp [newNd], by simp [newNd], by simp [newNd]⟩
  · obtain ⟨h1, h2⟩ := nodeAt_mem h
    obtain rfl : n = newNd 0 1 := by simpa [newT] using h1
    intro e he; simp [newNd] at he
  · obtain ⟨h1, h2⟩ := nodeAt_mem h
    obtain rfl : n = newNd 0 1 := by simpa [newT] using h1
    exact absurd h2.symm h0
theorem tNew_ok : Tri Tryz.prog 17 #[] HP.tt (fun v => HP.ex fun b : Nat => HP.ex fun t : TS => HP.and (v = .pointer (some ⟨b, 0, none⟩) ∧ t.pub = newT) (TRep b t)) := by
  refine tri_of_tree (ρ := []) mixed Tryz.func17 tree_tNew ?_
  unfold t_tNew
  simp only [T.den, E.prop, E.den, RX.look, F1.app, F2.app, Uni.int_i, Uni.nat_n, Uni.bool_c, Uni.str_s, Uni.adr_a, Uni.val_v, Uni.hp_p, hden, cden, V.den, W.den, A.den, BR.den, SA.den, FV.den, capV, exs, exP, allP, Cur.app, List.map_cons, List.map_nil, List.cons_append, List.nil_append, List.drop_succ_cons, List.drop_zero, List.length_cons, List.length_nil, Nat.zero_add, Nat.reduceAdd, Int.neg_neg, Bool.not_not, List.append_nil, Nat.add_zero, List.getElem?_cons_zero, List.getElem?_cons_succ, Decidable.not_not, semW_eq, semW_load, semW_store, semW_storeC, semW_append, semW_lookup, semW_lookupC, semW_update, semW_updateC, semW_updateK, semW_delete, semW_range, semW_next, semW_entry, semW_nil, ne_eq, Nat.reduceEqDiff, not_false_eq_true]
  intro mb
  refine tDir_ok.weak (fun _ _ h => h) ?_
  rintro v R h ⟨nb, em, rfl, H⟩
  refine ⟨.pointer (some ⟨nb, 0, none⟩), _, rfl, ?_, H⟩
  clear H
  rw [semW_insert (by decide)]
  have u := (upd_ok (r := mb) (l := []) (c := 0) kInt' undNM 0 (.pointer (some ⟨nb, 0, none⟩))).frame (HP.sep (HP.one nb (.cells #[.int .i64 1, .int .i64 1, .slice none 0 0, .map (some em)] 133 (0, 0))) (EntM em []))
  refine u.weak (fun _ _ h => h) ?_
  rintro v R h ⟨h1, h2, d, l1, l2, ⟨rfl, H1⟩, H2⟩
  refine ⟨HP.sep (HP.one mb (mapObj i64v (alPut 0 (.pointer (some ⟨nb, 0, none⟩)) 0 []) (alClock 0 [] 0))) (HP.sep (HP.one nb (.cells #[.int .i64 1, .int .i64 1, .slice none 0 0, .map (some em)] 133 (0, 0))) (EntM em [])), rfl, fun b => .of fun R h H => ⟨b, ⟨mb, [⟨newNd 0 1, nb, em, none, 0⟩]⟩, ⟨rfl, rfl⟩, ?_⟩, ⟨h1, h2, d, l1, l2, H1, H2⟩⟩
  refine HP.sep_mono H (fun _ h => h) fun z hz => HP.sep_mono hz (fun y hy => ?_) fun y hy => ?_
  · refine ⟨_, _, ⟨(MapI.nil 0).put 0 _, fun q => ?_⟩, hy⟩
    rw [alFind_put]
    unfold nodeV
    simp only [newNd, List.find?_cons, List.find?_nil]
    by_cases e : q = 0
    · subst e; rfl
    · rw [if_neg e]; simp [Ne.symm e]; rfl
  · exact sepN_cons.2 (HP.sep_tt (NRep.newD rfl hy))
theorem tChanges_ok (k : Int) : Tri Tryz.prog 25 #[.int .i64 k] HP.tt (fun v => HP.pure (v = .bool (decide (1 ≤ k ∧ k ≤ 9 ∧ k ≠ 8)))) := by
  refine tri_of_tree (ρ := [.i k]) mixed Tryz.func25 tree_tChanges ?_
  unfold t_tChanges
  simp only [T.den, E.prop, E.den, RX.look, F1.app, F2.app, Uni.int_i, Uni.nat_n, Uni.bool_c, Uni.str_s, Uni.adr_a, Uni.val_v, Uni.hp_p, hden, cden, V.den, W.den, A.den, BR.den, SA.den, FV.den, capV, exs, exP, allP, Cur.app, List.map_cons, List.map_nil, List.cons_append, List.nil_append, List.drop_succ_cons, List.drop_zero, List.length_cons, List.length_nil, Nat.zero_add, Nat.reduceAdd, Int.neg_neg, Bool.not_not, List.append_nil, Nat.add_zero, List.getElem?_cons_zero, List.getElem?_cons_succ, Decidable.not_not, semW_eq, semW_load, semW_store, semW_storeC, semW_append, semW_lookup, semW_lookupC, semW_update, semW_updateC, semW_updateK, semW_delete, semW_range, semW_next, semW_entry, semW_nil, ne_eq, Nat.reduceEqDiff, not_false_eq_true]
  have t1 : ∀ b : Bool, decide (1 ≤ k ∧ k ≤ 9 ∧ k ≠ 8) = b → HP.ent HP.tt (HP.pure (Value.bool b = .bool (decide (1 ≤ k ∧ k ≤ 9 ∧ k ≠ 8)))) := fun b h => .of fun R h' H => by rw [h]; rfl
  refine ⟨fun h => t1 _ ?_, fun h1 => ⟨fun h => t1 _ ?_, fun h2 => ⟨fun h => t1 _ ?_, fun h3 => ⟨fun h => t1 _ ?_, fun h4 => ⟨fun h => t1 _ ?_, fun h5 => ⟨fun h => t1 _ ?_, fun h6 => ⟨fun h => t1 _ ?_, fun h7 => ⟨fun h => t1 _ ?_, fun h8 => t1 _ ?_⟩⟩⟩⟩⟩⟩⟩⟩
  all_goals first | (rw [decide_eq_true_eq]; omega) | (rw [decide_eq_false_iff_not]; omega)
end Go.Proofs.YtdieogcemmnaaaaGreatDoor

/- What the form's own reach says of a part of what came in. No condition. -/
namespace Go.Proofs.YtdieogcemmnaaaaGreatDoor

theorem weights_mem_all {H : Type} {P : Program} {e : TypeId} : ∀ {l : List (DataW H)} {d : DataW H}, d ∈ l → ∀ n ∈ d.weights P e, n ∈ DataW.weightsAll P e l
  | x :: l, d, h, n, hn => by
    unfold DataW.weightsAll
    rcases List.mem_cons.1 h with h | h
    · subst h; exact List.mem_append.2 (.inl hn)
    · exact List.mem_append.2 (.inr (weights_mem_all h n hn))

/-- All that this datum holds is within the reach. -/
def Small {H : Type} (P : Program) (t : TypeId) (d : DataW H) : Prop := ∀ n ∈ d.weights P t, n ≤ reachBytes

section
variable {H : Type} {P : Program} {t e : TypeId}
theorem Small.arg {ts : List TypeId} {ds : List (DataW H)} (h : (DataW.weightsEach P ts ds).all (· ≤ reachBytes) = true) {j : Nat} {d : DataW H} (ht : ts[j]? = some t) (hd : ds[j]? = some d) : Small P t d := fun n hn => by
  have := List.all_eq_true.1 h n (DataW.weights_mem_each ht hd n hn)
  simpa using this
theorem Small.elem {elems spare : List (DataW H)} (h : Small P t (.slice elems spare)) (hu : P.underlying t = some (.slice e)) {d : DataW H} (hd : d ∈ elems) : Small P e d := fun n hn => by
  refine h n ?_
  simp only [DataW.weights, hu]
  exact List.mem_cons_of_mem _ (List.mem_append.2 (.inl (weights_mem_all hd n hn)))
theorem Small.part {fs : Array Field} {parts : List (DataW H)} (h : Small P t (.agg parts)) (hu : P.underlying t = some (.struct fs)) {i : Nat} {f : Field} {d : DataW H} (hf : fs[i]? = some f) (hd : parts[i]? = some d) : Small P f.type d := fun n hn => by
  refine h n ?_
  simp only [DataW.weights, hu]
  exact DataW.weights_mem_each (by rw [List.getElem?_map, Array.getElem?_toList, hf]; rfl) hd n hn
theorem Small.len {elems spare : List (DataW H)} (h : Small P t (.slice elems spare)) (hu : P.underlying t = some (.slice e)) : (elems.length + spare.length) * P.bytesOf e ≤ reachBytes := by
  refine h _ ?_
  simp [DataW.weights, hu]
end
end Go.Proofs.YtdieogcemmnaaaaGreatDoor

/- What came in, as assertions: bytes, ints; a contract, run. No condition. -/
namespace Go.Proofs.YtdieogcemmnaaaaGreatDoor
open Go.RowKit Go.ChangeShapes Go.WideShapes Go.Deep

/-- All of a world. -/
def allOf (w : World) : PH := fun k => w.heap[k]?
theorem allOf_sat (w : World) : Sat w (allOf w) PH.none' PH.none' := ⟨PH.dj_none _, PH.dj_none _, PH.dj_none _, fun _ _ e => e, fun _ _ e => (by cases e), fun _ _ e => (by cases e)⟩
/-- A contract over what only is read, run on a world. -/
theorem Tri.run {P : Program} {f : FuncId} {args : Array Value} {A : HP} {u : Value} (t : Tri P f args A (fun v => HP.pure (v = u))) {w : World} (hA : A.p (allOf w) PH.none') : Calls P f args w fun e w' => e = .returned u ∧ Below w.heap.size w w' := by
  refine (t w (allOf w) PH.none' PH.none' (allOf_sat w) hA).mono fun e w' ⟨v, he, sm, R', h', lR, s, hv⟩ => ?_
  have hv' : v = u := hv
  refine ⟨by rw [he, hv'], sm.os, sm.tape, sm.output, sm.size, fun k hk => ?_⟩
  obtain ⟨o, ho⟩ : ∃ o, w.heap[k]? = some o := ⟨w.heap[k], by simp [hk]⟩
  rw [ho]
  exact s.oR _ _ (lR _ _ ho)
section
variable {H : Type} {enc : TypeId × Value → H} {P : Program} {w : World} {base : Nat} {spare : Nat → Bool} {held : Bool}
theorem addr_plain {w : World} {a : Addr} {i : Nat} {v : Value} (h : w.cell? (a.add i) = some v) : a.add i = ⟨a.block, a.off + i, none⟩ ∧ w.cell? ⟨a.block, a.off + i, none⟩ = some v ∧ a.block < w.heap.size := by
  have key : a.add i = ⟨a.block, a.off + i, none⟩ := by
    unfold Addr.add
    split
    · rename_i e; subst e
      rw [Addr.add_zero'] at h
      obtain ⟨b, o, s⟩ := a
      cases s with
      | none => rfl
      | some s => simp [World.cell?] at h; split at h <;> simp_all
    · rfl
  rw [key] at h
  exact ⟨key, h, block_lt_of_cell (a := ⟨a.block, a.off + i, none⟩) h⟩
theorem spot_none {a : Addr} {v : Value} (h : w.cell? a = some v) : a.spot = none := by
  unfold World.cell? at h
  split at h
  · split at h
    · cases h
    · rename_i hh; simpa using hh
  · cases h
theorem take1 {cs : List Value} {i : Nat} {v : Value} (h : (cs.drop i).take 1 = [v]) : cs[i]? = some v := by
  have := congrArg List.head? h
  rw [List.head?_take, if_neg (by decide), List.head?_drop] at this
  simpa using this
theorem take1' {cs : List Value} {i : Nat} {v : Value} (h : cs[i]? = some v) : (cs.drop i).take 1 = [v] := by
  have hi : i < cs.length := (List.getElem?_eq_some_iff.1 h).1
  rw [List.drop_eq_getElem_cons hi, List.take_succ_cons, List.take_zero]
  rw [List.getElem?_eq_getElem hi] at h
  injection h with h
  rw [h]
theorem field_int {t : TypeId} {k : IntKind} {cs : List Value} {n i c : Nat} {xs : List (DataW H × List MemPlace)} {j : Nat} (hu : P.underlying t = some (.int k)) (hj : j < xs.length) (hc : c = 1)
    (h : DataW.trod enc P w base spare held n t ((cs.drop i).take c) = xs[j]?) : ∃ x, cs[i]? = some (.int k x) ∧ (Lit.int k x).wf = true := by
  subst hc
  rw [List.getElem?_eq_getElem hj] at h
  obtain ⟨x, h1, _, h2⟩ := DataW.trod_int hu h
  exact ⟨x, take1 h1, h2⟩
theorem field_bool {t : TypeId} {cs : List Value} {n i c : Nat} {xs : List (DataW H × List MemPlace)} {j : Nat} (hu : P.underlying t = some .bool) (hj : j < xs.length) (hc : c = 1)
    (h : DataW.trod enc P w base spare held n t ((cs.drop i).take c) = xs[j]?) : ∃ x, cs[i]? = some (.bool x) := by
  subst hc
  rw [List.getElem?_eq_getElem hj] at h
  obtain ⟨x, h1, _⟩ := DataW.trod_bool hu h
  exact ⟨x, take1 h1⟩
theorem field_slice {t e : TypeId} {cs : List Value} {n i c : Nat} {xs : List (DataW H × List MemPlace)} {j : Nat} (hu : P.underlying t = some (.slice e)) (hj : j < xs.length) (hc : c = 1)
    (h : DataW.trod enc P w base spare held n t ((cs.drop i).take c) = xs[j]?) : ∃ a l k, cs[i]? = some (.slice a l k) := by
  subst hc
  rw [List.getElem?_eq_getElem hj] at h
  obtain ⟨a, l, k, h1⟩ := Go.Joins.slice_form hu h
  exact ⟨a, l, k, take1 h1⟩
/-- Cells that lie side by side, as a slice that never turns. -/
theorem roC_of {size : Nat} {g off : Nat} {len : Nat} {xs : List Value} (hs : 0 < size) (hl : xs.length = len * size) (hx : ∀ i v, xs[i]? = some v → w.cell? ⟨g, off + i, none⟩ = some v) {h : PH} : (RoC size (some ⟨g, off, none⟩) len xs).p (allOf w) h := by
  refine ⟨hl, fun hn => ?_⟩
  have hpos : 0 < xs.length := by rw [hl]; exact Nat.mul_pos (by omega) hs
  have h0 := hx 0 xs[0] (List.getElem?_eq_getElem hpos)
  have hobj : ∃ cur ty fr, w.heap[g]? = some (.cells cur ty fr) := by
    unfold World.cell? at h0
    cases hg : w.heap[g]? with
    | none => simp [hg] at h0
    | some o => cases o <;> simp [hg] at h0 ⊢
  obtain ⟨cur, ty, fr, hg⟩ := hobj
  refine ⟨g, off, cur, ty, fr, rfl, hg, List.ext_getElem? fun i => ?_⟩
  rw [List.getElem?_take]
  split
  · rename_i hi
    have hxi := hx i xs[i] (List.getElem?_eq_getElem hi)
    rw [cell_at hg] at hxi
    rw [List.getElem?_drop, List.getElem?_eq_getElem hi]
    simpa using hxi
  · rename_i hi
    rw [List.getElem?_eq_none (by omega)]
/-- The bytes of a slice that came in. -/
theorem bytes_of_trod {fuel : Nat} {v : Value} {x : DataW H × List MemPlace} (h : DataW.trod enc Tryz.prog w 0 (fun _ => true) true fuel 28 [v] = some x) (hs : Small Tryz.prog 28 x.1) :
    ∃ (a : Option Addr) (l : List UInt8) (c : Nat), v = .slice a l.length c ∧ l.length ≤ 140737488355328 ∧ ∀ h, (RoB a l.length l).p (allOf w) h := by
  rcases open_slice1 Tryz.underlying28 (by kernel_rfl) h with ⟨hcs, hx⟩ | ⟨a, len, cap, m, n, V, D, Pl, hcs, _, hl, _, hm, hx0, hx⟩
  · simp at hcs
    subst hcs
    exact ⟨none, [], 0, rfl, by simp, fun h => RoC.nil _ _ _ _⟩
  · simp at hcs
    subst hcs
    have hlm : len ≤ m := by rw [hm]; simp only [if_true]; exact hl
    have hx' : ∀ i, i < len → ∃ q : UInt8, w.cell? (a.add i) = some (u8v q) := fun i hi => by
      obtain ⟨h1, h2⟩ := hx i (by omega)
      obtain ⟨q, hq, _, hw⟩ := DataW.trod_int Tryz.underlying5 h2
      simp at hq
      simp only [Lit.wf, Bool.and_eq_true, decide_eq_true_eq] at hw
      have h0 : (0 : Int) ≤ q := hw.1
      have h255 : q ≤ 255 := hw.2
      refine ⟨UInt8.ofNat q.toNat, ?_⟩
      rw [h1, hq]
      have e : ((UInt8.ofNat q.toNat).toNat : Int) = q := by
        rw [UInt8.toNat_ofNat']
        omega
      unfold u8v
      rw [e]
    obtain ⟨z, hz⟩ := choose_lt (p := fun i q => w.cell? (a.add i) = some (u8v q)) hx'
    have hb : len ≤ 140737488355328 := by
      rw [hx0] at hs
      have := hs.len Tryz.underlying28
      have hb : Tryz.prog.bytesOf 5 = 1 := by kernel_rfl
      rw [hb] at this
      unfold reachBytes at this
      simp at this
      omega
    have hlen : ((List.range len).map z).length = len := by simp
    refine ⟨some a, (List.range len).map z, cap, by rw [hlen], by rw [hlen]; exact hb, fun h => ?_⟩
    rw [hlen]
    by_cases h0 : len = 0
    · subst h0; exact RoC.nil _ _ _ _
    · have hsp : a.spot = none := by
        have := hz 0 (by omega)
        rw [Addr.add_zero'] at this
        exact spot_none this
      obtain ⟨g, off, sp⟩ := a
      simp only at hsp
      subst hsp
      refine roC_of (by decide) (by simp) fun i v hv => ?_
      have hi : i < len := by have := (List.getElem?_eq_some_iff.1 hv).1; simpa using this
      have := (addr_plain (hz i hi)).2.1
      rw [this]
      simp [hi] at hv
      rw [← hv]
set_option maxRecDepth 100000 in
theorem int_open {H : Type} (_enc : TypeId × Value → H) (base : Nat) (v : Value) (w : World) (hv : Value.okWide Tryz.prog w .any base 3 v) : ∃ n, v = .int .i64 n := by
  simp only [Value.okWide, Tryz.underlying3, Cell.okWide] at hv
  unfold Cell.ok at hv
  rw [Tryz.underlying3] at hv
  cases v <;> first | exact hv.elim | exact ⟨_, by rw [hv.1]⟩
end
end Go.Proofs.YtdieogcemmnaaaaGreatDoor

/- Slices of anything that came in, as assertions that never turn. No condition. -/
namespace Go.Proofs.YtdieogcemmnaaaaGreatDoor
open Go.RowKit Go.ChangeShapes Go.WideShapes Go.Deep RX
set_option maxRecDepth 100000

def okI (x : Int) : Prop := -9223372036854775808 ≤ x ∧ x ≤ 9223372036854775807
def HP.both (A B : HP) : HP := ⟨fun R h => A.p R h ∧ B.p R h, fun l l' ⟨a, b⟩ => ⟨A.mono l l' a, B.mono l l' b⟩⟩
/-- How a value of some type lies in cells, and what it reaches. -/
structure Kind (α : Type) where
  n : Nat
  pos : 0 < n
  vals : α → List Value
  len : ∀ x, (vals x).length = n
  hp : α → HP
  pers : ∀ x R h h', (hp x).p R h → (hp x).p R h'
theorem Rd.impR {S T : HP} {a : Option Addr} {xs : List Value} (r : Rd T a xs) (h : ∀ R x, S.p R x → T.p R x) : Rd S a xs := fun w R x F s p => r w R x F s (h R x p)
section
variable {α : Type}
def Ls (K : Kind α) (a : Option Addr) (n : Nat) (l : List α) : HP :=
  ⟨fun R h => l.length = n ∧ (RoC K.n a n (l.flatMap K.vals)).p R h ∧ ∀ x ∈ l, (K.hp x).p R h,
   fun lR lh ⟨h0, h1, h2⟩ => ⟨h0, (RoC _ _ _ _).mono lR lh h1, fun x hx => (K.hp x).mono lR lh (h2 x hx)⟩⟩
theorem Ls.pers {K : Kind α} {a : Option Addr} {n : Nat} {l : List α} {R h : PH} (h' : PH) (H : (Ls K a n l).p R h) : (Ls K a n l).p R h' := ⟨H.1, H.2.1, fun x hx => K.pers x _ _ _ (H.2.2 x hx)⟩
theorem Ls.rd {K : Kind α} {a : Option Addr} {n : Nat} {l : List α} : Rd (Ls K a n l) a (l.flatMap K.vals) := Rd.impR (RoC.rd K.n a n (l.flatMap K.vals)) fun _ _ H => H.2.1
theorem flat_getL (f : α → List Value) (w : Nat) (hw : ∀ x, (f x).length = w) : ∀ (l : List α) (k j : Nat) (x : α), l[k]? = some x → j < w → (l.flatMap f)[k * w + j]? = (f x)[j]?
  | [], k, j, x, h, _ => by simp at h
  | y :: r, 0, j, x, h, hj => by
    simp at h; subst h
    rw [List.flatMap_cons, Nat.zero_mul, Nat.zero_add, List.getElem?_append_left (by rw [hw]; exact hj)]
  | y :: r, k + 1, j, x, h, hj => by
    rw [List.flatMap_cons, List.getElem?_append_right (by rw [hw, Nat.succ_mul]; omega), hw, show (k + 1) * w + j - w = k * w + j by rw [Nat.succ_mul]; omega]
    exact flat_getL f w hw r k j x (by simpa using h) hj
theorem flat_lenL (f : α → List Value) (w : Nat) (hw : ∀ x, (f x).length = w) : ∀ l : List α, (l.flatMap f).length = l.length * w
  | [] => by simp
  | x :: l => by rw [List.flatMap_cons, List.length_append, hw, flat_lenL f w hw l, List.length_cons, Nat.succ_mul, Nat.add_comm]
/-- The load of an element that is a struct. -/
theorem Ls.load {K : Kind α} {t : TypeId} {d : TypeDesc} (hd : Tryz.prog.underlying t = some d) (ha : aggT Tryz.prog t = true) (hz : szT Tryz.prog t = K.n) {a : Option Addr} {n : Nat} {l : List α} {k : Nat} {x : α} (hk : l[k]? = some x) :
    ORead Tryz.prog (loadS t (.pointer (a.map fun y => (y.add (k * K.n)).add 0))) (Ls K a n l) (.agg (K.vals x).toArray) := by
  refine loadN_ok (vs := K.vals x) hd ha (Ls.rd (K := K)) (k := k * K.n) (off := 0) (by rw [K.len]; exact hz) (by rw [K.len]; exact K.pos) fun j v hj => ?_
  have hlt : j < K.n := by
    have := (List.getElem?_eq_some_iff.1 hj).1
    rw [K.len] at this; exact this
  rw [Nat.add_zero, flat_getL K.vals K.n K.len l k j x hk hlt]
  exact hj
/-- .. of a part of it, of one cell. -/
theorem Ls.load1 {K : Kind α} {t : TypeId} {d : TypeDesc} (hd : Tryz.prog.underlying t = some d) (ha : aggT Tryz.prog t = false) (hz : szT Tryz.prog t = 1) {a : Option Addr} {n : Nat} {l : List α} {k off : Nat} {x : α} {v : Value} (hk : l[k]? = some x) (hv : (K.vals x)[off]? = some v) :
    ORead Tryz.prog (loadS t (.pointer (a.map fun y => (y.add (k * K.n)).add off))) (Ls K a n l) v := by
  refine load1_ok hd ha hz (Ls.rd (K := K)) (k := k * K.n) (off := off) ?_
  have hlt : off < K.n := by
    have := (List.getElem?_eq_some_iff.1 hv).1
    rw [K.len] at this; exact this
  rw [flat_getL K.vals K.n K.len l k off x hk hlt]
  exact hv
end
section
variable {H : Type} {enc : TypeId × Value → H} {w : World} {α : Type}
theorem slice_of_trod [Inhabited α] (K : Kind α) {t e : TypeId} (hu : Tryz.prog.underlying t = some (.slice e)) (hn : Tryz.prog.cellsOf e = K.n) (hb : 1 ≤ Tryz.prog.bytesOf e)
    (el : ∀ {cs : List Value} {n : Nat} {x : DataW H × List MemPlace}, DataW.trod enc Tryz.prog w 0 (fun _ => true) true n e cs = some x → Small Tryz.prog e x.1 → ∃ m : α, cs = K.vals m ∧ ∀ h, (K.hp m).p (allOf w) h)
    {fuel : Nat} {v : Value} {x : DataW H × List MemPlace} (h : DataW.trod enc Tryz.prog w 0 (fun _ => true) true fuel t [v] = some x) (hs : Small Tryz.prog t x.1) :
    ∃ (a : Option Addr) (l : List α) (c : Nat), v = .slice a l.length c ∧ l.length ≤ 140737488355328 ∧ ∀ h, (Ls K a l.length l).p (allOf w) h := by
  rcases open_slice hu h with ⟨hcs, _⟩ | ⟨a, len, cap, m, n, D, Pl, hcs, _, hl, hmax, hm, hxx, hx⟩
  · simp at hcs
    subst hcs
    exact ⟨none, [], 0, rfl, by simp, fun h => ⟨rfl, RoC.nil _ _ _ _, fun x hx => by cases hx⟩⟩
  · simp at hcs
    subst hcs
    rw [hn] at hx
    have hlm : len ≤ m := by rw [hm]; simp only [if_true]; exact hl
    rw [hxx] at hs
    have hbl : len ≤ 140737488355328 := by
      have := hs.len hu
      unfold reachBytes at this
      simp at this
      have h2 : (len + (m - len)) * 1 ≤ (len + (m - len)) * Tryz.prog.bytesOf e := Nat.mul_le_mul_left _ hb
      omega
    have hx' : ∀ i, i < len → ∃ q : α, (∀ j, j < K.n → w.cell? (a.add (i * K.n + j)) = (K.vals q)[j]?) ∧ ∀ h, (K.hp q).p (allOf w) h := fun i hi => by
      obtain ⟨cs', h1, h2⟩ := hx i (by omega)
      obtain ⟨q, rfl, hr⟩ := el h2 (hs.elem hu (List.mem_map.2 ⟨i, List.mem_range.2 hi, rfl⟩))
      obtain ⟨_, _, hc⟩ := World.cells?_some h1
      refine ⟨q, fun j hj => ?_, hr⟩
      rw [← add_add, hc j hj]
    obtain ⟨ra, hra⟩ := choose_lt (p := fun i (q : α) => (∀ j, j < K.n → w.cell? (a.add (i * K.n + j)) = (K.vals q)[j]?) ∧ ∀ h, (K.hp q).p (allOf w) h) hx'
    have hlen : ((List.range len).map ra).length = len := by simp
    refine ⟨some a, (List.range len).map ra, cap, by rw [hlen], by rw [hlen]; exact hbl, fun h => ⟨rfl, ?_, fun x hx => ?_⟩⟩
    · rw [hlen]
      by_cases h0 : len = 0
      · subst h0; exact RoC.nil _ _ _ _
      · have hsp : a.spot = none := by
          have h1 := (hra 0 (by omega)).1 0 K.pos
          rw [Nat.zero_mul, Nat.add_zero, Addr.add_zero', List.getElem?_eq_getElem (by rw [K.len]; exact K.pos)] at h1
          exact spot_none h1
        obtain ⟨g, off, sp⟩ := a
        simp only at hsp
        subst hsp
        have hlen2 : (((List.range len).map ra).flatMap K.vals).length = len * K.n := by rw [flat_lenL K.vals K.n K.len, hlen]
        refine roC_of K.pos hlen2 fun i v hv => ?_
        have hi : i < len * K.n := by have := (List.getElem?_eq_some_iff.1 hv).1; rw [hlen2] at this; exact this
        have hk : i / K.n < len := Nat.div_lt_of_lt_mul (by rw [Nat.mul_comm]; exact hi)
        have hj : i % K.n < K.n := Nat.mod_lt _ K.pos
        have e : i = (i / K.n) * K.n + i % K.n := by rw [Nat.mul_comm]; exact (Nat.div_add_mod i K.n).symm
        have hg : ((List.range len).map ra)[i / K.n]? = some (ra (i / K.n)) := by simp [hk]
        have h1 := flat_getL K.vals K.n K.len _ (i / K.n) (i % K.n) _ hg hj
        rw [← e] at h1
        have h2 := (hra (i / K.n) hk).1 (i % K.n) hj
        rw [← e] at h2
        rw [h1] at hv
        rw [hv] at h2
        exact (addr_plain h2).2.1
    · obtain ⟨i, hi, rfl⟩ := List.mem_map.1 hx
      exact (hra i (List.mem_range.1 hi)).2 h
/-- A parameter that is a slice. -/
theorem slice_open [Inhabited α] (K : Kind α) {t e : TypeId} (hu : Tryz.prog.underlying t = some (.slice e)) (hn : Tryz.prog.cellsOf e = K.n) (hb : 1 ≤ Tryz.prog.bytesOf e)
    (el : ∀ {cs : List Value} {n : Nat} {x : DataW H × List MemPlace}, DataW.trod enc Tryz.prog w 0 (fun _ => true) true n e cs = some x → Small Tryz.prog e x.1 → ∃ m : α, cs = K.vals m ∧ ∀ h, (K.hp m).p (allOf w) h)
    {base : Nat} {v : Value} (hv : Value.okWide Tryz.prog w .any base t v) (h : ∃ d p, DataW.Trod enc Tryz.prog w 0 (fun _ => true) true t v d p ∧ Small Tryz.prog t d) :
    ∃ (a : Option Addr) (l : List α) (c : Nat), v = .slice a l.length c ∧ l.length ≤ 140737488355328 ∧ ∀ h, (Ls K a l.length l).p (allOf w) h := by
  obtain ⟨b, len, cap, rfl⟩ := okWide_slice hu hv
  obtain ⟨d, p, ⟨fuel, hf⟩, hsm⟩ := h
  exact slice_of_trod K hu hn hb el hf hsm
/-- A parameter that is a struct. -/
theorem struct_open (K : Kind α) {t : TypeId} {fs : Array Field} (hu : Tryz.prog.underlying t = some (.struct fs))
    (el : ∀ {cs : List Value} {n : Nat} {x : DataW H × List MemPlace}, DataW.trod enc Tryz.prog w 0 (fun _ => true) true n t cs = some x → Small Tryz.prog t x.1 → ∃ m : α, cs = K.vals m ∧ ∀ h, (K.hp m).p (allOf w) h)
    {base : Nat} {v : Value} (hv : Value.okWide Tryz.prog w .any base t v) (h : ∃ d p, DataW.Trod enc Tryz.prog w 0 (fun _ => true) true t v d p ∧ Small Tryz.prog t d) :
    ∃ m : α, v = .agg (K.vals m).toArray ∧ ∀ h, (K.hp m).p (allOf w) h := by
  obtain ⟨d, p, ⟨fuel, hf⟩, hsm⟩ := h
  unfold Value.okWide at hv
  rw [hu] at hv
  obtain ⟨cs, rfl, _, _⟩ := hv
  obtain ⟨m, h1, h2⟩ := el hf hsm
  refine ⟨m, ?_, h2⟩
  have e : cs.toList = K.vals m := h1
  rw [← e]
theorem field_str {t : TypeId} {cs : List Value} {n i c : Nat} {xs : List (DataW H × List MemPlace)} {j : Nat} (hu : Tryz.prog.underlying t = some .string) (hj : j < xs.length) (hc : c = 1)
    (h : DataW.trod enc Tryz.prog w 0 (fun _ => true) true n t ((cs.drop i).take c) = xs[j]?) : ∃ x : List UInt8, cs[i]? = some (.string ⟨x.toArray⟩) ∧ x.length ≤ 9223372036854775807 := by
  subst hc
  rw [List.getElem?_eq_getElem hj] at h
  obtain ⟨s, h1, _, h2⟩ := DataW.trod_string hu h
  refine ⟨s.data.toList, by rw [take1 h1], ?_⟩
  exact Nat.le_trans (Nat.le_of_eq (Array.length_toList)) h2
theorem int_wf {x : Int} (h : (Lit.int IntKind.i64 x).wf = true) : okI x := by
  have h2 : (decide (IntKind.i64.min ≤ x) && decide (x ≤ IntKind.i64.max)) = true := h
  rw [Bool.and_eq_true] at h2
  exact ⟨of_decide_eq_true h2.1, of_decide_eq_true h2.2⟩
/-- A parameter that is an int. -/
theorem int_openR {base : Nat} {v : Value} (hv : Value.okWide Tryz.prog w .any base 3 v) (h : ∃ d p, DataW.Trod enc Tryz.prog w 0 (fun _ => true) true 3 v d p ∧ Small Tryz.prog 3 d) : ∃ n, v = .int .i64 n ∧ okI n := by
  obtain ⟨n, rfl⟩ := int_open enc base v w hv
  obtain ⟨d, p, ⟨fuel, hf⟩, _⟩ := h
  obtain ⟨x, hx, _, hw⟩ := DataW.trod_int Tryz.underlying3 hf
  simp [Value.cells] at hx
  subst hx
  exact ⟨n, rfl, int_wf hw⟩
/-- A parameter that is bytes. -/
theorem bytes_openR {base : Nat} {v : Value} (hv : Value.okWide Tryz.prog w .any base 28 v) (h : ∃ d p, DataW.Trod enc Tryz.prog w 0 (fun _ => true) true 28 v d p ∧ Small Tryz.prog 28 d) :
    ∃ (a : Option Addr) (l : List UInt8) (c : Nat), v = .slice a l.length c ∧ l.length ≤ 140737488355328 ∧ ∀ h, (RoB a l.length l).p (allOf w) h := by
  obtain ⟨b, len, cap, rfl⟩ := okWide_slice Tryz.underlying28 hv
  obtain ⟨d, p, ⟨fuel, hf⟩, hsm⟩ := h
  exact bytes_of_trod hf hsm
end
def kInt : Kind Int where
  n := 1
  pos := by decide
  vals x := [.int .i64 x]
  len _ := rfl
  hp x := HP.pure (okI x)
  pers _ _ _ _ h := h
theorem kInt_trod {H : Type} {enc : TypeId × Value → H} {w : World} {cs : List Value} {n : Nat} {x : DataW H × List MemPlace} (h : DataW.trod enc Tryz.prog w 0 (fun _ => true) true n 3 cs = some x) (_ : Small Tryz.prog 3 x.1) : ∃ m : Int, cs = kInt.vals m ∧ ∀ h, (kInt.hp m).p (allOf w) h := by
  obtain ⟨x, hx, _, hw⟩ := DataW.trod_int Tryz.underlying3 h
  exact ⟨x, hx, fun _ => int_wf hw⟩
end Go.Proofs.YtdieogcemmnaaaaGreatDoor

/- Slices whose elements hold pointers to what they own: appended to, one taken out, and put back. No condition. -/
namespace Go.Proofs.YtdieogcemmnaaaaGreatDoor
open Go.Proofs.YtdieogcemmnaaaaGreatDoor RX

/-- How an element lies in cells, and what it owns. -/
structure PK (α : Type) where
  e : TypeId
  n : Nat
  pos : 0 < n
  vals : α → List Value
  len : ∀ x, (vals x).length = n
  one : ∀ x, ∀ u ∈ vals x, u.oneCell' = true
  rep : α → HP
section
variable {α : Type} (K : PK α)
def PL (a : Option Addr) (n c : Nat) (l : List α) : HP := HP.and (l.length = n) (HP.sep (OwC K.e K.n a n c (l.flatMap K.vals)) (sepN (l.map K.rep)))
def PRest (a : Option Addr) (n c : Nat) (l : List α) (k : Nat) : HP := HP.and (l.length = n) (HP.sep (OwC K.e K.n a n c (l.flatMap K.vals)) (sepN ((l.map K.rep).eraseIdx k)))
variable {K}
theorem PL.isAt {a : Option Addr} {n c : Nat} {l : List α} {R h : PH} (H : (PL K a n c l).p R h) (hn : n ≠ 0) : a.isSome = true := OwC.some (HP.sep_left H.2) (by omega)
theorem PL.len {a : Option Addr} {n c : Nat} {l : List α} {R h : PH} (H : (PL K a n c l).p R h) : l.length = n := H.1
theorem PL.zero (x : Nat) {R h : PH} (H : (HP.one x (.cells #[] K.e (0, 0))).p R h) : (PL K (some ⟨x, 0, none⟩) 0 0 []).p R h :=
  ⟨rfl, HP.sep_tt ⟨by simp, .inr ⟨x, #[], rfl, H, Nat.le_refl _, by unfold maxLen; omega, by simp, by simp⟩⟩⟩
/-- A new slice, laid with elements. -/
theorem PL.lit (x : Nat) (l : List α) (hb : l.length ≤ 1000) {R h : PH} (H : (HP.sep (HP.one x (.cells (l.flatMap K.vals).toArray K.e (0, 0))) (sepN (l.map K.rep))).p R h) : (PL K (some ⟨x, 0, none⟩) l.length l.length l).p R h := by
  refine ⟨rfl, HP.sep_mono H (fun y hy => ⟨flat_lenL K.vals K.n K.len l, .inr ⟨x, _, rfl, hy, Nat.le_refl _, by unfold maxLen; omega, ?_, ?_⟩⟩) fun _ h => h⟩
  · rw [List.size_toArray]; exact flat_lenL K.vals K.n K.len l
  · show (l.flatMap K.vals).take _ = _
    rw [← flat_lenL K.vals K.n K.len l, List.take_length]
theorem PL.app (t ty : TypeId) {i : TypeInfo} {z : Value} (ht : Tryz.prog.underlying t = some (.slice K.e)) (hi : Tryz.prog.info? K.e = some i) (hz : i.zero = some z) (hzs : z.cells.size = i.size) (hs : i.size = K.n) (hby : i.bytes ≤ 1000)
    (a : Option Addr) (n c : Nat) (l : List α) (b : Nat) (x : α) (Q : HP) (hb : n ≤ 1000000000) :
    OTri Tryz.prog (appS t ty (.slice a n c) (.slice (some ⟨b, 0, none⟩) 1 1)) (HP.sep (PL K a n c l) (HP.sep (HP.one b (.cells (K.vals x).toArray K.e (0, 0))) (HP.sep (K.rep x) Q)))
      (fun v => HP.ex fun a' => HP.ex fun c' => HP.and (v = .slice a' (n + 1) c') (HP.sep (PL K a' (n + 1) c' (l ++ [x])) Q)) := by
  have hr := one_rd b (K.vals x).toArray K.e
  have hbn : (n + 1) * i.bytes ≤ 140737488355328 := by
    have := Nat.mul_le_mul (show n + 1 ≤ 1000000001 by omega) hby
    omega
  have := append_ok t ty K.e i z ht hi hz hzs (by rw [hs]; exact K.pos) a n c (l.flatMap K.vals) (HP.one b (.cells (K.vals x).toArray K.e (0, 0))) ⟨b, 0, none⟩ 1 1 (K.vals x) (by simpa using hr) (by rw [K.len, hs, Nat.one_mul]) (K.one x) (by unfold maxLen; omega) hbn
  rw [hs] at this
  refine OTri.fact (φ := l.length = n) (fun R h H => (HP.sep_left H).1) fun hl => ?_
  refine (this.frame (HP.sep (sepN (l.map K.rep)) (HP.sep (K.rep x) Q))).weak (fun R h H => ?_) ?_
  · have H1 := HP.sep_assoc (HP.sep_mono H (fun _ h => h.2) fun _ h => h)
    exact HP.sep_assoc' (HP.pick [_, _, _, _, _] [0, 2, 1, 3, 4] (by decide) rfl H1)
  · rintro v R h ⟨h1, h2, d, l1, l2, ⟨a', c', rfl, H⟩, HU⟩
    refine ⟨a', c', rfl, ?_⟩
    have H1 := HP.sep_assoc ⟨h1, h2, d, l1, l2, H, HU⟩
    have H2 : (HP.sep (OwC K.e K.n a' (n + 1) c' (l.flatMap K.vals ++ K.vals x)) (HP.sep (sepN (l.map K.rep)) (HP.sep (K.rep x) Q))).p R h := HP.sep_mono H1 (fun _ h => h) fun y hy => HP.sep_right hy
    have e : (l ++ [x]).map K.rep = l.map K.rep ++ [K.rep x] := by simp
    have H3 : (HP.sep (OwC K.e K.n a' (n + 1) c' (l.flatMap K.vals ++ K.vals x)) (HP.sep (sepN ((l ++ [x]).map K.rep)) Q)).p R h := HP.sep_mono H2 (fun _ h => h) fun y hy => by
      have := HP.sep_assoc' hy
      rw [e]
      exact HP.sep_mono this (fun z hz => (sepN_app (l := l.map K.rep) (m := [K.rep x])).2 hz) fun _ h => h
    have H4 := HP.sep_assoc' H3
    refine HP.sep_mono H4 (fun y hy => ⟨by simp [hl], ?_⟩) fun _ h => h
    have e2 : (l ++ [x]).flatMap K.vals = l.flatMap K.vals ++ K.vals x := by simp
    rw [e2]
    exact hy
theorem PL.rd (a : Option Addr) (n c : Nat) (l : List α) : Rd (PL K a n c l) a (l.flatMap K.vals) := Rd.impR (Rd.left (B := sepN (l.map K.rep)) (OwC.rd K.e K.n a n c (l.flatMap K.vals))) fun R h H => H.2
theorem PL.focus {a : Option Addr} {n c : Nat} {l : List α} {k : Nat} {x : α} (hk : l[k]? = some x) {R h : PH} (H : (PL K a n c l).p R h) : (HP.sep (K.rep x) (PRest K a n c l k)).p R h := by
  have H1 := HP.sep_mono H.2 (fun _ h => h) fun y hy => sepN_focus (k := k) (x := K.rep x) (by simp [hk]) hy
  exact HP.sep_mono (HP.swap H1) (fun _ h => h) fun y hy => ⟨H.1, hy⟩
theorem PL.load {d : TypeDesc} (hd : Tryz.prog.underlying K.e = some d) (ha : aggT Tryz.prog K.e = true) (hz : szT Tryz.prog K.e = K.n) {a : Option Addr} {n c : Nat} {l : List α} {k : Nat} {x : α} (hk : l[k]? = some x) :
    OTri Tryz.prog (loadS K.e (.pointer (a.map fun y => (y.add (k * K.n)).add 0))) (PL K a n c l) (fun v => HP.and (v = .agg (K.vals x).toArray) (HP.sep (K.rep x) (PRest K a n c l k))) := by
  refine OTri.ofRead (loadN_ok (vs := K.vals x) hd ha (PL.rd a n c l) (k := k * K.n) (off := 0) (by rw [K.len]; exact hz) (by rw [K.len]; exact K.pos) fun j v hj => ?_) fun R h H => ⟨rfl, PL.focus hk H⟩
  have hlt : j < K.n := by
    have := (List.getElem?_eq_some_iff.1 hj).1
    rw [K.len] at this; exact this
  rw [Nat.add_zero, flat_getL K.vals K.n K.len l k j x hk hlt]
  exact hj
theorem PL.load1 {d : TypeDesc} (hd : Tryz.prog.underlying K.e = some d) (ha : aggT Tryz.prog K.e = false) (hz : szT Tryz.prog K.e = 1) (hn : K.n = 1) {a : Option Addr} {n c : Nat} {l : List α} {k : Nat} {x : α} {v0 : Value} (hv : K.vals x = [v0]) (hk : l[k]? = some x) :
    OTri Tryz.prog (loadS K.e (.pointer (a.map fun y => (y.add (k * 1)).add 0))) (PL K a n c l) (fun v => HP.and (v = v0) (HP.sep (K.rep x) (PRest K a n c l k))) := by
  refine OTri.ofRead (load1_ok hd ha hz (PL.rd a n c l) (k := k * 1) (off := 0) (v := v0) ?_) fun R h H => ⟨rfl, PL.focus hk H⟩
  have := flat_getL K.vals K.n K.len l k 0 x hk (by omega)
  rw [hn, hv] at this
  exact this
theorem flat_set {f : α → List Value} {l : List α} {k : Nat} {x y : α} (hk : l[k]? = some x) (e : f y = f x) : (l.set k y).flatMap f = l.flatMap f := by
  have hlt : k < l.length := (List.getElem?_eq_some_iff.1 hk).1
  have : (l.set k y).map f = l.map f := by
    rw [List.map_set, e]
    refine List.ext_getElem? fun j => ?_
    rw [List.getElem?_set]
    split
    · rename_i hj; subst hj; rw [if_pos (by simpa using hlt), List.getElem?_map, hk]; rfl
    · rfl
  rw [List.flatMap_def, List.flatMap_def, this]
theorem PL.join {a : Option Addr} {n c : Nat} {l : List α} {k : Nat} {x y : α} (hk : l[k]? = some x) (e : K.vals y = K.vals x) {R h : PH} (H : (HP.sep (PRest K a n c l k) (K.rep y)).p R h) : (PL K a n c (l.set k y)).p R h := by
  have hlt : k < l.length := (List.getElem?_eq_some_iff.1 hk).1
  obtain ⟨h1, h2, d, l1, l2, ⟨hn, H⟩, HU⟩ := H
  refine ⟨by simp [hn], ?_⟩
  have H1 := HP.sep_assoc ⟨h1, h2, d, l1, l2, H, HU⟩
  refine HP.sep_mono H1 (fun z hz => by rw [flat_set hk e]; exact hz) fun z hz => ?_
  rw [List.map_set]
  exact sepN_unfocus (by simpa using hlt) (HP.sep_comm hz)
end
end Go.Proofs.YtdieogcemmnaaaaGreatDoor

/- The tree package: Nodes. No condition. -/
namespace Go.Proofs.YtdieogcemmnaaaaGreatDoor
set_option linter.unusedSimpArgs false
set_option linter.unusedVariables false
open Go.Proofs.YtdieogcemmnaaaaGreatDoor RX
set_option maxRecDepth 100000

variable {b : Nat} {t : TS}
def entV (x : Nm × Nat) : List Value := [sE x.1, .int .i64 x.2]
def kEnt : Kind (Nm × Nat) where
  n := 2
  pos := by decide
  vals := entV
  len _ := rfl
  hp _ := HP.tt
  pers _ _ _ _ h := h
def kEntP : PK (Nm × Nat) where
  e := 140
  n := 2
  pos := by decide
  vals := entV
  len _ := rfl
  one x u hu := by
    simp only [entV, List.mem_cons, List.not_mem_nil, or_false] at hu
    rcases hu with rfl | rfl <;> rfl
  rep _ := HP.tt
/-- A node as it is told, and where its parts lie. -/
structure NodeE where
  nd : Nd
  da : Option Addr
  dc : Nat
  ea : Option Addr
  ec : Nat
instance : Inhabited NodeE := ⟨⟨⟨0, 0, 0, [], []⟩, none, 0, none, 0⟩⟩
def nodeVs (x : NodeE) : List Value := [.int .i64 x.nd.num, .int .i64 x.nd.kind, .int .i64 x.nd.links, .slice x.da x.nd.data.length x.dc, .slice x.ea x.nd.ents.length x.ec]
def nodeHp (x : NodeE) : HP := HP.both (RoB x.da x.nd.data.length x.nd.data) (Ls kEnt x.ea x.nd.ents.length x.nd.ents)
theorem nodeHp_pers (x : NodeE) (R h h' : PH) (H : (nodeHp x).p R h) : (nodeHp x).p R h' := ⟨H.1, Ls.pers h' H.2⟩
def kNode : Kind NodeE where
  n := 5
  pos := by decide
  vals := nodeVs
  len _ := rfl
  hp := nodeHp
  pers := nodeHp_pers
def kNodeP : PK NodeE where
  e := 43
  n := 5
  pos := by decide
  vals := nodeVs
  len _ := rfl
  one x u hu := by
    simp only [nodeVs, List.mem_cons, List.not_mem_nil, or_false] at hu
    rcases hu with rfl | rfl | rfl | rfl | rfl <;> rfl
  rep := nodeHp
/-- Rows of nodes, as they are told. -/
def NodesR (a : Option Addr) (n : Nat) (L : List Nd) : HP := HP.ex fun es : List NodeE => HP.and (es.map (·.nd) = L) (Ls kNode a n es)
theorem OTri.pre3 {P : Program} {o : Sem Next} {A A' : HP} {B : Value → HP} (t : OTri P o A B) (e : HP.ent A' A) : OTri P o A' B := t.conseq (K := HP.tt) (e.trans (.of fun _ _ H => HP.sep_tt H)) fun _ => .of fun _ _ H => HP.sep_left H
theorem infoEnt : (Tryz.prog.info? 140).map (fun i => (i.zero.map (·.cells.size), i.size, i.bytes)) = some (some 2, 2, 24) := by kernel_rfl
theorem infoNd : (Tryz.prog.info? 43).map (fun i => (i.zero.map (·.cells.size), i.size, i.bytes)) = some (some 5, 5, 72) := by kernel_rfl
theorem undEs : Tryz.prog.underlying 41 = some (.slice 140) := by kernel_rfl
theorem undNs : Tryz.prog.underlying 36 = some (.slice 43) := by kernel_rfl
theorem info_pz {t : TypeId} {n k m : Nat} (h : (Tryz.prog.info? t).map (fun i => (i.zero.map (·.cells.size), i.size, i.bytes)) = some (some n, k, m)) : ∃ i z, Tryz.prog.info? t = some i ∧ i.zero = some z ∧ z.cells.size = n ∧ i.size = k ∧ i.bytes = m := by
  obtain ⟨i, h1, h2⟩ := Option.map_eq_some_iff.1 h
  injection h2 with h2 h3
  injection h3 with h3 h4
  obtain ⟨z, h5, h6⟩ := Option.map_eq_some_iff.1 h2
  exact ⟨i, z, h1, h5, h6, h3, h4⟩
theorem appEnt (a : Option Addr) (n c : Nat) (l : List (Nm × Nat)) (q : Nat) (x : Nm × Nat) (Q : HP) (hb : n ≤ 1000000000) :
    OTri Tryz.prog (appS 41 41 (.slice a n c) (.slice (some ⟨q, 0, none⟩) 1 1)) (HP.sep (PL kEntP a n c l) (HP.sep (HP.one q (.cells #[sE x.1, .int .i64 x.2] 140 (0, 0))) (HP.sep HP.tt Q)))
      (fun v => HP.ex fun a' => HP.ex fun c' => HP.and (v = .slice a' (n + 1) c') (HP.sep (PL kEntP a' (n + 1) c' (l ++ [x])) Q)) := by
  obtain ⟨i, z, hi, h1, h2, h3, h4⟩ := info_pz infoEnt
  exact PL.app (K := kEntP) _ _ undEs hi h1 (by rw [h2, h3]) h3 (by rw [h4]; decide) a n c l q x Q hb
theorem appNode (a : Option Addr) (n c : Nat) (l : List NodeE) (q : Nat) (x : NodeE) (Q : HP) (hb : n ≤ 1000000000) :
    OTri Tryz.prog (appS 36 36 (.slice a n c) (.slice (some ⟨q, 0, none⟩) 1 1)) (HP.sep (PL kNodeP a n c l) (HP.sep (HP.one q (.cells (nodeVs x).toArray 43 (0, 0))) (HP.sep (nodeHp x) Q)))
      (fun v => HP.ex fun a' => HP.ex fun c' => HP.and (v = .slice a' (n + 1) c') (HP.sep (PL kNodeP a' (n + 1) c' (l ++ [x])) Q)) := by
  obtain ⟨i, z, hi, h1, h2, h3, h4⟩ := info_pz infoNd
  exact PL.app (K := kNodeP) _ _ undNs hi h1 (by rw [h2, h3]) h3 (by rw [h4]; decide) a n c l q x Q hb
theorem loadInt {S : HP} {a : Option Addr} {l : List Int} {k : Nat} {x : Int} (r : Rd S a (l.map i64v)) (hk : l[k]? = some x) :
    ORead Tryz.prog (loadS 3 (.pointer (a.map fun y => (y.add (k * 1)).add 0))) S (.int .i64 x) :=
  load1_ok undIb aggI szI r (k := k * 1) (off := 0) (by simp [hk, i64v])
theorem HP.ent2 {A A' C C' : HP} (h1 : HP.ent A A') (h2 : HP.ent C C') : HP.ent (HP.sep A C) (HP.sep A' C') :=
  (HP.ent.sep h1 C).trans ((HP.ent.of fun _ _ H => HP.sep_comm H).trans ((HP.ent.sep h2 A').trans (.of fun _ _ H => HP.sep_comm H)))
theorem shareEnt (a : Option Addr) (n c : Nat) (l : List (Nm × Nat)) : HP.ent (PL kEntP a n c l) (Ls kEnt a n l) := fun R h d H => by
  obtain ⟨R1, h1, q1, q2, q3, q4, H1⟩ := OwC.share _ _ _ _ _ _ R h d (HP.sep_left H.2)
  exact ⟨R1, h1, q1, q2, q3, q4, H.1, H1, fun _ _ => trivial⟩
theorem shareNode (a : Option Addr) (n c : Nat) (l : List NodeE) : HP.ent (PL kNodeP a n c l) (Ls kNode a n l) := fun R h d H => by
  obtain ⟨R1, h1, q1, q2, q3, q4, H1⟩ := OwC.share _ _ _ _ _ _ R h d (HP.sep_left H.2)
  exact ⟨R1, h1, q1, q2, q3, q4, H.1, H1, fun x hx => nodeHp_pers x R1 h h1 ((nodeHp x).mono q1 (PH.le.refl _) (sepN_mem (List.mem_map.2 ⟨x, hx, rfl⟩) (HP.sep_right H.2)))⟩
theorem lk_of_mem : ∀ {l : List (Nm × Nat)} {e : Nm × Nat}, (l.map (·.1)).Nodup → e ∈ l → lk l e.1 = some e.2
  | [], _, _, h => by cases h
  | y :: r, e, hn, h => by
    rw [List.map_cons, List.nodup_cons] at hn
    unfold lk
    rcases List.mem_cons.1 h with rfl | h
    · simp
    · rw [if_neg (fun q => hn.1 (by rw [← q]; exact List.mem_map.2 ⟨e, h, rfl⟩))]
      exact lk_of_mem hn.2 h
set_option maxHeartbeats 4000000 in
theorem tNodes_ok {B : Nat} (hB : B ≤ 100000) (wf : TWf B t.pub) : Tri Tryz.prog 19 #[.pointer (some ⟨b, 0, none⟩)] (TRep b t)
    (fun v => HP.ex fun a => HP.ex fun c => HP.and (v = .slice a t.pub.length c) (HP.sep (NodesR a t.pub.length t.pub) (TRep b t))) := by
  have own : Tri Tryz.prog 19 #[.pointer (some ⟨b, 0, none⟩)] (TRep b t)
    (fun v => HP.ex fun a => HP.ex fun c => HP.ex fun es : List NodeE => HP.and (es.map (·.nd) = t.pub ∧ v = .slice a t.pub.length c) (HP.sep (PL kNodeP a t.pub.length c es) (TRep b t))) := by
    refine tri_of_tree (ρ := [.n b, .p (TRep b t)]) mixed Tryz.func19 tree_tNodes ?_
    unfold t_tNodes
    simp only [T.den, E.prop, E.den, RX.look, F1.app, F2.app, Uni.int_i, Uni.nat_n, Uni.bool_c, Uni.str_s, Uni.adr_a, Uni.val_v, Uni.hp_p, hden, cden, V.den, W.den, A.den, BR.den, SA.den, FV.den, capV, exs, exP, allP, Cur.app, List.map_cons, List.map_nil, List.cons_append, List.nil_append, List.drop_succ_cons, List.drop_zero, List.length_cons, List.length_nil, Nat.zero_add, Nat.reduceAdd, Int.neg_neg, Bool.not_not, List.append_nil, Nat.add_zero, List.getElem?_cons_zero, List.getElem?_cons_succ, Decidable.not_not, semW_eq, semW_load, semW_store, semW_storeC, semW_append, semW_lookup, semW_lookupC, semW_update, semW_updateC, semW_updateK, semW_delete, semW_range, semW_next, semW_entry, semW_nil, ne_eq, Nat.reduceEqDiff, not_false_eq_true]
    have hlen64 := wf.few
    have hlen : t.pub.length = t.ns.length := by unfold TS.pub; rw [List.length_map]
    refine ⟨t.mb, ldNodes, ?_⟩
    refine (keysI_ok (some t.mb) (TRep b t)).weak (fun _ _ h => h) ?_
    rintro v R h ⟨kx, rfl, H⟩
    refine ⟨.func (.func 135) #[] #[.pointer (some ⟨kx, 0, none⟩)], KBoxI kx (some t.mb), rfl, ?_, H⟩
    clear H
    refine (sortedNodes wf kx).weak (fun _ _ h => h) ?_
    rintro v R h ⟨a5, c5, rfl, H⟩
    have h5 : t.ns.length ≠ 0 → a5.isSome = true := fun h => OwC.some (HP.sep_left H) (by omega)
    refine ⟨a5, t.ns.length, c5, _, rfl, ?_, H⟩
    clear H
    have rd5 : RdL (OwI a5 t.ns.length c5 (t.ns.map fun x => (x.p.num : Int))) a5 t.ns.length ((t.ns.map fun x => (x.p.num : Int)).map i64v) := RdL.ow _ _ _ _ _ _
    refine ⟨fun a n c P i => ∃ k : Nat, i = k ∧ k ≤ t.ns.length ∧ n = k ∧ ∃ es : List NodeE, es.map (·.nd) = t.pub.take k ∧ HP.ent P (PL kNodeP a n c es), fun _ _ _ _ i => t.ns.length - i.toNat,
      ⟨0, rfl, Nat.zero_le _, rfl, [], by simp, .of fun R h H => ⟨rfl, HP.sep_mono (HP.tt_sep H) (fun _ _ => OwC.nil _ _ _ _) fun _ _ => trivial⟩⟩, ?_⟩
    rintro a k c P _ ⟨_, rfl, hk, rfl, es, hes, hP⟩
    refine ⟨fun hlt => ⟨by omega, fun _ => ⟨h5 (by omega), fun _ => ?_⟩⟩, fun hge => ?_⟩
    · have hkl : k < t.ns.length := by omega
      have hxm : t.ns[k] ∈ t.ns := List.getElem_mem hkl
      obtain ⟨x, hx⟩ : ∃ x, t.ns[k] = x := ⟨_, rfl⟩
      rw [hx] at hxm
      have hki : t.ns[k]? = some x := by rw [List.getElem?_eq_getElem hkl, hx]
      have hxa : nodeAt t.pub x.p.num = some x.p := mem_nodeAt wf.nd (by unfold TS.pub; exact List.mem_map.2 ⟨x, hxm, rfl⟩)
      have hlk := lkNode (b := b) (t := t) x.p.num
      obtain ⟨y, i, hi, hyp, hyn, hyh, -, hym⟩ := hnIdx hxa
      have hnn : (x.p.num : Int) = y.p.num := by rw [hyn]
      rw [hyh] at hlk
      have hyg := wf.good _ (wf.at' hxa).2.2
      rw [← hyp] at hyg
      have hnum : ((t.ns.map fun x => (x.p.num : Int)))[k]? = some (x.p.num : Int) := by rw [List.getElem?_map, hki]; rfl
      refine ⟨x.p.num, loadInt rd5.rd hnum, t.mb, ldNodes, .pointer (some ⟨y.nb, 0, none⟩), hlk, ?_⟩
      refine ⟨fun q num kind links da dl dc ea el ec PE PD => num = y.p.num ∧ kind = y.p.kind ∧ links = y.p.links ∧ dl = y.p.data.length ∧ el = 0 ∧ HP.ent PE (PL kEntP ea 0 ec []) ∧ HP.ent PD (OwB da y.p.data.length dc y.p.data), ?_, ?_⟩
      · refine ⟨y.nb, nilChk', y.p.kind, ldKind hym, y.nb, nilChk', y.p.links, ldLinks hym, y.nb, nilChk', y.da, y.p.data.length, y.dc, ldData hym, ?_, fun q => ?_⟩
        · refine (clone8_ok _ _ _ y.dc _ (rdData hym) rfl (by have := hyg.data; omega)).weak (fun _ _ h => h) ?_
          rintro v R h ⟨a', c', rfl, H⟩
          refine ⟨a', y.p.data.length, c', OwB a' y.p.data.length c' y.p.data, rfl, ⟨fun q => ?_, fun q => ?_⟩, H⟩
          · exact ⟨hnn, rfl, rfl, rfl, rfl, .of fun R h H => ⟨rfl, HP.sep_mono (HP.tt_sep H) (fun _ _ => OwC.nil _ _ _ _) fun _ _ => trivial⟩, .of fun _ _ h => h⟩
          · exact ⟨hnn, rfl, rfl, rfl, rfl, .of fun R h H => ⟨rfl, HP.sep_mono (HP.tt_sep H) (fun _ _ => OwC.nil _ _ _ _) fun _ _ => trivial⟩, .of fun _ _ h => h⟩
        · refine (clone8_ok _ _ _ y.dc _ (rdData hym) rfl (by have := hyg.data; omega)).weak (fun _ _ h => h) ?_
          rintro v R h ⟨a', c', rfl, H⟩
          refine ⟨a', y.p.data.length, c', OwB a' y.p.data.length c' y.p.data, rfl, ?_, H⟩
          exact ⟨hnn, rfl, rfl, rfl, rfl, .of fun R h H => ⟨rfl, HP.sep_mono (HP.tt_sep H) (fun _ _ => OwC.nil _ _ _ _) fun _ _ => trivial⟩, .of fun _ _ h => h⟩
      rintro q num kind links da dl dc ea el ec PE PD ⟨rfl, rfl, rfl, rfl, rfl, hPE, hPD⟩
      refine ⟨y.nb, nilChk', .map y.mapo, ldEnts hym, ?_⟩
      refine (keysS_ok y.mapo (TRep b t)).weak (fun _ _ h => h) ?_
      rintro v R h ⟨ks, rfl, H⟩
      refine ⟨.func (.func 138) #[] #[.pointer (some ⟨ks, 0, none⟩)], KBoxS ks y.mapo, rfl, ?_, H⟩
      clear H
      refine (sortedEnts hym hyg hB ks).weak (fun _ _ h => h) ?_
      rintro v R h ⟨a33, c33, rfl, H⟩
      have h33 : y.p.ents.length ≠ 0 → a33.isSome = true := fun h => OwC.some (HP.sep_left H) (by omega)
      refine ⟨a33, y.p.ents.length, c33, _, rfl, ?_, H⟩
      clear H
      have rd33 : RdL (OwS a33 y.p.ents.length c33 (y.p.ents.map (·.1))) a33 y.p.ents.length ((y.p.ents.map (·.1)).map sE) := RdL.ow _ _ _ _ _ _
      refine ⟨fun i a n c P => ∃ j : Nat, i = j ∧ j ≤ y.p.ents.length ∧ n = j ∧ HP.ent P (PL kEntP a j c (y.p.ents.take j)), fun i _ _ _ _ => y.p.ents.length - i.toNat, ⟨0, rfl, Nat.zero_le _, rfl, hPE⟩, ?_⟩
      rintro _ ea j ec PE2 ⟨_, rfl, hj, rfl, hPE2⟩
      refine ⟨fun hlt2 => ⟨by omega, fun _ => ⟨h33 (by omega), fun _ => ?_⟩⟩, fun hge2 q => ?_⟩
      · have hjl : j < y.p.ents.length := by omega
        have hem : y.p.ents[j] ∈ y.p.ents := List.getElem_mem hjl
        obtain ⟨e, hej⟩ : ∃ e, y.p.ents[j] = e := ⟨_, rfl⟩
        rw [hej] at hem
        have hek : y.p.ents[j]? = some e := by rw [List.getElem?_eq_getElem hjl, hej]
        have hkd : y.p.kind = 1 := by
          rcases hyg.kind with ⟨h, _⟩ | ⟨_, h⟩
          · exact h
          · rw [h] at hem; cases hem
        have hmo : y.mapo = some y.mb := by unfold HN.mapo; rw [if_pos hkd]
        have he := ldEnts (b := b) hym
        rw [hmo] at he
        have hl := lkEnt1 (b := b) hym hkd e.1
        rw [lk_of_mem (nodupE hyg.sort) hem] at hl
        refine ⟨e.1, loadStr rd33.rd (by rw [List.getElem?_map, Int.toNat_natCast, hek]; rfl), y.nb, nilChk', .map (some y.mb), he, e.2, hl, fun q => ?_⟩
        refine OTri.pre3 ((appEnt ea j ec (y.p.ents.take j) q e HP.tt (by have := hyg.efew; omega)).weak (fun _ _ h => h) ?_) ((HP.ent.sep hPE2 _).trans (.of fun R h H => HP.sep_mono H (fun _ h => h) fun z hz => HP.sep_tt (HP.sep_tt hz) |> fun H => HP.sep_assoc H))
        rintro v R h ⟨a', c', rfl, H⟩
        refine ⟨a', j + 1, c', _, rfl, ⟨inI64' _ (by omega) (by have := hyg.efew; omega), fun _ => ⟨⟨j + 1, by omega, by omega, rfl, ?_⟩, by dsimp only; omega⟩⟩, HP.sep_left H⟩
        rw [List.take_add_one, hek]
        exact .of fun _ _ h => h
      · obtain rfl : j = y.p.ents.length := by omega
        rw [List.take_length] at hPE2
        have hk64 : t.ns.length ≤ 1000000 := by have := hlen64; omega
        refine OTri.pre3 ((appNode a k c es q ⟨y.p, da, dc, ea, ec⟩ HP.tt (by omega)).weak (fun _ _ h => h) ?_) (HP.ent2 hP (HP.ent2 (.of fun _ _ h => h) ((HP.ent2 (hPD.trans (OwC.share _ _ _ _ _ _)) (hPE2.trans (shareEnt _ _ _ _))).trans (.of fun R h H => HP.sep_tt ⟨HP.sep_left H, HP.sep_right H⟩))))
        rintro v R h ⟨a', c', rfl, H⟩
        refine ⟨a', k + 1, c', _, rfl, ⟨inI64' _ (by omega) (by omega), fun _ => ⟨⟨k + 1, by omega, by omega, rfl, es ++ [⟨y.p, da, dc, ea, ec⟩], ?_, .of fun _ _ h => h⟩, by dsimp only; omega⟩⟩, HP.sep_left H⟩
        rw [List.map_append, hes, List.take_add_one]
        have : t.pub[k]? = some x.p := by unfold TS.pub; rw [List.getElem?_map, hki]; rfl
        rw [this, ← hyp]; rfl
    · obtain rfl : k = t.ns.length := by omega
      rw [hlen]
      refine (HP.ent2 (.of fun _ _ h => h) hP).trans (.of fun R h H => ⟨a, c, es, ⟨by rw [hes, ← hlen, List.take_length], rfl⟩, HP.sep_comm H⟩)
  exact own.post fun v => fun R h d ⟨a', c', es, ⟨e1, e2⟩, H⟩ => by
    obtain ⟨R1, h1, q1, q2, q3, q4, H1⟩ := (HP.ent.sep (shareNode _ _ _ _) (TRep b t)) R h d H
    exact ⟨R1, h1, q1, q2, q3, q4, a', c', e2, HP.sep_mono H1 (fun _ h => ⟨es, e1, h⟩) fun _ h => h⟩
end Go.Proofs.YtdieogcemmnaaaaGreatDoor

/- Trees of functions, printed by rx.lean. No condition. -/
namespace Go.Proofs.YtdieogcemmnaaaaGreatDoor.RX
set_option maxRecDepth 100000
-- tideline/tidelinelaw04.speaks: ρ := []
def t_speaks04 : T :=
(.call 17 [] [] [.n, .p] (.w (.a (.ptr (.v 0) 0))) [((.b (.v 0)), (.prop 1))]
(.call 18 [(.a (.ptr (.v 0) 0)), (.agg [(.int .i64 (.i 1)), (.str (.s [47, 97])), (.str (.s [])), (.int .i64 (.i 0)), (.int .i64 (.i 0)), (.sl .nil (.n 0) (.n 0))])] [((.b (.v 0)), (.prop 1))] [.i, .i, .i, .i, .a, .n, .n, .p, .a, .n, .n, .p, .p] (.w (.agg [(.int .i64 (.v 2)), (.int .i64 (.v 3)), (.int .i64 (.v 4)), (.int .i64 (.v 5)), (.sl (.v 6) (.v 7) (.v 8)), (.sl (.v 10) (.v 11) (.v 12))])) [((.a 6), (.prop 9)), ((.a 10), (.prop 13)), ((.b (.v 0)), (.prop 14))]
(.new
(.call 18 [(.a (.ptr (.v 0) 0)), (.agg [(.int .i64 (.i 3)), (.str (.s [47, 97, 47, 98])), (.str (.s [])), (.int .i64 (.i 0)), (.int .i64 (.i 0)), (.sl .nil (.n 0) (.n 0))])] [((.b (.v 0)), (.prop 14))] [.i, .i, .i, .i, .a, .n, .n, .p, .a, .n, .n, .p, .p] (.w (.agg [(.int .i64 (.v 16)), (.int .i64 (.v 17)), (.int .i64 (.v 18)), (.int .i64 (.v 19)), (.sl (.v 20) (.v 21) (.v 22)), (.sl (.v 24) (.v 25) (.v 26))])) [((.a 20), (.prop 23)), ((.a 24), (.prop 27)), ((.b (.v 0)), (.prop 28))]
(.new
(.call 18 [(.a (.ptr (.v 0) 0)), (.agg [(.int .i64 (.i 6)), (.str (.s [47, 97])), (.str (.s [47, 97, 47, 99])), (.int .i64 (.i 0)), (.int .i64 (.i 0)), (.sl .nil (.n 0) (.n 0))])] [((.b (.v 0)), (.prop 28))] [.i, .i, .i, .i, .a, .n, .n, .p, .a, .n, .n, .p, .p] (.w (.agg [(.int .i64 (.v 30)), (.int .i64 (.v 31)), (.int .i64 (.v 32)), (.int .i64 (.v 33)), (.sl (.v 34) (.v 35) (.v 36)), (.sl (.v 38) (.v 39) (.v 40))])) [((.a 34), (.prop 37)), ((.a 38), (.prop 41)), ((.b (.v 0)), (.prop 42))]
(.new
(.br (.o2 .eq (.v 2) (.i 0))
 (.br (.o2 .eq (.v 16) (.i 0))
  (.br (.o2 .eq (.v 30) (.i 26))
   (.call 19 [(.a (.ptr (.v 0) 0))] [((.b (.v 0)), (.prop 42))] [.a, .n, .n, .p] (.w (.a (.sl (.v 44) (.v 45) (.v 46)))) [((.a 44), (.prop 47)), ((.b (.v 0)), (.prop 42))]
   (.ret (.w (.a (.bool (.o2 .eq (.o1 .ofNat (.v 45)) (.i 3))))) []))
   (.ret (.w (.a (.bool (.c false)))) []))
  (.ret (.w (.a (.bool (.c false)))) []))
 (.ret (.w (.a (.bool (.c false)))) [])))))))))
theorem tree_speaks04 : tree Tryz.prog { absT := [], opq := [], hv := [], keep := [19, 25, 21, 20, 26, 16], link := [], ent := [], turn := [(18, [0])], shr := [], vt := [], mkd := [], rlink := [], pty := [], outl := false, stay := [], snk := [], rdf := true } Tryz.f15 [] [] 0 = t_speaks04 := by kernel_rfl
-- tideline/tidelinelaw04.Great: ρ := [.a callsa, .n callsl, .n callsc, .p callsP]
def t_great04 : T :=
(.br (.o2 .lt (.i 120) (.o1 .ofNat (.v 1)))
 (.ret (.w (.a (.bool (.c true)))) [((.a 0), (.prop 3))])
 (.loop [.c, .i] [(.e (.o1 .not (.o1 .not (.c false)))), (.e (.o1 .neg (.o1 .neg (.i 0))))]
  (.br (.o2 .lt (.v 5) (.o1 .ofNat (.v 1)))
   (.need (.o2 .le (.i 0) (.v 5))
   (.need (.o1 .isSome (.v 0))
   (.read (.load 34 (.tmp 12)) 34 [(12, (.w (.a (.eptr 0 (.v 5) 6 0))))] [((.a 0), (.prop 3))] [.i, .s, .s, .i, .i, .a, .n, .n] (.w (.agg [(.int .i64 (.v 6)), (.str (.v 7)), (.str (.v 8)), (.int .i64 (.v 9)), (.int .i64 (.v 10)), (.sl (.v 11) (.v 12) (.v 13))]))
   (.new
   (.br (.o2 .lt (.i 300) (.o1 .ofNat (.o1 .size (.v 7))))
    (.ret (.w (.a (.bool (.c true)))) [((.a 0), (.prop 3))])
    (.br (.o2 .lt (.i 300) (.o1 .ofNat (.o1 .size (.v 8))))
     (.ret (.w (.a (.bool (.c true)))) [((.a 0), (.prop 3))])
     (.br (.o2 .lt (.i 600) (.o1 .ofNat (.v 12)))
      (.ret (.w (.a (.bool (.c true)))) [((.a 0), (.prop 3))])
      (.need (.o1 (.inr .i64) (.o2 .add (.v 5) (.i 1)))
      (.again 0 [(.e (.o1 .not (.o1 .not (.v 4)))), (.e (.o1 .neg (.o1 .neg (.o2 .add (.v 5) (.i 1)))))])))))))))
   (.ret (.w (.a (.bool (.c false)))) [((.a 0), (.prop 3))]))))
theorem tree_great04 : tree Tryz.prog { absT := [], opq := [], hv := [], keep := [19, 25, 21, 20, 26, 16], link := [], ent := [], turn := [(18, [0])], shr := [], vt := [], mkd := [], rlink := [], pty := [], outl := false, stay := [], snk := [], rdf := true } Tryz.f16 [(.a (.sl (.v 0) (.v 1) (.v 2)))] [((.a 0), (.prop 3))] 4 = t_great04 := by kernel_rfl
-- tideline/tidelinelaw04.TreeCounts: ρ := [.a callsa, .n callsl, .n callsc, .p callsP]
end Go.Proofs.YtdieogcemmnaaaaGreatDoor.RX

/- Types that came in. No condition. -/
namespace Go.Proofs.YtdieogcemmnaaaaGreatDoor
open Go.RowKit Go.ChangeShapes Go.WideShapes Go.Deep RX
set_option maxRecDepth 100000
set_option linter.unusedVariables false
set_option linter.unusedSimpArgs false

structure CallE where
  kind : Int
  path : List UInt8
  other : List UInt8
  off : Int
  n : Int
  data : List UInt8
  da : Option Addr
  dc : Nat
abbrev CallE.vals (x : CallE) : List Value := [.int .i64 x.kind, .string ⟨x.path.toArray⟩, .string ⟨x.other.toArray⟩, .int .i64 x.off, .int .i64 x.n, .slice x.da x.data.length x.dc]
def CallE.hp (x : CallE) : HP := HP.both (HP.pure (okI x.kind)) (HP.both (HP.pure (x.path.length ≤ 9223372036854775807)) (HP.both (HP.pure (x.other.length ≤ 9223372036854775807)) (HP.both (HP.pure (okI x.off)) (HP.both (HP.pure (okI x.n)) (HP.and (x.data.length ≤ 140737488355328) (RoB x.da x.data.length x.data))))))
theorem CallE.pers (x : CallE) (R h h' : PH) (H : (x.hp).p R h) : (x.hp).p R h' := ⟨H.1, ⟨H.2.1, ⟨H.2.2.1, ⟨H.2.2.2.1, ⟨H.2.2.2.2.1, H.2.2.2.2.2⟩⟩⟩⟩⟩
instance : Inhabited CallE := ⟨⟨0, [], [], 0, 0, [], none, 0⟩⟩
def kCallE : Kind CallE := ⟨6, by decide, CallE.vals, fun _ => rfl, CallE.hp, CallE.pers⟩
theorem CallE.of_trod {H : Type} {enc : TypeId × Value → H} {w : World} {cs : List Value} {n : Nat} {x : DataW H × List MemPlace} (h : DataW.trod enc Tryz.prog w 0 (fun _ => true) true n 34 cs = some x) (hs : Small Tryz.prog 34 x.1) : ∃ m : CallE, cs = kCallE.vals m ∧ ∀ h, (kCallE.hp m).p (allOf w) h := by
  obtain ⟨xs0, n0, _, hx0, hl0, hxl0, hf0⟩ := DataW.trod_struct Tryz.underlying34 h
  replace hxl0 : xs0.length = 6 := hxl0
  have hs0 : Small Tryz.prog 34 (.agg (xs0.map (·.1))) := by
    have e := hx0
    first | (subst e; exact hs) | (rw [e] at hs; exact hs) | (have e2 := congrArg Prod.fst e; rw [← e2]; exact hs) | (rw [← e]; exact hs)
  obtain ⟨c0, e0, w0⟩ := field_int Tryz.underlying3 (show 0 < xs0.length by omega) (by kernel_rfl) (hf0 0 _ rfl)
  obtain ⟨c1, e1, w1⟩ := field_str Tryz.underlying9 (show 1 < xs0.length by omega) (by kernel_rfl) (hf0 1 _ rfl)
  obtain ⟨c2, e2, w2⟩ := field_str Tryz.underlying9 (show 2 < xs0.length by omega) (by kernel_rfl) (hf0 2 _ rfl)
  obtain ⟨c3, e3, w3⟩ := field_int Tryz.underlying3 (show 3 < xs0.length by omega) (by kernel_rfl) (hf0 3 _ rfl)
  obtain ⟨c4, e4, w4⟩ := field_int Tryz.underlying3 (show 4 < xs0.length by omega) (by kernel_rfl) (hf0 4 _ rfl)
  obtain ⟨a5, l5, k5, e5⟩ := field_slice Tryz.underlying28 (show 5 < xs0.length by omega) (by kernel_rfl) (hf0 5 _ rfl)
  have q5 := hf0 5 _ rfl
  rw [List.getElem?_eq_getElem (show 5 < xs0.length by omega)] at q5
  have g5 : DataW.trod enc Tryz.prog w 0 (fun _ => true) true n0 28 [.slice a5 l5 k5] = some xs0[5] := by
    rw [← take1' e5]
    exact q5
  have s5 : Small Tryz.prog 28 xs0[5].1 := Small.part (i := 5) hs0 Tryz.underlying34 rfl (by rw [List.getElem?_map, List.getElem?_eq_getElem (show 5 < xs0.length by omega)]; rfl)
  obtain ⟨b5, d5, m5, r5, y5, z5⟩ := bytes_of_trod g5 s5
  simp only [Value.slice.injEq] at r5
  obtain ⟨rfl, rfl, rfl⟩ := r5
  have hlen : cs.length = 6 := hl0.trans (by kernel_rfl)
  refine ⟨⟨c0, c1, c2, c3, c4, d5, a5, k5⟩, ?_, fun hh => ⟨int_wf w0, ⟨w1, ⟨w2, ⟨int_wf w3, ⟨int_wf w4, ⟨y5, z5 hh⟩⟩⟩⟩⟩⟩⟩
  clear h hl0 hf0 q5 g5 s5
  revert e0 e1 e2 e3 e4 e5
  match cs, hlen with
  | [u0, u1, u2, u3, u4, u5], _ =>
    intro e0
    obtain rfl : u0 = .int _ c0 := Option.some.inj e0
    intro e1
    obtain rfl : u1 = .string ⟨c1.toArray⟩ := Option.some.inj e1
    intro e2
    obtain rfl : u2 = .string ⟨c2.toArray⟩ := Option.some.inj e2
    intro e3
    obtain rfl : u3 = .int _ c3 := Option.some.inj e3
    intro e4
    obtain rfl : u4 = .int _ c4 := Option.some.inj e4
    intro e5
    obtain rfl : u5 = .slice a5 d5.length k5 := Option.some.inj e5
    rfl
theorem CallE.load {a : Option Addr} {n : Nat} {l : List CallE} {k : Nat} {x : CallE} (hk : l[k]? = some x) : ORead Tryz.prog (loadS 34 (.pointer (a.map fun y => (y.add ((k : Int).toNat * 6)).add 0))) (Ls kCallE a n l) (.agg x.vals.toArray) := by
  obtain ⟨d, hd⟩ : ∃ d, Tryz.prog.underlying 34 = some d := Option.isSome_iff_exists.1 (by kernel_rfl)
  exact Ls.load (K := kCallE) hd (by kernel_rfl) (by kernel_rfl) hk

end Go.Proofs.YtdieogcemmnaaaaGreatDoor

/- Law 4: calls as they come in; Do as laws call it; speaks, Great. No condition. -/
namespace Go.Proofs.YtdieogcemmnaaaaGreatDoor
set_option linter.unusedSimpArgs false
set_option linter.unusedVariables false
open Go.Proofs.YtdieogcemmnaaaaGreatDoor RX
set_option maxRecDepth 100000

abbrev kCall : Kind CallE := kCallE
abbrev callVs (x : CallE) : List Value := x.vals
def CallE.m (x : CallE) : CallM := ⟨x.kind, x.path, x.other, x.off, x.n, x.da, x.data.length, x.dc⟩
def dataAt (L : List CallE) : Prop := ∀ x ∈ L, x.data.length ≠ 0 → x.da.isSome = true
theorem dataAt_of {a : Option Addr} {n : Nat} {L : List CallE} {R h : PH} (H : (Ls kCall a n L).p R h) : dataAt L := fun x hx hd => RoC.some (H.2.2 x hx).2.2.2.2.2.2 (by omega)
theorem callD_of {a : Option Addr} {n : Nat} {L : List CallE} (hL : dataAt L) {x : CallE} (hx : x ∈ L) : CallD x.m (Ls kCall a n L) x.data where
  rd := ⟨Rd.impR (RdL.ro 1 x.da x.data.length (x.data.map u8v)).rd fun R h H => (H.2.2 x hx).2.2.2.2.2.2, fun R h H e => (RdL.ro 1 x.da x.data.length (x.data.map u8v)).none R h (H.2.2 x hx).2.2.2.2.2.2 e⟩
  len := rfl
  some' := hL x hx
variable {b : Nat} {t : TS}
def doC (T : List Nd) (c : CallM) (d : List UInt8) : List Nd × AnsM := doS T c.kind c.path c.other c.off c.n d
theorem doL {B : Nat} (hB : B ≤ 100000) (wf : TWf B t.pub) (c : CallM) (S : HP) (d : List UInt8) (hd : CallD c S d) {K : Int → Int → Int → Int → Option Addr → Nat → Nat → HP → Option Addr → Nat → Nat → HP → HP → Prop}
    (hK : ∀ t' da dc na nc, t'.pub = (doC t.pub c d).1 → K (doC t.pub c d).2.err (doC t.pub c d).2.kind (doC t.pub c d).2.size (doC t.pub c d).2.links da (doC t.pub c d).2.data.length dc (OwB da (doC t.pub c d).2.data.length dc (doC t.pub c d).2.data) na (doC t.pub c d).2.names.length nc (OwS na (doC t.pub c d).2.names.length nc (doC t.pub c d).2.names) (TRep b t')) :
    Tri Tryz.prog 18 #[.pointer (some ⟨b, 0, none⟩), c.val] (HP.sep (TRep b t) S) (fun v => HP.ex fun e : Int => HP.ex fun k : Int => HP.ex fun s : Int => HP.ex fun l : Int => HP.ex fun da : Option Addr => HP.ex fun dl : Nat => HP.ex fun dc : Nat => HP.ex fun dP : HP => HP.ex fun na : Option Addr => HP.ex fun nl : Nat => HP.ex fun nc : Nat => HP.ex fun nP : HP => HP.ex fun tP : HP =>
      HP.and (v = .agg #[.int .i64 e, .int .i64 k, .int .i64 s, .int .i64 l, .slice da dl dc, .slice na nl nc]) (HP.and (K e k s l da dl dc dP na nl nc nP tP) (HP.sep dP (HP.sep nP (HP.sep tP S))))) := by
  refine (tDo_ok hB wf c S d hd).weak (fun _ _ h => h) ?_
  rintro v R h ⟨t', ht, da, dc, na, nc, rfl, H⟩
  exact ⟨_, _, _, _, da, _, dc, _, na, _, nc, _, _, rfl, hK t' da dc na nc ht, H⟩
theorem doL0 {B : Nat} (hB : B ≤ 100000) (wf : TWf B t.pub) (kind : Int) (path other : Nm) (off n : Int) {K : Int → Int → Int → Int → Option Addr → Nat → Nat → HP → Option Addr → Nat → Nat → HP → HP → Prop}
    (hK : ∀ t' da dc na nc, t'.pub = (doS t.pub kind path other off n []).1 → K (doS t.pub kind path other off n []).2.err (doS t.pub kind path other off n []).2.kind (doS t.pub kind path other off n []).2.size (doS t.pub kind path other off n []).2.links da (doS t.pub kind path other off n []).2.data.length dc (OwB da (doS t.pub kind path other off n []).2.data.length dc (doS t.pub kind path other off n []).2.data) na (doS t.pub kind path other off n []).2.names.length nc (OwS na (doS t.pub kind path other off n []).2.names.length nc (doS t.pub kind path other off n []).2.names) (TRep b t')) :
    Tri Tryz.prog 18 #[.pointer (some ⟨b, 0, none⟩), .agg #[.int .i64 kind, sE path, sE other, .int .i64 off, .int .i64 n, .slice none 0 0]] (TRep b t) (fun v => HP.ex fun e : Int => HP.ex fun k : Int => HP.ex fun s : Int => HP.ex fun l : Int => HP.ex fun da : Option Addr => HP.ex fun dl : Nat => HP.ex fun dc : Nat => HP.ex fun dP : HP => HP.ex fun na : Option Addr => HP.ex fun nl : Nat => HP.ex fun nc : Nat => HP.ex fun nP : HP => HP.ex fun tP : HP =>
      HP.and (v = .agg #[.int .i64 e, .int .i64 k, .int .i64 s, .int .i64 l, .slice da dl dc, .slice na nl nc]) (HP.and (K e k s l da dl dc dP na nl nc nP tP) (HP.sep dP (HP.sep nP tP)))) := by
  have hd : CallD ⟨kind, path, other, off, n, none, 0, 0⟩ HP.tt [] := ⟨⟨fun w R h F s a j u hj => by simp at hj, fun _ _ _ _ => rfl⟩, rfl, fun h => absurd rfl h⟩
  refine (doL hB wf ⟨kind, path, other, off, n, none, 0, 0⟩ HP.tt [] hd (K := K) hK).weak (fun _ _ H => HP.sep_tt H) ?_
  rintro v R h ⟨e, k, s, l, da, dl, dc, dP, na, nl, nc, nP, tP, e1, hk, H⟩
  exact ⟨e, k, s, l, da, dl, dc, dP, na, nl, nc, nP, tP, e1, hk, HP.sep_mono H (fun _ h => h) fun z hz => HP.sep_mono hz (fun _ h => h) fun u hu => HP.sep_left hu⟩
set_option maxHeartbeats 1000000 in
theorem speaks04_ok : Tri Tryz.prog 15 #[] HP.tt (fun v => HP.pure (v = .bool true)) := by
  refine tri_of_tree (ρ := []) mixed Tryz.func15 tree_speaks04 ?_
  unfold t_speaks04
  simp only [T.den, E.prop, E.den, RX.look, F1.app, F2.app, Uni.int_i, Uni.nat_n, Uni.bool_c, Uni.str_s, Uni.adr_a, Uni.val_v, Uni.hp_p, hden, cden, V.den, W.den, A.den, BR.den, SA.den, FV.den, capV, exs, exP, allP, Cur.app, List.map_cons, List.map_nil, List.cons_append, List.nil_append, List.drop_succ_cons, List.drop_zero, List.length_cons, List.length_nil, Nat.zero_add, Nat.reduceAdd, Int.neg_neg, Bool.not_not, List.append_nil, Nat.add_zero, List.getElem?_cons_zero, List.getElem?_cons_succ, Decidable.not_not, semW_eq, semW_load, semW_store, semW_storeC, semW_append, semW_lookup, semW_lookupC, semW_update, semW_updateC, semW_updateK, semW_delete, semW_range, semW_next, semW_entry, semW_nil, ne_eq, Nat.reduceEqDiff, not_false_eq_true]
  refine tNew_ok.weak (fun _ _ h => h) ?_
  rintro v R h ⟨q, t0, ⟨rfl, h0⟩, H⟩
  refine ⟨q, TRep q t0, rfl, ?_, H⟩
  clear H
  have wf0 : TWf 1 t0.pub := by rw [h0]; exact newT_wf
  refine doL0 (by decide) wf0 1 [47, 97] [] 0 0 fun t1 da dc na nc h1 => ?_
  have wf1 : TWf 2 t1.pub := by rw [h1]; exact wf0.do (by decide) _ _ _ _ _ _
  intro x1
  refine doL0 (by decide) wf1 3 [47, 97, 47, 98] [] 0 0 fun t2 da dc na nc h2 => ?_
  have wf2 : TWf 3 t2.pub := by rw [h2]; exact wf1.do (by decide) _ _ _ _ _ _
  intro x2
  refine doL0 (by decide) wf2 6 [47, 97] [47, 97, 47, 99] 0 0 fun t3 da dc na nc h3 => ?_
  have wf3 : TWf 4 t3.pub := by rw [h3]; exact wf2.do (by decide) _ _ _ _ _ _
  intro x3
  rw [h0] at h1
  rw [h1] at h2
  rw [h2] at h3
  rw [h2, h1, h0]
  have e1 : (doS newT 1 [47, 97] [] 0 0 []).2.err = 0 := by decide +kernel
  have e2 : (doS (doS newT 1 [47, 97] [] 0 0 []).1 3 [47, 97, 47, 98] [] 0 0 []).2.err = 0 := by decide +kernel
  have e3 : (doS (doS (doS newT 1 [47, 97] [] 0 0 []).1 3 [47, 97, 47, 98] [] 0 0 []).1 6 [47, 97] [47, 97, 47, 99] 0 0 []).2.err = 26 := by decide +kernel
  have e4 : (doS (doS (doS newT 1 [47, 97] [] 0 0 []).1 3 [47, 97, 47, 98] [] 0 0 []).1 6 [47, 97] [47, 97, 47, 99] 0 0 []).1.length = 3 := by decide +kernel
  refine ⟨fun _ => ⟨fun _ => ⟨fun _ => ?_, fun h => absurd e3 h⟩, fun h => absurd e2 h⟩, fun h => absurd e1 h⟩
  refine (tNodes_ok (by decide) wf3).weak (fun _ _ h => h) ?_
  rintro v R h ⟨a, c, rfl, H⟩
  refine ⟨a, t3.pub.length, c, _, rfl, .of fun R h H => ?_, H⟩
  rw [h3, e4]
  rfl
/-- A field of a call that came in. -/
theorem undCall : ∃ d, Tryz.prog.underlying 34 = some d := Option.isSome_iff_exists.1 (by kernel_rfl)
theorem undNode : ∃ d, Tryz.prog.underlying 43 = some d := Option.isSome_iff_exists.1 (by kernel_rfl)
theorem aggNode : aggT Tryz.prog 43 = true := by kernel_rfl
theorem szNode : szT Tryz.prog 43 = 5 := by kernel_rfl
theorem aggCall : aggT Tryz.prog 34 = true := by kernel_rfl
theorem szCall : szT Tryz.prog 34 = 6 := by kernel_rfl
theorem Ls.some {α : Type} {K : Kind α} {a : Option Addr} {n : Nat} {l : List α} {R h : PH} (H : (Ls K a n l).p R h) (hn : n ≠ 0) : a.isSome = true := by
  exact RoC.some H.2.1 (Nat.pos_of_ne_zero hn)
theorem loadCall {a : Option Addr} {n : Nat} {l : List CallE} {k : Nat} {x : CallE} (hk : l[k]? = some x) : ORead Tryz.prog (loadS 34 (.pointer (a.map fun y => (y.add (k * 6)).add 0))) (Ls kCall a n l) (.agg (callVs x).toArray) := by
  obtain ⟨d, hd⟩ := undCall
  exact Ls.load (K := kCall) hd aggCall szCall hk
theorem loadNode {a : Option Addr} {n : Nat} {l : List NodeE} {k : Nat} {x : NodeE} (hk : l[k]? = some x) : ORead Tryz.prog (loadS 43 (.pointer (a.map fun y => (y.add (k * 5)).add 0))) (Ls kNode a n l) (.agg (nodeVs x).toArray) := by
  obtain ⟨d, hd⟩ := undNode
  exact Ls.load (K := kNode) hd aggNode szNode hk
def greatB (L : List CallE) : Bool := decide (120 < L.length) || L.any fun x => decide (300 < x.path.length) || decide (300 < x.other.length) || decide (600 < x.data.length)
set_option maxHeartbeats 1000000 in
theorem great04_ok (a : Option Addr) (n c : Nat) (L : List CallE) : Tri Tryz.prog 16 #[.slice a n c] (Ls kCall a n L) (fun v => HP.and (v = .bool (greatB L)) (Ls kCall a n L)) := by
  refine Tri.fact (φ := L.length = n ∧ (n ≠ 0 → a.isSome = true)) (fun R h H => ⟨H.1, fun hn => Ls.some H hn⟩) fun ⟨hl, ha⟩ => ?_
  refine tri_of_tree (ρ := [.a a, .n n, .n c, .p (Ls kCall a n L)]) mixed Tryz.func16 tree_great04 ?_
  unfold t_great04
  simp only [T.den, E.prop, E.den, RX.look, F1.app, F2.app, Uni.int_i, Uni.nat_n, Uni.bool_c, Uni.str_s, Uni.adr_a, Uni.val_v, Uni.hp_p, hden, cden, V.den, W.den, A.den, BR.den, SA.den, FV.den, capV, exs, exP, allP, Cur.app, List.map_cons, List.map_nil, List.cons_append, List.nil_append, List.drop_succ_cons, List.drop_zero, List.length_cons, List.length_nil, Nat.zero_add, Nat.reduceAdd, Int.neg_neg, Bool.not_not, List.append_nil, Nat.add_zero, List.getElem?_cons_zero, List.getElem?_cons_succ, Decidable.not_not, semW_eq, semW_load, semW_store, semW_storeC, semW_append, semW_lookup, semW_lookupC, semW_update, semW_updateC, semW_updateK, semW_delete, semW_range, semW_next, semW_entry, semW_nil, ne_eq, Nat.reduceEqDiff, not_false_eq_true]
  refine ⟨fun h => .of fun R h' H => ⟨?_, H⟩, fun h => ?_⟩
  · have : 120 < L.length := by omega
    simp [greatB, this]
  refine ⟨fun _ i => ∃ k : Nat, i = k ∧ k ≤ n ∧ ∀ j x, j < k → L[j]? = some x → x.path.length ≤ 300 ∧ x.other.length ≤ 300 ∧ x.data.length ≤ 600, fun _ i => n - i.toNat, ⟨0, rfl, Nat.zero_le _, fun j x hj => absurd hj (by omega)⟩, ?_⟩
  rintro _ _ ⟨k, rfl, hk, hb⟩
  refine ⟨fun hlt => ⟨by omega, fun _ => ⟨ha (by omega), fun _ => ?_⟩⟩, fun hge => .of fun R h' H => ⟨?_, H⟩⟩
  · obtain ⟨x, hx⟩ : ∃ x, L[k]? = some x := ⟨_, List.getElem?_eq_getElem (by omega)⟩
    have hxm := List.mem_of_getElem? hx
    refine ⟨x.kind, x.path, x.other, x.off, x.n, x.da, x.data.length, x.dc, loadCall hx, fun q => ?_⟩
    have key : 300 < x.path.length ∨ 300 < x.other.length ∨ 600 < x.data.length → greatB L = true := fun h => by
      unfold greatB
      rw [Bool.or_eq_true, List.any_eq_true]
      refine .inr ⟨x, hxm, ?_⟩
      simp only [Bool.or_eq_true, decide_eq_true_eq]
      omega
    have sz : ∀ l : List UInt8, (⟨l.toArray⟩ : ByteArray).size = l.length := fun l => by simp [ByteArray.size]
    refine ⟨fun h => .of fun R h' H => ⟨?_, H⟩, fun h1 => ⟨fun h => .of fun R h' H => ⟨?_, H⟩, fun h2 => ⟨fun h => .of fun R h' H => ⟨?_, H⟩, fun h3 => ⟨inI64' _ (by omega) (by omega), fun _ => ⟨⟨k + 1, by omega, by omega, fun j y hj hy => ?_⟩, by dsimp only; omega⟩⟩⟩⟩⟩
    · rw [key (by omega)]
    · rw [key (by omega)]
    · rw [key (by omega)]
    · rcases Nat.lt_or_eq_of_le (Nat.le_of_lt_succ hj) with h | h
      · exact hb j y h hy
      · subst h; rw [hx] at hy; cases hy; omega
  · have : greatB L = false := by
      unfold greatB
      rw [Bool.or_eq_false_iff]
      refine ⟨by simp; omega, ?_⟩
      rw [List.any_eq_false]
      intro x hx
      obtain ⟨j, hj⟩ := List.mem_iff_getElem?.1 hx
      have hjl := (List.getElem?_eq_some_iff.1 hj).1
      have := hb j x (by omega) hj
      simp; omega
    rw [this]
theorem great_len {L : List CallE} (h : ¬ greatB L = true) : L.length ≤ 120 := by
  unfold greatB at h
  simp at h
  omega
end Go.Proofs.YtdieogcemmnaaaaGreatDoor

/- Law 4: what a rename leaves; a directory has one path. Plain. No condition. -/
namespace Go.Proofs.YtdieogcemmnaaaaGreatDoor
open Go.Proofs.YtdieogcemmnaaaaGreatDoor RX
set_option maxRecDepth 100000

/-- One step down. -/
def Step (T : List Nd) (d : Nat) (nm : Nm) (k : Nat) : Prop := ∃ n, nodeAt T d = some n ∧ n.kind = 1 ∧ lk n.ents nm = some k
theorem Step.det {T : List Nd} {d : Nat} {nm : Nm} {k j : Nat} (h : Step T d nm k) (g : Step T d nm j) : k = j := by
  obtain ⟨n, h1, _, h3⟩ := h
  obtain ⟨m, g1, _, g3⟩ := g
  rw [h1] at g1; cases g1
  rw [h3] at g3; cases g3; rfl
theorem walk_snoc {T : List Nd} {a : Nat} {l : List Nm} {nm : Nm} {k : Nat} : walkS T a (l ++ [nm]) = (k, 0) ↔ ∃ d, walkS T a l = (d, 0) ∧ Step T d nm k := by
  rw [walkS_app]
  constructor
  · intro h
    split at h
    · rename_i h0
      obtain ⟨n, h1, h2, h3⟩ := walk_one h
      exact ⟨_, Prod.ext rfl h0, n, h1, h2, h3⟩
    · rename_i h0
      rw [h] at h0; exact absurd rfl h0
  · rintro ⟨d, h1, n, h2, h3, h4⟩
    rw [h1]
    simp [walkS, h2, h3, h4]
theorem walk_pre {T : List Nd} {a : Nat} {l m : List Nm} {k : Nat} (h : walkS T a (l ++ m) = (k, 0)) : ∃ d, walkS T a l = (d, 0) ∧ walkS T d m = (k, 0) := by
  rw [walkS_app] at h
  split at h
  · rename_i h0
    exact ⟨_, Prod.ext rfl h0, h⟩
  · rename_i h0
    rw [h] at h0; exact absurd rfl h0
/-- What is reached from the root. -/
inductive Rch (T : List Nd) : Nat → Prop where
  | root : Rch T 0
  | step {d k : Nat} {w : Nm} : Rch T d → Step T d w k → Rch T k
theorem Rch.walk {T : List Nd} {j : Nat} (h : Rch T j) : ∃ l, walkS T 0 l = (j, 0) := by
  induction h with
  | root => exact ⟨[], rfl⟩
  | step _ hs ih => obtain ⟨l, hl⟩ := ih; exact ⟨_, walk_snoc.2 ⟨_, hl, hs⟩⟩
theorem Rch.of_walk {T : List Nd} : ∀ (N : Nat) (l : List Nm) (j : Nat), l.length ≤ N → walkS T 0 l = (j, 0) → Rch T j := by
  intro N
  induction N with
  | zero =>
    intro l j hl h
    obtain rfl := List.length_eq_zero_iff.1 (Nat.le_zero.1 hl)
    cases h; exact .root
  | succ N ih =>
    intro l j hl h
    rcases List.eq_nil_or_concat l with rfl | ⟨l', a, rfl⟩
    · cases h; exact .root
    · rw [List.concat_eq_append] at h hl
      obtain ⟨d, h1, h2⟩ := walk_snoc.1 h
      exact .step (ih l' d (by simp at hl; omega) h1) h2
theorem Rch.of {T : List Nd} {l : List Nm} {j : Nat} (h : walkS T 0 l = (j, 0)) : Rch T j := Rch.of_walk l.length l j (Nat.le_refl _) h
theorem Rch.find {T : List Nd} {s : Nm} (h : (findS T s).2 = 0) : Rch T (findS T s).1 := by
  unfold findS at h ⊢
  split at h
  · cases h
  · rename_i l hl
    exact Rch.of (l := l) (Prod.ext rfl h)
theorem cntE_pos {l : List (Nm × Nat)} {d : Nat} {a : Nm} (h : (a, d) ∈ l) : 1 ≤ cntE l d := by
  unfold cntE
  have : 0 < l.countP fun e => decide (e.2 = d) := List.countP_pos_iff.2 ⟨_, h, by simp⟩
  omega
theorem cntE_two {d : Nat} {a c : Nm} (hac : a ≠ c) : ∀ {l : List (Nm × Nat)}, (a, d) ∈ l → (c, d) ∈ l → 2 ≤ cntE l d
  | [], h, _ => by cases h
  | y :: r, h, g => by
    have hc : cntE (y :: r) d = cntE r d + if y.2 = d then 1 else 0 := by unfold cntE; rw [List.countP_cons]; simp
    rcases List.mem_cons.1 h with rfl | h1
    · rcases List.mem_cons.1 g with e | g1
      · injection e with e _; exact absurd e.symm hac
      · have := cntE_pos g1; rw [hc]; simp; omega
    · rcases List.mem_cons.1 g with rfl | g1
      · have := cntE_pos h1; rw [hc]; simp; omega
      · have := cntE_two hac h1 g1; rw [hc]; omega
theorem refs_mem {n : Nd} {k : Nat} : ∀ {T : List Nd}, n ∈ T → cntE n.ents k ≤ refs T k
  | [], h => by cases h
  | y :: r, h => by
    rw [refs_cons]
    rcases List.mem_cons.1 h with rfl | h
    · omega
    · have := refs_mem (k := k) h; omega
theorem refs_two {n m : Nd} {k : Nat} (hnm : n ≠ m) : ∀ {T : List Nd}, n ∈ T → m ∈ T → cntE n.ents k + cntE m.ents k ≤ refs T k
  | [], h, _ => by cases h
  | y :: r, h, g => by
    rw [refs_cons]
    rcases List.mem_cons.1 h with rfl | h1
    · rcases List.mem_cons.1 g with rfl | g1
      · exact absurd rfl hnm
      · have := refs_mem (k := k) g1; omega
    · rcases List.mem_cons.1 g with rfl | g1
      · have := refs_mem (k := k) h1; omega
      · have := refs_two (k := k) hnm h1 g1; omega
/-- One entry alone leads to a directory. -/
theorem dir_one {B : Nat} {T : List Nd} (wf : TWf B T) {d p q : Nat} {a c : Nm} {x : Nd} (hx : nodeAt T d = some x) (hk : x.kind = 1) (h : Step T p a d) (g : Step T q c d) : p = q ∧ a = c := by
  obtain ⟨n, h1, _, h3⟩ := h
  obtain ⟨m, g1, _, g3⟩ := g
  obtain ⟨hn, hnn, hnm⟩ := wf.at' h1
  obtain ⟨hm, hmn, hmm⟩ := wf.at' g1
  have hd0 : d ≠ 0 := (hn.name _ (lk_mem h3)).2
  have hc := wf.cnt' hx hd0
  have hl : x.links = 1 := by
    rcases (wf.at' hx).1.kind with ⟨_, _, h⟩ | ⟨h, _⟩
    · exact h
    · rw [hk] at h; cases h
  have h2 : refs T d = 1 := by omega
  by_cases e : n = m
  · subst e
    refine ⟨by omega, Classical.byContradiction fun hac => ?_⟩
    have := cntE_two hac (lk_mem h3) (lk_mem g3)
    have := refs_mem (k := d) hnm
    omega
  · have := refs_two (k := d) e hnm hmm
    have := cntE_pos (lk_mem h3)
    have := cntE_pos (lk_mem g3)
    omega
/-- A directory has one path. -/
theorem path_one {B : Nat} {T : List Nd} (wf : TWf B T) : ∀ (N : Nat) (l m : List Nm) (d : Nat) (x : Nd), l.length ≤ N → nodeAt T d = some x → x.kind = 1 → walkS T 0 l = (d, 0) → walkS T 0 m = (d, 0) → l = m := by
  have zero : ∀ (l : List Nm) (a : Nm), walkS T 0 (l ++ [a]) ≠ (0, 0) := fun l a h => by
    obtain ⟨d, _, n, h1, _, h3⟩ := walk_snoc.1 h
    exact ((wf.at' h1).1.name _ (lk_mem h3)).2 rfl
  intro N
  induction N with
  | zero =>
    intro l m d x hl hx hk h g
    obtain rfl := List.length_eq_zero_iff.1 (Nat.le_zero.1 hl)
    cases h
    rcases List.eq_nil_or_concat m with rfl | ⟨m', c, rfl⟩
    · rfl
    · rw [List.concat_eq_append] at g
      exact absurd g (zero m' c)
  | succ N ih =>
    intro l m d x hl hx hk h g
    rcases List.eq_nil_or_concat l with rfl | ⟨l', a, rfl⟩
    · cases h
      rcases List.eq_nil_or_concat m with rfl | ⟨m', c, rfl⟩
      · rfl
      · rw [List.concat_eq_append] at g
        exact absurd g (zero m' c)
    · rw [List.concat_eq_append] at h hl ⊢
      rcases List.eq_nil_or_concat m with rfl | ⟨m', c, rfl⟩
      · cases g
        exact absurd h (zero l' a)
      · rw [List.concat_eq_append] at g ⊢
        obtain ⟨p, h1, h2⟩ := walk_snoc.1 h
        obtain ⟨q, g1, g2⟩ := walk_snoc.1 g
        obtain ⟨rfl, rfl⟩ := dir_one wf hx hk h2 g2
        obtain ⟨y, hy, hyk, _⟩ := h2
        rw [ih l' m' p y (by simp at hl; omega) hy hyk h1 g1]
theorem path_one' {B : Nat} {T : List Nd} (wf : TWf B T) {l m : List Nm} {d : Nat} {x : Nd} (hx : nodeAt T d = some x) (hk : x.kind = 1) (h : walkS T 0 l = (d, 0)) (g : walkS T 0 m = (d, 0)) : l = m :=
  path_one wf l.length l m d x (Nat.le_refl _) hx hk h g
/-! entries put and dropped -/
theorem drop_put {nm : Nm} {k : Nat} : ∀ {l : List (Nm × Nat)}, lk l nm = none → dropE nm (putE nm k l) = l
  | [], _ => by simp [putE, dropE]
  | y :: r, h => by
    unfold lk at h
    split at h
    · cases h
    · rename_i hne
      have hd : dropE nm (y :: r) = y :: dropE nm r := by unfold dropE; rw [List.filter_cons, if_pos (by simpa using Ne.symm hne)]
      have ih := drop_put (k := k) h
      have hr : dropE nm r = r := by
        unfold dropE
        rw [List.filter_eq_self]
        intro z hz
        have hlr : ∀ {l : List (Nm × Nat)}, lk l nm = none → ∀ z ∈ l, z.1 ≠ nm := fun {l} => by
          induction l with
          | nil => intro _ z hz; cases hz
          | cons w q ihq =>
            intro h z hz
            unfold lk at h
            split at h
            · cases h
            · rename_i hw
              rcases List.mem_cons.1 hz with rfl | hz
              · exact Ne.symm hw
              · exact ihq h z hz
        simpa using hlr h z hz
      unfold putE
      split
      · unfold dropE at ih ⊢
        rw [List.filter_cons, if_pos (by simpa using Ne.symm hne), ih]
      · have : dropE nm ((nm, k) :: y :: r) = dropE nm (y :: r) := by unfold dropE; rw [List.filter_cons, if_neg (by simp)]
        rw [this, hd, hr]
theorem put_drop {nm : Nm} {k : Nat} : ∀ {l : List (Nm × Nat)}, (l.map (·.1)).Pairwise (· < ·) → lk l nm = some k → putE nm k (dropE nm l) = l
  | [], _, h => by cases h
  | y :: r, hs, h => by
    rw [List.map_cons, List.pairwise_cons] at hs
    unfold lk at h
    split at h
    · rename_i e
      cases h
      subst e
      have hall : ∀ z ∈ r, y.1 < z.1 := fun z hz => hs.1 _ (List.mem_map.2 ⟨z, hz, rfl⟩)
      have hd : dropE y.1 (y :: r) = r := by
        unfold dropE
        rw [List.filter_cons, if_neg (by simp), List.filter_eq_self]
        intro z hz
        have := hall z hz
        simp only [ne_eq, decide_not, Bool.not_eq_eq_eq_not, Bool.not_true, decide_eq_false_iff_not]
        intro q
        rw [q] at this
        exact List.lt_irrefl _ this
      rw [hd]
      cases r with
      | nil => rfl
      | cons z q =>
        unfold putE
        rw [if_neg fun hl => List.lt_irrefl _ (List.lt_trans hl (hall z (by simp)))]
    · rename_i hne
      have hm := lk_mem h
      have hlt : y.1 < nm := hs.1 _ (List.mem_map.2 ⟨_, hm, rfl⟩)
      have hd : dropE nm (y :: r) = y :: dropE nm r := by unfold dropE; rw [List.filter_cons, if_pos (by simpa using Ne.symm hne)]
      rw [hd]
      unfold putE
      rw [if_pos hlt, put_drop hs.2 h]
theorem split_inj {s t : Nm} {l : List Nm} (h : splitP s = some l) (g : splitP t = some l) : s = t := by
  have key : ∀ {s : Nm} {l : List Nm}, splitP s = some l → s = joinP l := fun {s l} h => by
    cases s with
    | nil => simp [splitP] at h
    | cons b r =>
      unfold splitP at h
      by_cases e : b :: r = [47]
      · rw [if_pos e] at h; cases h; exact e
      · rw [if_neg e] at h
        simp only at h
        by_cases hb : b = 47
        · rw [if_pos hb] at h
          by_cases hc : (splitB 47 r).length ≤ 8 ∧ (splitB 47 r).all nameOk = true
          · rw [if_pos hc] at h
            cases h
            have e2 := splitB_join 47 r
            unfold joinP
            rw [if_neg]
            · rw [hb]; exact e2.symm
            · intro q; rw [q] at e2; cases e2
          · rw [if_neg hc] at h; cases h
        · rw [if_neg hb] at h; cases h
  rw [key h, key g]
theorem find_iff {T : List Nd} {s : Nm} {k : Nat} {l : List Nm} (h : splitP s = some l) : findS T s = walkS T 0 l := findS_split h
/-- What a rename that does something leaves. -/
structure Moved (T : List Nd) (p q : Nm) (T' : List Nd) : Prop where
  stat : statS T' q = statS T p
  gone : (findS T' p).2 ≠ 0
  len : T'.length = T.length
  back : renameS T' q p = (T, 0)
  rch : ∀ j, Rch T j → Rch T' j
  nums : T'.map (·.num) = T.map (·.num)
theorem lk_setE {T : List Nd} {u : Nat} {g : List (Nm × Nat) → List (Nm × Nat)} {d : Nat} {nm : Nm} {k : Nat} : Step (setP T u (fE g)) d nm k ↔ ∃ n, nodeAt T d = some n ∧ n.kind = 1 ∧ lk (if d = u then g n.ents else n.ents) nm = some k := by
  unfold Step
  rw [nodeAt_set (fE_num _)]
  by_cases e : d = u
  · subst e
    simp only [if_true]
    constructor
    · rintro ⟨n, h1, h2, h3⟩
      obtain ⟨m, h4, rfl⟩ := Option.map_eq_some_iff.1 h1
      exact ⟨m, h4, h2, h3⟩
    · rintro ⟨n, h1, h2, h3⟩
      exact ⟨fE g n, by rw [h1]; rfl, h2, h3⟩
  · simp only [if_neg e]
/-- Steps behind a rename. -/
theorem step_moved {T : List Nd} {u1 u2 a : Nat} {o nm : Nm} (hx : ∃ x, nodeAt T u1 = some x ∧ x.kind = 1 ∧ lk x.ents o = some a) (hy : ∃ y, nodeAt T u2 = some y ∧ y.kind = 1 ∧ lk y.ents nm = none) (d : Nat) (w : Nm) (k : Nat) :
    Step (setP (setP T u1 (fE (dropE o))) u2 (fE (putE nm a))) d w k ↔ (d = u2 ∧ w = nm ∧ k = a) ∨ (Step T d w k ∧ ¬ (d = u1 ∧ w = o)) := by
  obtain ⟨x, x1, x2, x3⟩ := hx
  obtain ⟨y, y1, y2, y3⟩ := hy
  rw [lk_setE]
  have key : (∃ n, nodeAt (setP T u1 (fE (dropE o))) d = some n ∧ n.kind = 1 ∧ lk (if d = u2 then putE nm a n.ents else n.ents) w = some k) ↔ ∃ n, nodeAt T d = some n ∧ n.kind = 1 ∧ lk (if d = u2 then putE nm a (if d = u1 then dropE o n.ents else n.ents) else (if d = u1 then dropE o n.ents else n.ents)) w = some k := by
    rw [nodeAt_set (fE_num _)]
    by_cases e : d = u1
    · subst e
      simp only [if_true]
      constructor
      · rintro ⟨n, h1, h2, h3⟩
        obtain ⟨m, h4, rfl⟩ := Option.map_eq_some_iff.1 h1
        exact ⟨m, h4, h2, h3⟩
      · rintro ⟨n, h1, h2, h3⟩
        exact ⟨fE (dropE o) n, by rw [h1]; rfl, h2, h3⟩
    · simp only [if_neg e]
  rw [key]
  constructor
  · rintro ⟨n, h1, h2, h3⟩
    by_cases e2 : d = u2
    · rw [if_pos e2, lk_put] at h3
      by_cases ew : w = nm
      · rw [if_pos ew] at h3; cases h3; exact .inl ⟨e2, ew, rfl⟩
      · rw [if_neg ew] at h3
        right
        by_cases e1 : d = u1
        · rw [if_pos e1, lk_drop] at h3
          by_cases eo : w = o
          · rw [if_pos eo] at h3; cases h3
          · rw [if_neg eo] at h3
            exact ⟨⟨n, h1, h2, h3⟩, fun q => eo q.2⟩
        · rw [if_neg e1] at h3
          exact ⟨⟨n, h1, h2, h3⟩, fun q => e1 q.1⟩
    · rw [if_neg e2] at h3
      right
      by_cases e1 : d = u1
      · rw [if_pos e1, lk_drop] at h3
        by_cases eo : w = o
        · rw [if_pos eo] at h3; cases h3
        · rw [if_neg eo] at h3
          exact ⟨⟨n, h1, h2, h3⟩, fun q => eo q.2⟩
      · rw [if_neg e1] at h3
        exact ⟨⟨n, h1, h2, h3⟩, fun q => e1 q.1⟩
  · rintro (⟨rfl, rfl, rfl⟩ | ⟨⟨n, h1, h2, h3⟩, hno⟩)
    · exact ⟨y, y1, y2, by rw [if_pos rfl, lk_put, if_pos rfl]⟩
    · refine ⟨n, h1, h2, ?_⟩
      have hd : lk (if d = u1 then dropE o n.ents else n.ents) w = some k := by
        by_cases e1 : d = u1
        · rw [if_pos e1, lk_drop, if_neg fun eo => hno ⟨e1, eo⟩]; exact h3
        · rw [if_neg e1]; exact h3
      by_cases e2 : d = u2
      · rw [if_pos e2, lk_put]
        by_cases ew : w = nm
        · subst e2; subst ew
          rw [y1] at h1; cases h1
          rw [y3] at h3; cases h3
        · rw [if_neg ew]; exact hd
      · rw [if_neg e2]; exact hd
/-- A walk that does not use what was dropped. -/
theorem walk_kept {T T' : List Nd} {u1 : Nat} {o : Nm} (hs : ∀ d w k, Step T d w k → ¬ (d = u1 ∧ w = o) → Step T' d w k) : ∀ (N : Nat) (l : List Nm) (k : Nat), l.length ≤ N → walkS T 0 l = (k, 0) → (∀ P Q, l = P ++ o :: Q → walkS T 0 P ≠ (u1, 0)) → walkS T' 0 l = (k, 0) := by
  intro N
  induction N with
  | zero =>
    intro l k hl h _
    obtain rfl := List.length_eq_zero_iff.1 (Nat.le_zero.1 hl)
    exact h
  | succ N ih =>
    intro l k hl h hno
    rcases List.eq_nil_or_concat l with rfl | ⟨l', a, rfl⟩
    · exact h
    · rw [List.concat_eq_append] at h hl hno ⊢
      obtain ⟨p, h1, h2⟩ := walk_snoc.1 h
      refine walk_snoc.2 ⟨p, ih l' p (by simp at hl; omega) h1 (fun P Q e => hno P (Q ++ [a]) (by rw [e]; simp)), hs _ _ _ h2 ?_⟩
      rintro ⟨rfl, rfl⟩
      exact hno l' [] (by simp) h1
theorem find_none {T : List Nd} {s : Nm} (h : splitP s = none) : (findS T s).2 = 20 := by unfold findS; rw [h]
theorem renamed {B : Nat} {T : List Nd} (wf : TWf B T) {p q : Nm} (hne : q ≠ p) (h : (renameS T p q).2 = 0) : Moved T p q (renameS T p q).1 := by
  unfold renameS at h ⊢
  by_cases c1 : (entryS T p).2.2.2 ≠ 0
  · rw [if_pos c1] at h; exact absurd h c1
  rw [if_neg c1, if_neg hne] at h ⊢
  by_cases c2 : insideP q p = true
  · rw [if_pos c2] at h; cases h
  rw [if_neg c2] at h ⊢
  by_cases c3 : (placeS T q).2.2 ≠ 0
  · rw [if_pos c3] at h; exact absurd h c3
  rw [if_neg c3]
  clear h
  have c1' : (entryS T p).2.2.2 = 0 := by simpa using c1
  have c3' : (placeS T q).2.2 = 0 := by simpa using c3
  obtain ⟨x, x1, x2, x3, ab, x4, x5, x6, x7, x8⟩ := entry_ok' c1'
  obtain ⟨y, y1, y2, y3, y4⟩ := place_at c3'
  obtain ⟨ab2, z4, z5, z6⟩ : ∃ ab2, parentS q = some (ab2, (placeS T q).2.1) ∧ (findS T ab2).1 = (placeS T q).1 ∧ (findS T ab2).2 = 0 := by
    unfold placeS at c3' ⊢
    cases hs : parentS q with
    | none => rw [hs] at c3'; simp at c3'
    | some w =>
      obtain ⟨ab2, nm⟩ := w
      rw [hs] at c3'
      simp only at c3' ⊢
      by_cases hc : (findS T ab2).2 ≠ 0
      · rw [if_pos hc] at c3'; exact absurd c3' hc
      · rw [if_neg hc] at c3' ⊢
        cases hx : nodeAt T (findS T ab2).1 with
        | none => rw [hx] at c3'; simp at c3'
        | some x =>
          rw [hx] at c3'
          simp only at c3' ⊢
          by_cases hk : x.kind ≠ 1
          · rw [if_pos hk] at c3'; simp at c3'
          · rw [if_neg hk] at c3' ⊢
            by_cases hl : (lk x.ents nm).isSome = true
            · rw [if_pos hl] at c3'; simp at c3'
            · rw [if_neg hl]
              exact ⟨ab2, rfl, rfl, by simpa using hc⟩
  clear c1 c3 c1' c3'
  generalize (entryS T p).1 = u1 at *
  generalize (entryS T p).2.1 = o at *
  generalize (entryS T p).2.2.1 = a at *
  generalize (placeS T q).1 = u2 at *
  generalize (placeS T q).2.1 = nm at *
  obtain ⟨L1, s1, s2⟩ := parentS_some x4
  obtain ⟨L2, s3, s4⟩ := parentS_some z4
  have w1 : walkS T 0 L1 = (u1, 0) := by rw [← findS_split s2]; exact Prod.ext x5 x6
  have w1o : walkS T 0 (L1 ++ [o]) = (a, 0) := by rw [← findS_split s1]; exact Prod.ext x7 x8
  have w2 : walkS T 0 L2 = (u2, 0) := by rw [← findS_split s4]; exact Prod.ext z5 z6
  have nin : ∀ Q, L2 ≠ L1 ++ o :: Q := fun Q e => c2 (by
    unfold insideP
    rw [s3, s1, e]
    have : (L1 ++ o :: Q ++ [nm]).take (L1 ++ [o]).length = L1 ++ [o] := by
      rw [show L1 ++ o :: Q ++ [nm] = (L1 ++ [o]) ++ (Q ++ [nm]) by simp, List.take_left]
    simp only [this]
    simp)
  have steps := step_moved (T := T) (u1 := u1) (u2 := u2) (a := a) (o := o) (nm := nm) ⟨x, x1, x2, x3⟩ ⟨y, y1, y2, y3⟩
  have hne12 : ¬ (u1 = u2 ∧ o = nm) := by
    rintro ⟨rfl, rfl⟩
    rw [x1] at y1; cases y1
    rw [x3] at y3; cases y3
  -- the walks behind it
  have w2' : walkS (setP (setP T u1 (fE (dropE o))) u2 (fE (putE nm a))) 0 L2 = (u2, 0) := by
    refine walk_kept (T := T) (u1 := u1) (o := o) (fun d w k hs hno => (steps d w k).2 (.inr ⟨hs, hno⟩)) L2.length L2 u2 (Nat.le_refl _) w2 fun P Q e hP => ?_
    have : P = L1 := path_one' wf x1 x2 hP w1
    subst this
    exact nin Q e
  have w1' : walkS (setP (setP T u1 (fE (dropE o))) u2 (fE (putE nm a))) 0 L1 = (u1, 0) := by
    refine walk_kept (T := T) (u1 := u1) (o := o) (fun d w k hs hno => (steps d w k).2 (.inr ⟨hs, hno⟩)) L1.length L1 u1 (Nat.le_refl _) w1 fun P Q e hP => ?_
    have : P = L1 := path_one' wf x1 x2 hP w1
    subst this
    have := congrArg List.length e
    simp at this
  have w2n : walkS (setP (setP T u1 (fE (dropE o))) u2 (fE (putE nm a))) 0 (L2 ++ [nm]) = (a, 0) := walk_snoc.2 ⟨u2, w2', (steps _ _ _).2 (.inl ⟨rfl, rfl, rfl⟩)⟩
  have nostep : ∀ k, ¬ Step (setP (setP T u1 (fE (dropE o))) u2 (fE (putE nm a))) u1 o k := fun k hk => by
    rcases (steps _ _ _).1 hk with ⟨h1, h2, _⟩ | ⟨_, h2⟩
    · exact hne12 ⟨h1, h2⟩
    · exact h2 ⟨rfl, rfl⟩
  have ha1 : a ≠ u1 := by
    rintro rfl
    have := path_one' wf x1 x2 w1 w1o
    have := congrArg List.length this
    simp at this
  have ha2 : a ≠ u2 := by
    rintro rfl
    have := path_one' wf y1 y2 w2 w1o
    exact nin [] this
  have f2n : findS (setP (setP T u1 (fE (dropE o))) u2 (fE (putE nm a))) q = (a, 0) := by rw [findS_split s3]; exact w2n
  have f2 : findS (setP (setP T u1 (fE (dropE o))) u2 (fE (putE nm a))) ab2 = (u2, 0) := by rw [findS_split s4]; exact w2'
  have f1 : findS (setP (setP T u1 (fE (dropE o))) u2 (fE (putE nm a))) ab = (u1, 0) := by rw [findS_split s2]; exact w1'
  have n1 : ∃ n, nodeAt (setP (setP T u1 (fE (dropE o))) u2 (fE (putE nm a))) u1 = some n ∧ n.kind = 1 := by
    rw [nodeAt_set (fE_num _), nodeAt_set (fE_num _)]
    by_cases e : u1 = u2
    · rw [if_pos e, ← e, if_pos rfl, x1]
      exact ⟨_, rfl, x2⟩
    · rw [if_neg e, nodeAt_set (fE_num _), if_pos rfl, x1]
      exact ⟨_, rfl, x2⟩
  constructor
  · unfold statS
    rw [f2n, if_neg (by simp), if_neg (by rw [x8]; simp), x7]
    have e : nodeAt (setP (setP T u1 (fE (dropE o))) u2 (fE (putE nm a))) a = nodeAt T a := by
      rw [nodeAt_set (fE_num _), if_neg ha2, nodeAt_set (fE_num _), if_neg ha1]
    simp only
    rw [e]
  · intro h0
    have : findS (setP (setP T u1 (fE (dropE o))) u2 (fE (putE nm a))) p = ((findS (setP (setP T u1 (fE (dropE o))) u2 (fE (putE nm a))) p).1, 0) := Prod.ext rfl h0
    rw [findS_split s1] at this
    obtain ⟨d, h1, h2⟩ := walk_snoc.1 this
    rw [w1'] at h1; cases h1
    exact nostep _ h2
  · unfold setP; simp
  · have he : entryS (setP (setP T u1 (fE (dropE o))) u2 (fE (putE nm a))) q = (u2, nm, a, 0) := by
      unfold entryS
      rw [z4]
      simp only
      rw [f2n, f2]
      simp
    have hp : placeS (setP (setP T u1 (fE (dropE o))) u2 (fE (putE nm a))) p = (u1, o, 0) := by
      unfold placeS
      rw [x4]
      simp only
      rw [f1]
      obtain ⟨n, g1, g2⟩ := n1
      simp only [ne_eq, not_true_eq_false, if_false]
      rw [g1]
      simp only [g2, not_true_eq_false, if_false]
      rw [if_neg]
      intro hs
      obtain ⟨k, hk⟩ := Option.isSome_iff_exists.1 hs
      exact nostep k ⟨n, g1, g2, hk⟩
    have hin : insideP p q ≠ true := fun hi => by
      unfold insideP at hi
      rw [s1, s3] at hi
      simp only [Bool.and_eq_true, decide_eq_true_eq] at hi
      obtain ⟨hl, e⟩ := hi
      have e2 : L1 ++ [o] = (L2 ++ [nm]) ++ (L1 ++ [o]).drop (L2 ++ [nm]).length := by
        conv => lhs; rw [← List.take_append_drop (L2 ++ [nm]).length (L1 ++ [o])]
        rw [← e]
      rw [e2] at w1o
      obtain ⟨d, h1, _⟩ := walk_pre w1o
      obtain ⟨e', h2, h3⟩ := walk_snoc.1 h1
      rw [w2] at h2; cases h2
      obtain ⟨n, g1, _, g3⟩ := h3
      rw [y1] at g1; cases g1
      rw [y3] at g3; cases g3
    unfold renameS
    rw [he, hp]
    simp only [ne_eq, not_true_eq_false, if_false]
    rw [if_neg (Ne.symm hne), if_neg hin]
    refine Prod.ext ?_ rfl
    show setP (setP (setP (setP T u1 (fE (dropE o))) u2 (fE (putE nm a))) u2 (fE (dropE nm))) u1 (fE (putE o a)) = T
    have hb : setP (setP (setP T u1 (fE (dropE o))) u2 (fE (putE nm a))) u2 (fE (dropE nm)) = setP T u1 (fE (dropE o)) := by
      unfold setP
      rw [List.map_map, List.map_map]
      refine List.map_congr_left fun n hn => ?_
      have hna : nodeAt T n.num = some n := mem_nodeAt wf.nd hn
      simp only [Function.comp]
      have hu1 : (if n.num = u1 then fE (dropE o) n else n).num = n.num := by split <;> rfl
      rw [hu1]
      by_cases e2 : n.num = u2
      · rw [if_pos e2]
        have hu2 : (fE (putE nm a) (if n.num = u1 then fE (dropE o) n else n)).num = n.num := by rw [fE_num, hu1]
        rw [hu2, if_pos e2]
        rw [e2, y1] at hna
        cases hna
        have hl : lk (if y.num = u1 then fE (dropE o) y else y).ents nm = none := by
          split
          · show lk (dropE o y.ents) nm = none
            rw [lk_drop]; split
            · rfl
            · exact y3
          · exact y3
        generalize (if y.num = u1 then fE (dropE o) y else y) = m at hl
        show ({ m with ents := dropE nm (putE nm a m.ents) } : Nd) = m
        rw [drop_put hl]
      · rw [if_neg e2, hu1, if_neg e2]
    rw [hb]
    unfold setP
    rw [List.map_map]
    conv => rhs; rw [← List.map_id T]
    refine List.map_congr_left fun n hn => ?_
    have hna : nodeAt T n.num = some n := mem_nodeAt wf.nd hn
    simp only [Function.comp, id]
    by_cases e1 : n.num = u1
    · rw [if_pos e1, fE_num, if_pos e1]
      rw [e1, x1] at hna
      cases hna
      show ({ x with ents := putE o a (dropE o x.ents) } : Nd) = x
      rw [put_drop (wf.at' x1).1.sort x3]
    · rw [if_neg e1, if_neg e1]
  · intro j hj
    induction hj with
    | root => exact .root
    | @step d k w hd hs ih =>
      by_cases e : d = u1 ∧ w = o
      · obtain ⟨rfl, rfl⟩ := e
        have : k = a := hs.det ⟨x, x1, x2, x3⟩
        rw [this]
        exact Rch.of w2n
      · exact .step ih ((steps d w k).2 (.inr ⟨hs, e⟩))
  · rw [setP_nums (fE_num _), setP_nums (fE_num _)]
theorem rename_err {T : List Nd} {p q : Nm} (h : (renameS T p q).2 ≠ 0 ∨ q = p) : (renameS T p q).1 = T := by
  unfold renameS at h ⊢
  split
  · rfl
  · split
    · rfl
    · split
      · rfl
      · split
        · rfl
        · rename_i h1 h2 h3 h4
          rw [if_neg h1, if_neg h2, if_neg h3, if_neg h4] at h
          rcases h with h | h
          · exact absurd rfl h
          · exact absurd h h2
end Go.Proofs.YtdieogcemmnaaaaGreatDoor

/- Law 4: all nodes of a tree are reached from its root. Plain. No condition. -/
namespace Go.Proofs.YtdieogcemmnaaaaGreatDoor
open Go.Proofs.YtdieogcemmnaaaaGreatDoor RX
set_option maxRecDepth 100000

def Reach (T : List Nd) : Prop := ∀ n ∈ T, Rch T n.num
/-- .. by a path of so many names. -/
def Dn (T : List Nd) (r j : Nat) : Prop := ∃ l : List Nm, l.length ≤ r ∧ walkS T 0 l = (j, 0)
theorem Dn.le {T : List Nd} {r s j : Nat} (h : Dn T r j) (hr : r ≤ s) : Dn T s j := let ⟨l, h1, h2⟩ := h; ⟨l, by omega, h2⟩
theorem Dn.zero (T : List Nd) (r : Nat) : Dn T r 0 := ⟨[], Nat.zero_le _, rfl⟩
theorem Dn.step {T : List Nd} {r j : Nat} (h : Dn T (r + 1) j) : Dn T r j ∨ ∃ n, n ∈ T ∧ Dn T r n.num ∧ ∃ e ∈ n.ents, e.2 = j := by
  obtain ⟨l, h1, h2⟩ := h
  rcases List.eq_nil_or_concat l with rfl | ⟨l', a, rfl⟩
  · cases h2; exact .inl (Dn.zero T r)
  · rw [List.concat_eq_append] at h1 h2
    obtain ⟨d, h3, n, h4, _, h6⟩ := walk_snoc.1 h2
    obtain ⟨hm, hn⟩ := nodeAt_mem h4
    exact .inr ⟨n, hm, ⟨l', by simp at h1; omega, by rw [hn]; exact h3⟩, _, lk_mem h6, rfl⟩
theorem nodup_sub {α : Type} [DecidableEq α] : ∀ {l m : List α}, l.Nodup → (∀ x ∈ l, x ∈ m) → l.length ≤ m.length
  | [], _, _, _ => Nat.zero_le _
  | x :: l, m, h, hs => by
    rw [List.nodup_cons] at h
    have hx := hs x (by simp)
    have ih := nodup_sub (m := m.erase x) h.2 fun y hy => by
      have : y ≠ x := fun e => h.1 (by rw [← e]; exact hy)
      exact (List.mem_erase_of_ne this).2 (hs y (by simp [hy]))
    rw [List.length_erase_of_mem hx] at ih
    have := List.length_pos_of_mem hx
    rw [List.length_cons]; omega
/-- A walk's stations. -/
def stat' (T : List Nd) (l : List Nm) (i : Nat) : Nat := (walkS T 0 (l.take i)).1
theorem stations {B : Nat} {T : List Nd} (wf : TWf B T) {l : List Nm} {k : Nat} (h : walkS T 0 l = (k, 0)) (hk : (nodeAt T k).isSome = true) : l.length + 1 ≤ T.length := by
  have pre : ∀ i, i ≤ l.length → walkS T 0 (l.take i) = (stat' T l i, 0) ∧ (i < l.length → ∃ x, nodeAt T (stat' T l i) = some x ∧ x.kind = 1) := fun i hi => by
    have e := h
    rw [← List.take_append_drop i l] at e
    obtain ⟨d, h1, h2⟩ := walk_pre e
    have hd : stat' T l i = d := by unfold stat'; rw [h1]
    rw [hd]
    refine ⟨h1, fun hlt => ?_⟩
    have hdr : l.drop i = l[i] :: l.drop (i + 1) := List.drop_eq_getElem_cons hlt
    rw [hdr] at h2
    obtain ⟨d2, h3, _⟩ := walk_pre (l := [l[i]]) (m := l.drop (i + 1)) h2
    obtain ⟨n, h4, h5, _⟩ := walk_one h3
    exact ⟨n, h4, h5⟩
  have inj : ∀ i j, i < j → j ≤ l.length → stat' T l i ≠ stat' T l j := fun i j hij hj e => by
    obtain ⟨h1, h2⟩ := pre i (by omega)
    obtain ⟨x, h3, h4⟩ := h2 (by omega)
    have h5 := (pre j hj).1
    rw [← e] at h5
    have := path_one' wf h3 h4 h1 h5
    have := congrArg List.length this
    rw [List.length_take, List.length_take] at this
    omega
  have nd : ((List.range (l.length + 1)).map (stat' T l)).Nodup := by
    rw [List.nodup_iff_pairwise_ne, List.pairwise_map]
    refine List.Pairwise.imp_of_mem (R := (· < ·)) (fun {a b} ha hb hab => inj a b hab (by have := List.mem_range.1 hb; omega)) (List.pairwise_lt_range)
  have sub : ∀ x ∈ (List.range (l.length + 1)).map (stat' T l), x ∈ T.map (·.num) := fun x hx => by
    obtain ⟨i, hi, rfl⟩ := List.mem_map.1 hx
    have hi := List.mem_range.1 hi
    have : (nodeAt T (stat' T l i)).isSome = true := by
      by_cases e : i < l.length
      · obtain ⟨x, h3, _⟩ := (pre i (by omega)).2 e
        rw [h3]; rfl
      · have : stat' T l i = k := by unfold stat'; rw [List.take_of_length_le (by omega), h]
        rw [this]; exact hk
    obtain ⟨n, hn⟩ := Option.isSome_iff_exists.1 this
    obtain ⟨h1, h2⟩ := nodeAt_mem hn
    exact List.mem_map.2 ⟨n, h1, h2⟩
  have := nodup_sub nd sub
  simpa using this
theorem Reach.dn {B : Nat} {T : List Nd} (wf : TWf B T) (h : Reach T) : ∀ n ∈ T, Dn T T.length n.num := fun n hn => by
  obtain ⟨l, hl⟩ := (h n hn).walk
  have := stations wf hl (by rw [mem_nodeAt wf.nd hn]; rfl)
  exact ⟨l, by omega, hl⟩
theorem step_same {T : List Nd} {a : Nat} {f : Nd → Nd} (hf : ∀ n, (f n).num = n.num ∧ (f n).kind = n.kind ∧ (f n).ents = n.ents) {d : Nat} {w : Nm} {k : Nat} : Step (setP T a f) d w k ↔ Step T d w k := by
  unfold Step
  rw [nodeAt_set fun n => (hf n).1]
  by_cases e : d = a
  · subst e
    rw [if_pos rfl]
    constructor
    · rintro ⟨n, h1, h2, h3⟩
      obtain ⟨m, h4, rfl⟩ := Option.map_eq_some_iff.1 h1
      exact ⟨m, h4, by rw [← (hf m).2.1]; exact h2, by rw [← (hf m).2.2]; exact h3⟩
    · rintro ⟨n, h1, h2, h3⟩
      exact ⟨f n, by rw [h1]; rfl, by rw [(hf n).2.1]; exact h2, by rw [(hf n).2.2]; exact h3⟩
  · rw [if_neg e]
theorem Rch.mono {T T' : List Nd} (h : ∀ d w k, Step T d w k → Step T' d w k) {j : Nat} (hj : Rch T j) : Rch T' j := by
  induction hj with
  | root => exact .root
  | step _ hs ih => exact .step ih (h _ _ _ hs)
theorem Reach.of {T T' : List Nd} (h : Reach T) (hr : ∀ j, Rch T j → Rch T' j) (hn : T'.map (·.num) = T.map (·.num)) : Reach T' := fun n hm => by
  have : n.num ∈ T.map (·.num) := by rw [← hn]; exact List.mem_map.2 ⟨n, hm, rfl⟩
  obtain ⟨m, h1, h2⟩ := List.mem_map.1 this
  rw [← h2]
  exact hr _ (h m h1)
theorem step_del {T : List Nd} {a d : Nat} {w : Nm} {k : Nat} : Step (delP T a) d w k ↔ Step T d w k ∧ d ≠ a := by
  unfold Step
  rw [nodeAt_del]
  by_cases e : d = a
  · subst e; simp
  · rw [if_neg e]
    exact ⟨fun h => ⟨h, e⟩, fun h => h.1⟩
/-- Behind one entry dropped, whose node leads nowhere, all but that node is reached. -/
theorem Rch.drop {T : List Nd} {u a : Nat} {nm : Nm} (hua : Step T u nm a) (hx : ∃ x, nodeAt T a = some x ∧ x.ents = []) {j : Nat} (hj : Rch T j) (hja : j ≠ a) : Rch (setP T u (fE (dropE nm))) j := by
  induction hj with
  | root => exact .root
  | @step d k w hd hs ih =>
    have hda : d ≠ a := by
      rintro rfl
      obtain ⟨x, h1, h2⟩ := hx
      obtain ⟨n, h3, _, h5⟩ := hs
      rw [h1] at h3; cases h3
      rw [h2] at h5; cases h5
    refine .step (ih hda) (w := w) (lk_setE.2 ?_)
    obtain ⟨n, h3, h4, h5⟩ := hs
    refine ⟨n, h3, h4, ?_⟩
    by_cases e : d = u
    · subst e
      rw [if_pos rfl, lk_drop]
      by_cases ew : w = nm
      · subst ew
        exact absurd ((show Step T d w k from ⟨n, h3, h4, h5⟩).det hua) hja
      · rw [if_neg ew]; exact h5
    · rw [if_neg e]; exact h5
theorem Rch.del {T : List Nd} {a j : Nat} (hx : ∃ x, nodeAt T a = some x ∧ x.ents = []) (hj : Rch T j) (hja : j ≠ a) : Rch (delP T a) j := by
  induction hj with
  | root => exact .root
  | @step d k w hd hs ih =>
    have hda : d ≠ a := by
      rintro rfl
      obtain ⟨x, h1, h2⟩ := hx
      obtain ⟨n, h3, _, h5⟩ := hs
      rw [h1] at h3; cases h3
      rw [h2] at h5; cases h5
    exact .step (ih hda) (step_del.2 ⟨hs, hda⟩)
theorem delP_mem {T : List Nd} {a : Nat} {n : Nd} (h : n ∈ delP T a) : n ∈ T ∧ n.num ≠ a := by
  unfold delP at h
  rw [List.mem_filter] at h
  exact ⟨h.1, by simpa using h.2⟩
theorem setP_ents {T : List Nd} {u a : Nat} {g : List (Nm × Nat) → List (Nm × Nat)} (hg : g [] = []) (hx : ∃ x, nodeAt T a = some x ∧ x.ents = []) : ∃ x, nodeAt (setP T u (fE g)) a = some x ∧ x.ents = [] := by
  obtain ⟨x, h1, h2⟩ := hx
  rw [nodeAt_set (fE_num _)]
  by_cases e : a = u
  · subst e
    rw [if_pos rfl, h1]
    exact ⟨_, rfl, by show g x.ents = []; rw [h2]; exact hg⟩
  · rw [if_neg e]; exact ⟨x, h1, h2⟩
theorem Reach.gone {T : List Nd} (h : Reach T) {u a : Nat} {nm : Nm} (hua : Step T u nm a) (hx : ∃ x, nodeAt T a = some x ∧ x.ents = []) : Reach (delP (setP T u (fE (dropE nm))) a) := fun n hn => by
  obtain ⟨h1, h2⟩ := delP_mem hn
  have : n.num ∈ T.map (·.num) := by rw [← setP_nums (fE_num (dropE nm)) (T := T) (k := u)]; exact List.mem_map.2 ⟨n, h1, rfl⟩
  obtain ⟨m, h3, h4⟩ := List.mem_map.1 this
  have := h m h3
  rw [h4] at this
  exact Rch.del (setP_ents rfl hx) (Rch.drop hua hx this h2) h2
theorem Reach.make {B : Nat} {T : List Nd} (h : Reach T) (wf : TWf B T) (kind : Int) (path : Nm) : Reach (makeS T kind path).1 := by
  unfold makeS
  split
  · exact h
  split
  · exact h
  · rename_i h1 h2
    have hp : (placeS T path).2.2 = 0 := by simpa using h1
    obtain ⟨x, h3, h4, h5, _⟩ := place_at hp
    obtain ⟨f1, _, _⟩ := free_spec wf.sorted (by omega)
    have hpu : Rch T (placeS T path).1 := by
      have := h x (nodeAt_mem h3).1
      rw [(nodeAt_mem h3).2] at this
      exact this
    generalize (placeS T path).1 = u at *
    generalize (placeS T path).2.1 = nm at *
    generalize freeS T = a at *
    have hau : u ≠ a := fun e => by rw [e, f1] at h3; cases h3
    have mono : ∀ d w k, Step T d w k → Step (setP (insP (newNd a kind) T) u (fE (putE nm a))) d w k := fun d w k ⟨n, g1, g2, g3⟩ => by
      refine lk_setE.2 ⟨n, ?_, g2, ?_⟩
      · rw [nodeAt_ins, if_neg]
        · exact g1
        · intro e
          rw [show (newNd a kind).num = a from rfl] at e
          rw [e, f1] at g1; cases g1
      · by_cases e : d = u
        · subst e
          rw [h3] at g1; cases g1
          rw [if_pos rfl, lk_put, if_neg]
          · exact g3
          · intro e
            subst e
            rw [h5] at g3; cases g3
        · rw [if_neg e]; exact g3
    intro n hn
    have : n.num ∈ (insP (newNd a kind) T).map (·.num) := by rw [← setP_nums (fE_num (putE nm a)) (T := insP (newNd a kind) T) (k := u)]; exact List.mem_map.2 ⟨n, hn, rfl⟩
    obtain ⟨m, g1, g2⟩ := List.mem_map.1 this
    rw [← g2]
    rcases insP_mem.1 g1 with rfl | g1
    · refine .step (Rch.mono mono hpu) (w := nm) (lk_setE.2 ⟨x, ?_, h4, ?_⟩)
      · rw [nodeAt_ins, if_neg (show ¬ u = (newNd a kind).num from hau)]; exact h3
      · rw [if_pos rfl, lk_put, if_pos rfl]; rfl
    · exact Rch.mono mono (h m g1)
theorem Reach.rmdir {T : List Nd} (h : Reach T) (path : Nm) : Reach (rmdirS T path).1 := by
  unfold rmdirS
  split
  · exact h
  · rename_i h1
    obtain ⟨x, x1, x2, x3, _⟩ := entry_ok' (show (entryS T path).2.2.2 = 0 by simpa using h1)
    split
    · exact h
    · rename_i n hn
      split
      · exact h
      split
      · exact h
      · rename_i h3
        exact Reach.gone h ⟨x, x1, x2, x3⟩ ⟨n, hn, by simpa using h3⟩
theorem Reach.unlink {B : Nat} {T : List Nd} (h : Reach T) (wf : TWf B T) (path : Nm) : Reach (unlinkS T path).1 := by
  unfold unlinkS
  split
  · exact h
  · rename_i h1
    obtain ⟨x, x1, x2, x3, _⟩ := entry_ok' (show (entryS T path).2.2.2 = 0 by simpa using h1)
    split
    · exact h
    · rename_i n hn
      split
      · exact h
      rename_i hk
      have hnk : n.ents = [] := by
        rcases (wf.at' hn).1.kind with ⟨h1, _⟩ | ⟨_, h1⟩
        · exact absurd h1 hk
        · exact h1
      generalize (entryS T path).1 = u at *
      generalize (entryS T path).2.1 = nm at *
      generalize (entryS T path).2.2.1 = a at *
      have same : ∀ {T : List Nd} {d : Nat} {w : Nm} {k : Nat}, Step (setP T a (fL (-1))) d w k ↔ Step T d w k := step_same (f := fL (-1)) fun n => ⟨rfl, rfl, rfl⟩
      split
      · rw [delP_set _ _ (fL_num _)]
        exact Reach.gone h ⟨x, x1, x2, x3⟩ ⟨n, hn, hnk⟩
      · rename_i hl
        refine Reach.of (T := T) h (fun j hj => ?_) (by rw [setP_nums (fL_num _), setP_nums (fE_num _)])
        have ne : ∀ j, Rch T j → j ≠ a → Rch (setP (setP T u (fE (dropE nm))) a (fL (-1))) j := fun j hj hja => Rch.mono (fun d w k hs => same.2 hs) (Rch.drop ⟨x, x1, x2, x3⟩ ⟨n, hn, hnk⟩ hj hja)
        by_cases e : j = a
        · subst e
          have h0 : j ≠ 0 := ((wf.at' x1).1.name _ (lk_mem x3)).2
          have hr := refs_set (f := fE (dropE nm)) j wf.nd x1
          have hd := cntE_drop (nm := nm) (j := j) j (nodupE (wf.at' x1).1.sort) x3
          rw [if_pos rfl] at hd
          have hc := wf.cnt' hn h0
          have hlp := (wf.at' hn).1.lpos
          have : 0 < refs (setP T u (fE (dropE nm))) j := by
            have e1 : cntE (fE (dropE nm) x).ents j = cntE (dropE nm x.ents) j := rfl
            rw [e1] at hr
            omega
          have : ∃ m ∈ setP T u (fE (dropE nm)), ∃ e ∈ m.ents, e.2 = j := Classical.byContradiction fun hno => by
            have := refs_zero (T := setP T u (fE (dropE nm))) (k := j) fun m hm e he hej => hno ⟨m, hm, e, he, hej⟩
            omega
          obtain ⟨m, hm, e, he, hej⟩ := this
          have ndT : ((setP T u (fE (dropE nm))).map (·.num)).Nodup := by rw [setP_nums (fE_num _)]; exact wf.nd
          have hma := mem_nodeAt ndT hm
          -- the node m is a directory that is reached
          have hmm : ∃ m0, nodeAt T m.num = some m0 ∧ m0.kind = m.kind ∧ (m.ents ≠ [] → m0.ents ≠ []) ∧ (m.ents.map (·.1)).Nodup := by
            rw [nodeAt_set (fE_num _)] at hma
            by_cases eu : m.num = u
            · rw [if_pos eu, ← eu] at hma
              rw [eu, x1] at hma
              cases hma
              refine ⟨x, by rw [eu]; exact x1, rfl, fun hne hx => hne ?_, ?_⟩
              · show dropE nm x.ents = []
                rw [hx]; rfl
              · exact (nodupE (wf.at' x1).1.sort).sublist (List.filter_sublist.map _)
            · rw [if_neg eu] at hma
              exact ⟨m, hma, rfl, fun h => h, nodupE (wf.at' hma).1.sort⟩
          obtain ⟨m0, g1, g2, g3, g4⟩ := hmm
          have hne : m.ents ≠ [] := fun h => by rw [h] at he; cases he
          have hk1 : m0.kind = 1 := by
            rcases (wf.at' g1).1.kind with ⟨h, _⟩ | ⟨_, h⟩
            · exact h
            · exact absurd h (g3 hne)
          have hmj : m.num ≠ j := fun e => by
            rw [e, hn] at g1
            cases g1
            exact hk hk1
          have rm : Rch T m.num := by
            have := h m0 (nodeAt_mem g1).1
            rw [(nodeAt_mem g1).2] at this
            exact this
          refine .step (ne _ rm hmj) (w := e.1) (same.2 ⟨m, hma, by rw [← g2]; exact hk1, ?_⟩)
          rw [lk_of_mem g4 he, hej]
        · exact ne j hj e
theorem Reach.link {B : Nat} {T : List Nd} (h : Reach T) (_ : TWf B T) (path other : Nm) : Reach (linkS T path other).1 := by
  unfold linkS
  split
  · exact h
  split
  · exact h
  · rename_i h1 h2
    obtain ⟨x, h3, h4, h5, _⟩ := place_at (show (placeS T other).2.2 = 0 by simpa using h2)
    refine Reach.of (T := T) h (fun j hj => Rch.mono (fun d w k hs => ?_) hj) (by rw [setP_nums (fL_num _), setP_nums (fE_num _)])
    refine (step_same (f := fL 1) fun n => ⟨rfl, rfl, rfl⟩).2 (lk_setE.2 ?_)
    obtain ⟨n, g1, g2, g3⟩ := hs
    refine ⟨n, g1, g2, ?_⟩
    by_cases e : d = (placeS T other).1
    · rw [if_pos e, lk_put, if_neg]
      · exact g3
      · intro e2
        rw [e, h3] at g1; cases g1
        rw [e2, h5] at g3; cases g3
    · rw [if_neg e]; exact g3
theorem Reach.rename {B : Nat} {T : List Nd} (h : Reach T) (wf : TWf B T) (p q : Nm) : Reach (renameS T p q).1 := by
  by_cases e : (renameS T p q).2 ≠ 0 ∨ q = p
  · rw [rename_err e]; exact h
  · have e1 : (renameS T p q).2 = 0 := Classical.byContradiction fun h => e (.inl h)
    have e2 : q ≠ p := fun h => e (.inr h)
    have mv := renamed wf e2 e1
    exact Reach.of h mv.rch mv.nums
theorem Reach.bytes {T : List Nd} (h : Reach T) (a : Nat) (g : List UInt8 → List UInt8) : Reach (setP T a (fD g)) :=
  Reach.of (T := T) h (fun _ hj => Rch.mono (fun _ _ _ hs => (step_same (f := fD g) fun _ => ⟨rfl, rfl, rfl⟩).2 hs) hj) (setP_nums (fD_num g))
theorem Reach.do {B : Nat} {T : List Nd} (h : Reach T) (wf : TWf B T) (kind : Int) (path other : Nm) (off n : Int) (d : List UInt8) : Reach (doS T kind path other off n d).1 := by
  unfold doS
  split
  · exact h.make wf kind path
  split
  · exact h.rmdir path
  split
  · exact h.unlink wf path
  split
  · exact h.link wf path other
  split
  · exact h.rename wf path other
  split
  · show Reach (writeS T path off d).1
    unfold writeS
    split
    · exact h
    split
    · exact h
    split
    · exact h
    split
    · exact h
    · exact h.bytes _ _
  split
  · exact h
  split
  · show Reach (cutS T path n).1
    unfold cutS
    split
    · exact h
    split
    · exact h
    split
    · exact h
    · exact h.bytes _ _
  split
  · exact h
  split
  · exact h
  split
  · exact h
  · exact h
theorem newT_reach : Reach newT := fun n hn => by
  obtain rfl : n = newNd 0 1 := by simpa [newT] using hn
  exact .root
end Go.Proofs.YtdieogcemmnaaaaGreatDoor

/- Trees of functions, printed by rx.lean. No condition. -/
namespace Go.Proofs.YtdieogcemmnaaaaGreatDoor.RX
set_option maxRecDepth 100000
-- tideline/tidelineref01.Same: ρ := [.a aa, .n al, .n ac, .p aP, .a ba, .n bl, .n bc, .p bP]
def t_same01 : T :=
(.br (.o1 .not (.o2 .eq (.o1 .ofNat (.v 1)) (.o1 .ofNat (.v 5))))
 (.ret (.w (.a (.bool (.c false)))) [((.a 0), (.prop 3)), ((.a 4), (.prop 7))])
 (.loop [.c, .i] [(.e (.o1 .not (.o1 .not (.c false)))), (.e (.o1 .neg (.o1 .neg (.i 0))))]
  (.br (.o2 .lt (.v 9) (.o1 .ofNat (.v 1)))
   (.need (.o2 .le (.i 0) (.v 9))
   (.need (.o1 .isSome (.v 0))
   (.read (.load 5 (.tmp 19)) 5 [(19, (.w (.a (.eptr 0 (.v 9) 1 0))))] [((.a 0), (.prop 3))] [.i] (.w (.a (.int .u8 (.v 10))))
   (.need (.o2 .lt (.v 9) (.o1 .ofNat (.v 5)))
   (.need (.o1 .isSome (.v 4))
   (.read (.load 5 (.tmp 23)) 5 [(23, (.w (.a (.eptr 4 (.v 9) 1 0))))] [((.a 4), (.prop 7))] [.i] (.w (.a (.int .u8 (.v 11))))
   (.br (.o1 .not (.o2 .eq (.v 10) (.v 11)))
    (.ret (.w (.a (.bool (.c false)))) [((.a 0), (.prop 3)), ((.a 4), (.prop 7))])
    (.need (.o1 (.inr .i64) (.o2 .add (.v 9) (.i 1)))
    (.again 0 [(.e (.o1 .not (.o1 .not (.v 8)))), (.e (.o1 .neg (.o1 .neg (.o2 .add (.v 9) (.i 1)))))])))))))))
   (.ret (.w (.a (.bool (.c true)))) [((.a 0), (.prop 3)), ((.a 4), (.prop 7))]))))
theorem tree_same01 : tree Tryz.prog { absT := [], opq := [], hv := [], keep := [30, 76, 78], link := [], ent := [], turn := [], shr := [], vt := [], mkd := [], rlink := [], pty := [], outl := false, stay := [], snk := [], rdf := true } Tryz.f30 [(.a (.sl (.v 0) (.v 1) (.v 2))), (.a (.sl (.v 4) (.v 5) (.v 6)))] [((.a 0), (.prop 3)), ((.a 4), (.prop 7))] 8 = t_same01 := by kernel_rfl
-- tideline/tidelineref03.SameTexts: ρ := [.a aa, .n al, .n ac, .p aP, .a ba, .n bl, .n bc, .p bP]
def t_sameTexts : T :=
(.br (.o1 .not (.o2 .eq (.o1 .ofNat (.v 1)) (.o1 .ofNat (.v 5))))
 (.ret (.w (.a (.bool (.c false)))) [((.a 0), (.prop 3)), ((.a 4), (.prop 7))])
 (.loop [.c, .i] [(.e (.o1 .not (.o1 .not (.c false)))), (.e (.o1 .neg (.o1 .neg (.i 0))))]
  (.br (.o2 .lt (.v 9) (.o1 .ofNat (.v 1)))
   (.need (.o2 .le (.i 0) (.v 9))
   (.need (.o1 .isSome (.v 0))
   (.read (.load 9 (.tmp 19)) 9 [(19, (.w (.a (.eptr 0 (.v 9) 1 0))))] [((.a 0), (.prop 3))] [.s] (.w (.a (.str (.v 10))))
   (.need (.o2 .lt (.v 9) (.o1 .ofNat (.v 5)))
   (.need (.o1 .isSome (.v 4))
   (.read (.load 9 (.tmp 23)) 9 [(23, (.w (.a (.eptr 4 (.v 9) 1 0))))] [((.a 4), (.prop 7))] [.s] (.w (.a (.str (.v 11))))
   (.br (.o1 .not (.o2 .seq (.v 10) (.v 11)))
    (.ret (.w (.a (.bool (.c false)))) [((.a 0), (.prop 3)), ((.a 4), (.prop 7))])
    (.need (.o1 (.inr .i64) (.o2 .add (.v 9) (.i 1)))
    (.again 0 [(.e (.o1 .not (.o1 .not (.v 8)))), (.e (.o1 .neg (.o1 .neg (.o2 .add (.v 9) (.i 1)))))])))))))))
   (.ret (.w (.a (.bool (.c true)))) [((.a 0), (.prop 3)), ((.a 4), (.prop 7))]))))
theorem tree_sameTexts : tree Tryz.prog { absT := [], opq := [], hv := [], keep := [30, 76, 78], link := [], ent := [], turn := [], shr := [], vt := [], mkd := [], rlink := [], pty := [], outl := false, stay := [], snk := [], rdf := true } Tryz.f76 [(.a (.sl (.v 0) (.v 1) (.v 2))), (.a (.sl (.v 4) (.v 5) (.v 6)))] [((.a 0), (.prop 3)), ((.a 4), (.prop 7))] 8 = t_sameTexts := by kernel_rfl
-- tideline/tidelineref03.Name: ρ := [.s s]
def t_name03 : T :=
(.loop [.c, .i] [(.e (.o1 .not (.o1 .not (.c false)))), (.e (.o1 .neg (.o1 .neg (.i 0))))]
 (.br (.o2 .lt (.v 2) (.o1 .ofNat (.o1 .size (.v 0))))
  (.read (.index 9 (.tmp 10) (.tmp 11)) 5 [(10, (.w (.a (.str (.v 0))))), (11, (.w (.a (.int .i64 (.v 2)))))] [] [.i] (.w (.a (.int .u8 (.v 3))))
  (.br (.o2 .eq (.v 3) (.i 47))
   (.ret (.w (.a (.bool (.c false)))) [])
   (.read (.index 9 (.tmp 15) (.tmp 16)) 5 [(15, (.w (.a (.str (.v 0))))), (16, (.w (.a (.int .i64 (.v 2)))))] [] [.i] (.w (.a (.int .u8 (.v 4))))
   (.br (.o2 .eq (.v 4) (.i 0))
    (.ret (.w (.a (.bool (.c false)))) [])
    (.need (.o1 (.inr .i64) (.o2 .add (.v 2) (.i 1)))
    (.again 0 [(.e (.o1 .not (.o1 .not (.v 1)))), (.e (.o1 .neg (.o1 .neg (.o2 .add (.v 2) (.i 1)))))]))))))
  (.br (.o2 .le (.i 1) (.o1 .ofNat (.o1 .size (.v 0))))
   (.br (.o2 .le (.o1 .ofNat (.o1 .size (.v 0))) (.i 16))
    (.br (.o1 .not (.o2 .seq (.v 0) (.s [46])))
     (.ret (.w (.a (.bool (.o1 .not (.o2 .seq (.v 0) (.s [46, 46])))))) [])
     (.ret (.w (.a (.bool (.c false)))) []))
    (.ret (.w (.a (.bool (.c false)))) []))
   (.ret (.w (.a (.bool (.c false)))) []))))
theorem tree_name03 : tree Tryz.prog { absT := [], opq := [], hv := [], keep := [30, 76, 78], link := [], ent := [], turn := [], shr := [], vt := [], mkd := [], rlink := [], pty := [], outl := false, stay := [], snk := [], rdf := true } Tryz.f78 [(.a (.str (.v 0)))] [] 1 = t_name03 := by kernel_rfl
-- tideline/tidelineref04.SameAnswer: ρ := [.i a_Err, .i a_Kind, .i a_Size, .i a_Links, .a a_Dataa, .n a_Datal, .n a_Datac, .p a_DataP, .a a_Namesa, .n a_Namesl, .n a_Namesc, .p a_NamesP, .i b_Err, .i b_Kind, .i b_Size, .i b_Links, .a b_Dataa, .n b_Datal, .n b_Datac, .p b_DataP, .a b_Namesa, .n b_Namesl, .n b_Namesc, .p b_NamesP]
def t_sameAnswer : T :=
(.new
(.new
(.br (.o2 .eq (.v 0) (.v 12))
 (.br (.o2 .eq (.v 1) (.v 13))
  (.br (.o2 .eq (.v 2) (.v 14))
   (.br (.o2 .eq (.v 3) (.v 15))
    (.call 30 [(.a (.sl (.v 4) (.v 5) (.v 6))), (.a (.sl (.v 16) (.v 17) (.v 18)))] [((.a 4), (.prop 7)), ((.a 16), (.prop 19))] [.c] (.w (.a (.bool (.v 26)))) [((.a 4), (.prop 7)), ((.a 16), (.prop 19))]
    (.br (.v 26)
     (.call 76 [(.a (.sl (.v 8) (.v 9) (.v 10))), (.a (.sl (.v 20) (.v 21) (.v 22)))] [((.a 8), (.prop 11)), ((.a 20), (.prop 23))] [.c] (.w (.a (.bool (.v 27)))) [((.a 8), (.prop 11)), ((.a 20), (.prop 23))]
     (.ret (.w (.a (.bool (.v 27)))) [((.a 4), (.prop 7)), ((.a 8), (.prop 11)), ((.a 16), (.prop 19)), ((.a 20), (.prop 23))]))
     (.ret (.w (.a (.bool (.c false)))) [((.a 4), (.prop 7)), ((.a 8), (.prop 11)), ((.a 16), (.prop 19)), ((.a 20), (.prop 23))])))
    (.ret (.w (.a (.bool (.c false)))) [((.a 4), (.prop 7)), ((.a 8), (.prop 11)), ((.a 16), (.prop 19)), ((.a 20), (.prop 23))]))
   (.ret (.w (.a (.bool (.c false)))) [((.a 4), (.prop 7)), ((.a 8), (.prop 11)), ((.a 16), (.prop 19)), ((.a 20), (.prop 23))]))
  (.ret (.w (.a (.bool (.c false)))) [((.a 4), (.prop 7)), ((.a 8), (.prop 11)), ((.a 16), (.prop 19)), ((.a 20), (.prop 23))]))
 (.ret (.w (.a (.bool (.c false)))) [((.a 4), (.prop 7)), ((.a 8), (.prop 11)), ((.a 16), (.prop 19)), ((.a 20), (.prop 23))]))))
theorem tree_sameAnswer : tree Tryz.prog { absT := [], opq := [], hv := [], keep := [30, 76, 78], link := [], ent := [], turn := [], shr := [], vt := [], mkd := [], rlink := [], pty := [], outl := false, stay := [], snk := [], rdf := true } Tryz.f21 [(.agg [(.int .i64 (.v 0)), (.int .i64 (.v 1)), (.int .i64 (.v 2)), (.int .i64 (.v 3)), (.sl (.v 4) (.v 5) (.v 6)), (.sl (.v 8) (.v 9) (.v 10))]), (.agg [(.int .i64 (.v 12)), (.int .i64 (.v 13)), (.int .i64 (.v 14)), (.int .i64 (.v 15)), (.sl (.v 16) (.v 17) (.v 18)), (.sl (.v 20) (.v 21) (.v 22))])] [((.a 4), (.prop 7)), ((.a 8), (.prop 11)), ((.a 16), (.prop 19)), ((.a 20), (.prop 23))] 24 = t_sameAnswer := by kernel_rfl
-- tideline/tidelineref04.SameNodes: ρ := [.a aa, .n al, .n ac, .p aP, .a ba, .n bl, .n bc, .p bP]
def t_sameNodes : T :=
(.br (.o1 .not (.o2 .eq (.o1 .ofNat (.v 1)) (.o1 .ofNat (.v 5))))
 (.ret (.w (.a (.bool (.c false)))) [((.a 0), (.prop 3)), ((.a 4), (.prop 7))])
 (.loop [.c, .i] [(.e (.o1 .not (.o1 .not (.c false)))), (.e (.o1 .neg (.o1 .neg (.i 0))))]
  (.br (.o2 .lt (.v 9) (.o1 .ofNat (.v 1)))
   (.join [.n, .n, .i, .i, .i, .a, .n, .n, .a, .n, .n, .i, .i, .i, .a, .n, .n, .a, .n, .n]
    (.need (.o2 .le (.i 0) (.v 9))
    (.need (.o1 .isSome (.v 0))
    (.read (.load 43 (.tmp 22)) 43 [(22, (.w (.a (.eptr 0 (.v 9) 5 0))))] [((.a 0), (.prop 3))] [.i, .i, .i, .a, .n, .n, .a, .n, .n] (.w (.agg [(.int .i64 (.v 10)), (.int .i64 (.v 11)), (.int .i64 (.v 12)), (.sl (.v 13) (.v 14) (.v 15)), (.sl (.v 16) (.v 17) (.v 18))]))
    (.need (.o2 .lt (.v 9) (.o1 .ofNat (.v 5)))
    (.need (.o1 .isSome (.v 4))
    (.read (.load 43 (.tmp 26)) 43 [(26, (.w (.a (.eptr 4 (.v 9) 5 0))))] [((.a 4), (.prop 7))] [.i, .i, .i, .a, .n, .n, .a, .n, .n] (.w (.agg [(.int .i64 (.v 19)), (.int .i64 (.v 20)), (.int .i64 (.v 21)), (.sl (.v 22) (.v 23) (.v 24)), (.sl (.v 25) (.v 26) (.v 27))]))
    (.all
     (.new
     (.new
     (.again 0 [(.n (.v 28)), (.n (.v 29)), (.e (.o1 .neg (.o1 .neg (.v 19)))), (.e (.o1 .neg (.o1 .neg (.v 20)))), (.e (.o1 .neg (.o1 .neg (.v 21)))), (.a (.v 22)), (.e (.o2 .nadd (.v 23) (.n 0))), (.e (.o2 .nadd (.v 24) (.n 0))), (.a (.v 25)), (.e (.o2 .nadd (.v 26) (.n 0))), (.e (.o2 .nadd (.v 27) (.n 0))), (.e (.o1 .neg (.o1 .neg (.v 10)))), (.e (.o1 .neg (.o1 .neg (.v 11)))), (.e (.o1 .neg (.o1 .neg (.v 12)))), (.a (.v 13)), (.e (.o2 .nadd (.v 14) (.n 0))), (.e (.o2 .nadd (.v 15) (.n 0))), (.a (.v 16)), (.e (.o2 .nadd (.v 17) (.n 0))), (.e (.o2 .nadd (.v 18) (.n 0)))])))
     (.new
     (.new
     (.again 0 [(.n (.v 29)), (.n (.v 28)), (.e (.o1 .neg (.o1 .neg (.v 19)))), (.e (.o1 .neg (.o1 .neg (.v 20)))), (.e (.o1 .neg (.o1 .neg (.v 21)))), (.a (.v 22)), (.e (.o2 .nadd (.v 23) (.n 0))), (.e (.o2 .nadd (.v 24) (.n 0))), (.a (.v 25)), (.e (.o2 .nadd (.v 26) (.n 0))), (.e (.o2 .nadd (.v 27) (.n 0))), (.e (.o1 .neg (.o1 .neg (.v 10)))), (.e (.o1 .neg (.o1 .neg (.v 11)))), (.e (.o1 .neg (.o1 .neg (.v 12)))), (.a (.v 13)), (.e (.o2 .nadd (.v 14) (.n 0))), (.e (.o2 .nadd (.v 15) (.n 0))), (.a (.v 16)), (.e (.o2 .nadd (.v 17) (.n 0))), (.e (.o2 .nadd (.v 18) (.n 0)))]))))))))))
   (.br (.o1 .not (.o2 .eq (.v 21) (.v 12)))
    (.ret (.w (.a (.bool (.c false)))) [((.a 0), (.prop 3)), ((.a 4), (.prop 7))])
    (.br (.o1 .not (.o2 .eq (.v 22) (.v 13)))
     (.ret (.w (.a (.bool (.c false)))) [((.a 0), (.prop 3)), ((.a 4), (.prop 7))])
     (.br (.o1 .not (.o2 .eq (.v 23) (.v 14)))
      (.ret (.w (.a (.bool (.c false)))) [((.a 0), (.prop 3)), ((.a 4), (.prop 7))])
      (.call 30 [(.a (.sl (.v 24) (.v 25) (.v 26))), (.a (.sl (.v 15) (.v 16) (.v 17)))] [((.a 0), (.prop 3)), ((.a 4), (.prop 7))] [.c] (.w (.a (.bool (.v 30)))) [((.a 0), (.prop 3)), ((.a 4), (.prop 7))]
      (.br (.o1 .not (.v 30))
       (.ret (.w (.a (.bool (.c false)))) [((.a 0), (.prop 3)), ((.a 4), (.prop 7))])
       (.br (.o1 .not (.o2 .eq (.o1 .ofNat (.v 28)) (.o1 .ofNat (.v 19))))
        (.ret (.w (.a (.bool (.c false)))) [((.a 0), (.prop 3)), ((.a 4), (.prop 7))])
        (.loop [.c, .i] [(.e (.o1 .not (.o1 .not (.v 8)))), (.e (.o1 .neg (.o1 .neg (.i 0))))]
         (.br (.o2 .lt (.v 32) (.o1 .ofNat (.v 28)))
          (.need (.o2 .le (.i 0) (.v 32))
          (.need (.o1 .isSome (.v 27))
          (.read (.load 140 (.tmp 74)) 140 [(74, (.w (.a (.eptr 27 (.v 32) 2 0))))] [((.a 0), (.prop 3))] [.s, .i] (.w (.agg [(.str (.v 33)), (.int .i64 (.v 34))]))
          (.need (.o2 .lt (.v 32) (.o1 .ofNat (.v 19)))
          (.need (.o1 .isSome (.v 18))
          (.read (.load 140 (.tmp 79)) 140 [(79, (.w (.a (.eptr 18 (.v 32) 2 0))))] [((.a 4), (.prop 7))] [.s, .i] (.w (.agg [(.str (.v 35)), (.int .i64 (.v 36))]))
          (.read (.binOp .neq 140 (.tmp 75) (.tmp 80) 140) 4 [(75, (.w (.agg [(.str (.v 33)), (.int .i64 (.v 34))]))), (80, (.w (.agg [(.str (.v 35)), (.int .i64 (.v 36))])))] [] [.c] (.w (.a (.bool (.v 37))))
          (.br (.v 37)
           (.ret (.w (.a (.bool (.c false)))) [((.a 0), (.prop 3)), ((.a 4), (.prop 7))])
           (.need (.o1 (.inr .i64) (.o2 .add (.v 32) (.i 1)))
           (.again 0 [(.e (.o1 .not (.o1 .not (.v 31)))), (.e (.o1 .neg (.o1 .neg (.o2 .add (.v 32) (.i 1)))))]))))))))))
          (.need (.o1 (.inr .i64) (.o2 .add (.v 9) (.i 1)))
          (.again 1 [(.e (.o1 .not (.o1 .not (.v 31)))), (.e (.o1 .neg (.o1 .neg (.o2 .add (.v 9) (.i 1)))))])))))))))))
   (.ret (.w (.a (.bool (.c true)))) [((.a 0), (.prop 3)), ((.a 4), (.prop 7))]))))
theorem tree_sameNodes : tree Tryz.prog { absT := [], opq := [], hv := [], keep := [30, 76, 78], link := [], ent := [], turn := [], shr := [], vt := [], mkd := [], rlink := [], pty := [], outl := false, stay := [], snk := [], rdf := true, jn := [((20, 10), some { ss := [.n, .n, .i, .i, .i, .a, .n, .n, .a, .n, .n, .i, .i, .i, .a, .n, .n, .a, .n, .n], n := 30, tv := [(20, none), (21, none), (22, none), (23, none), (24, none), (25, none), (26, none), (27, none), (6, some (.w (.a (.ptr (.v 10) 0)))), (7, some (.w (.a (.ptr (.v 11) 0))))], h := [((.b (.v 11)), (.cells [(.int .i64 (.v 12)), (.int .i64 (.v 13)), (.int .i64 (.v 14)), (.sl (.v 15) (.v 16) (.v 17)), (.sl (.v 18) (.v 19) (.v 20))] 43)), ((.b (.v 10)), (.cells [(.int .i64 (.v 21)), (.int .i64 (.v 22)), (.int .i64 (.v 23)), (.sl (.v 24) (.v 25) (.v 26)), (.sl (.v 27) (.v 28) (.v 29))] 43)), ((.a 0), (.prop 3)), ((.a 4), (.prop 7))], lk := [(15, (.a 4)), (18, (.a 4)), (24, (.a 0)), (27, (.a 0))] })] } Tryz.f20 [(.a (.sl (.v 0) (.v 1) (.v 2))), (.a (.sl (.v 4) (.v 5) (.v 6)))] [((.a 0), (.prop 3)), ((.a 4), (.prop 7))] 8 = t_sameNodes := by kernel_rfl
end Go.Proofs.YtdieogcemmnaaaaGreatDoor.RX

/- Trees of functions, printed by rx.lean. No condition. -/
namespace Go.Proofs.YtdieogcemmnaaaaGreatDoor.RX
set_option maxRecDepth 100000
-- tideline/octet.Read: ρ := [.a ba, .n bl, .n bc, .p bP]
def t_rRead : T :=
(.call 73 [(.a (.sl (.v 0) (.v 1) (.v 2)))] [((.a 0), (.prop 3))] [.a, .n, .n, .p, .p] (.w (.a (.sl (.v 4) (.v 5) (.v 6)))) [((.a 4), (.prop 7)), ((.a 0), (.prop 8))]
(.new
(.ret (.w (.a (.ptr (.v 9) 0))) [((.a 0), (.prop 8)), ((.b (.v 9)), (.cells [(.sl (.v 4) (.v 5) (.v 6)), (.bool (.c false))] 247)), ((.a 4), (.prop 7))])))
theorem tree_rRead : tree Tryz.prog { absT := [], opq := [], hv := [], keep := [], link := [], ent := [], turn := [], shr := [], vt := [], mkd := [], rlink := [], pty := [], outl := false, stay := [], snk := [] } Tryz.f85 [(.a (.sl (.v 0) (.v 1) (.v 2)))] [((.a 0), (.prop 3))] 4 = t_rRead := by kernel_rfl
-- (*tideline/octet.Reader).fail: ρ := [.n r, .a r_lefta, .n r_leftl, .n r_leftc, .p r_leftP, .c r_wrong]
def t_rFail : T :=
(.ret (.tup []) [((.b (.v 0)), (.cells [(.sl .nil (.n 0) (.n 0)), (.bool (.c true))] 247)), ((.a 1), (.prop 4))])
theorem tree_rFail : tree Tryz.prog { absT := [], opq := [], hv := [], keep := [], link := [], ent := [], turn := [], shr := [], vt := [], mkd := [], rlink := [], pty := [], outl := false, stay := [], snk := [] } Tryz.f203 [(.a (.ptr (.v 0) 0))] [((.b (.v 0)), (.cells [(.sl (.v 1) (.v 2) (.v 3)), (.bool (.v 5))] 247)), ((.a 1), (.prop 4))] 6 = t_rFail := by kernel_rfl
-- (*tideline/octet.Reader).take: ρ := [.n r, .a r_lefta, .n r_leftl, .n r_leftc, .p r_leftP, .c r_wrong, .i n]
def t_rTake : T :=
(.br (.v 5)
 (.ret (.w (.a (.sl .nil (.n 0) (.n 0)))) [((.b (.v 0)), (.cells [(.sl (.v 1) (.v 2) (.v 3)), (.bool (.v 5))] 247)), ((.a 1), (.prop 4))])
 (.br (.o2 .lt (.o1 .ofNat (.v 2)) (.v 6))
  (.call 203 [(.a (.ptr (.v 0) 0))] [((.b (.v 0)), (.cells [(.sl (.v 1) (.v 2) (.v 3)), (.bool (.v 5))] 247)), ((.a 1), (.prop 4))] [.a, .n, .n, .p, .c] (.tup []) [((.b (.v 0)), (.cells [(.sl (.v 7) (.v 8) (.v 9)), (.bool (.v 11))] 247)), ((.a 7), (.prop 10))]
  (.ret (.w (.a (.sl .nil (.n 0) (.n 0)))) [((.b (.v 0)), (.cells [(.sl (.v 7) (.v 8) (.v 9)), (.bool (.v 11))] 247)), ((.a 7), (.prop 10))]))
  (.read (.slice 28 (.tmp 22) (some (.const (.int .i64 0))) (some (.tmp 23)) (some (.tmp 24))) 28 [(22, (.w (.a (.sl (.v 1) (.v 2) (.v 3))))), (23, (.w (.a (.int .i64 (.v 6))))), (24, (.w (.a (.int .i64 (.v 6)))))] [((.a 1), (.prop 4))] [.a, .n, .n] (.w (.a (.sl (.v 7) (.v 8) (.v 9))))
  (.read (.slice 28 (.tmp 30) (some (.tmp 31)) none none) 28 [(30, (.w (.a (.sl (.v 1) (.v 2) (.v 3))))), (31, (.w (.a (.int .i64 (.v 6)))))] [((.a 1), (.prop 4))] [.a, .n, .n] (.w (.a (.sl (.v 10) (.v 11) (.v 12))))
  (.ret (.w (.a (.sl (.v 7) (.v 8) (.v 9)))) [((.b (.v 0)), (.cells [(.sl (.v 10) (.v 11) (.v 12)), (.bool (.v 5))] 247)), ((.a 1), (.prop 4))])))))
theorem tree_rTake : tree Tryz.prog { absT := [], opq := [], hv := [], keep := [], link := [], ent := [], turn := [], shr := [], vt := [], mkd := [], rlink := [], pty := [], outl := false, stay := [], snk := [] } Tryz.f202 [(.a (.ptr (.v 0) 0)), (.a (.int .i64 (.v 6)))] [((.b (.v 0)), (.cells [(.sl (.v 1) (.v 2) (.v 3)), (.bool (.v 5))] 247)), ((.a 1), (.prop 4))] 7 = t_rTake := by kernel_rfl
-- (*tideline/octet.Reader).Number: ρ := [.n r, .p rP, .i n]
def t_rNumber : T :=
(.call 199 [(.a (.int .i64 (.v 2)))] [] [.i] (.w (.a (.int .i64 (.v 3)))) []
(.call 202 [(.a (.ptr (.v 0) 0)), (.a (.int .i64 (.v 3)))] [((.b (.v 0)), (.prop 1))] [.a, .n, .n, .p, .p] (.w (.a (.sl (.v 4) (.v 5) (.v 6)))) [((.a 4), (.prop 7)), ((.b (.v 0)), (.prop 8))]
(.loop [.i, .i] [(.e (.o1 .neg (.o1 .neg (.i 0)))), (.e (.o1 .neg (.o1 .neg (.i 0))))]
 (.br (.o2 .lt (.v 10) (.o1 .ofNat (.v 5)))
  (.need (.o2 .le (.i 0) (.v 10))
  (.need (.o1 .isSome (.v 4))
  (.read (.load 5 (.tmp 15)) 5 [(15, (.w (.a (.eptr 4 (.v 10) 1 0))))] [((.a 4), (.prop 7))] [.i] (.w (.a (.int .u8 (.v 11))))
  (.need (.o1 (.inr .u64) (.v 11))
  (.need (.o1 (.inr .i64) (.o2 .add (.v 10) (.i 1)))
  (.again 0 [(.e (.o1 .neg (.o1 .neg (.o2 (.bit .or .u64) (.o2 (.shl .u64) (.v 9) (.i 8)) (.v 11))))), (.e (.o1 .neg (.o1 .neg (.o2 .add (.v 10) (.i 1)))))]))))))
  (.ret (.w (.a (.int .u64 (.v 9)))) [((.b (.v 0)), (.prop 8))])))))
theorem tree_rNumber : tree Tryz.prog { absT := [], opq := [], hv := [], keep := [], link := [], ent := [], turn := [], shr := [], vt := [], mkd := [], rlink := [], pty := [], outl := false, stay := [], snk := [] } Tryz.f153 [(.a (.ptr (.v 0) 0)), (.a (.int .i64 (.v 2)))] [((.b (.v 0)), (.prop 1))] 3 = t_rNumber := by kernel_rfl
-- (*tideline/octet.Reader).told: ρ := [.n r, .a r_lefta, .n r_leftl, .n r_leftc, .p r_leftP, .c r_wrong, .i most]
def t_rTold : T :=
(.call 153 [(.a (.ptr (.v 0) 0)), (.a (.int .i64 (.i 4)))] [((.b (.v 0)), (.cells [(.sl (.v 1) (.v 2) (.v 3)), (.bool (.v 5))] 247)), ((.a 1), (.prop 4))] [.i, .a, .n, .n, .p, .c] (.w (.a (.int .u64 (.v 7)))) [((.b (.v 0)), (.cells [(.sl (.v 8) (.v 9) (.v 10)), (.bool (.v 12))] 247)), ((.a 8), (.prop 11))]
(.br (.v 12)
 (.ret (.w (.a (.int .i64 (.i 0)))) [((.b (.v 0)), (.cells [(.sl (.v 8) (.v 9) (.v 10)), (.bool (.v 12))] 247)), ((.a 8), (.prop 11))])
 (.br (.o2 .lt (.v 6) (.o1 (.wrap .i64) (.v 7)))
  (.call 203 [(.a (.ptr (.v 0) 0))] [((.b (.v 0)), (.cells [(.sl (.v 8) (.v 9) (.v 10)), (.bool (.v 12))] 247)), ((.a 8), (.prop 11))] [.a, .n, .n, .p, .c] (.tup []) [((.b (.v 0)), (.cells [(.sl (.v 13) (.v 14) (.v 15)), (.bool (.v 17))] 247)), ((.a 13), (.prop 16))]
  (.ret (.w (.a (.int .i64 (.i 0)))) [((.b (.v 0)), (.cells [(.sl (.v 13) (.v 14) (.v 15)), (.bool (.v 17))] 247)), ((.a 13), (.prop 16))]))
  (.ret (.w (.a (.int .i64 (.o1 (.wrap .i64) (.v 7))))) [((.b (.v 0)), (.cells [(.sl (.v 8) (.v 9) (.v 10)), (.bool (.v 12))] 247)), ((.a 8), (.prop 11))]))))
theorem tree_rTold : tree Tryz.prog { absT := [], opq := [], hv := [], keep := [], link := [], ent := [], turn := [], shr := [], vt := [], mkd := [], rlink := [], pty := [], outl := false, stay := [], snk := [] } Tryz.f154 [(.a (.ptr (.v 0) 0)), (.a (.int .i64 (.v 6)))] [((.b (.v 0)), (.cells [(.sl (.v 1) (.v 2) (.v 3)), (.bool (.v 5))] 247)), ((.a 1), (.prop 4))] 7 = t_rTold := by kernel_rfl
-- (*tideline/octet.Reader).Byte: ρ := [.n r, .p rP]
def t_rByte : T :=
(.call 153 [(.a (.ptr (.v 0) 0)), (.a (.int .i64 (.i 1)))] [((.b (.v 0)), (.prop 1))] [.i, .p] (.w (.a (.int .u64 (.v 2)))) [((.b (.v 0)), (.prop 3))]
(.ret (.w (.a (.int .u8 (.o1 (.wrap .u8) (.v 2))))) [((.b (.v 0)), (.prop 3))]))
theorem tree_rByte : tree Tryz.prog { absT := [], opq := [], hv := [], keep := [], link := [], ent := [], turn := [], shr := [], vt := [], mkd := [], rlink := [], pty := [], outl := false, stay := [], snk := [] } Tryz.f156 [(.a (.ptr (.v 0) 0))] [((.b (.v 0)), (.prop 1))] 2 = t_rByte := by kernel_rfl
-- (*tideline/octet.Reader).Int: ρ := [.n r, .p rP]
def t_rInt : T :=
(.call 153 [(.a (.ptr (.v 0) 0)), (.a (.int .i64 (.i 8)))] [((.b (.v 0)), (.prop 1))] [.i, .p] (.w (.a (.int .u64 (.v 2)))) [((.b (.v 0)), (.prop 3))]
(.ret (.w (.a (.int .i64 (.o1 (.wrap .i64) (.v 2))))) [((.b (.v 0)), (.prop 3))]))
theorem tree_rInt : tree Tryz.prog { absT := [], opq := [], hv := [], keep := [], link := [], ent := [], turn := [], shr := [], vt := [], mkd := [], rlink := [], pty := [], outl := false, stay := [], snk := [] } Tryz.f86 [(.a (.ptr (.v 0) 0))] [((.b (.v 0)), (.prop 1))] 2 = t_rInt := by kernel_rfl
-- (*tideline/octet.Reader).Bytes: ρ := [.n r, .p rP, .i most]
def t_rBytes : T :=
(.call 154 [(.a (.ptr (.v 0) 0)), (.a (.int .i64 (.v 2)))] [((.b (.v 0)), (.prop 1))] [.i, .p] (.w (.a (.int .i64 (.v 3)))) [((.b (.v 0)), (.prop 4))]
(.call 202 [(.a (.ptr (.v 0) 0)), (.a (.int .i64 (.v 3)))] [((.b (.v 0)), (.prop 4))] [.a, .n, .n, .p, .p] (.w (.a (.sl (.v 5) (.v 6) (.v 7)))) [((.a 5), (.prop 8)), ((.b (.v 0)), (.prop 9))]
(.call 73 [(.a (.sl (.v 5) (.v 6) (.v 7)))] [((.a 5), (.prop 8))] [.a, .n, .n, .p, .p] (.w (.a (.sl (.v 10) (.v 11) (.v 12)))) [((.a 10), (.prop 13)), ((.a 5), (.prop 14))]
(.ret (.w (.a (.sl (.v 10) (.v 11) (.v 12)))) [((.b (.v 0)), (.prop 9)), ((.a 10), (.prop 13))]))))
theorem tree_rBytes : tree Tryz.prog { absT := [], opq := [], hv := [], keep := [], link := [], ent := [], turn := [], shr := [], vt := [], mkd := [], rlink := [], pty := [], outl := false, stay := [], snk := [] } Tryz.f157 [(.a (.ptr (.v 0) 0)), (.a (.int .i64 (.v 2)))] [((.b (.v 0)), (.prop 1))] 3 = t_rBytes := by kernel_rfl
-- (*tideline/octet.Reader).End: ρ := [.n r, .a r_lefta, .n r_leftl, .n r_leftc, .p r_leftP, .c r_wrong]
def t_rEnd : T :=
(.br (.v 5)
 (.ret (.w (.a (.int .i64 (.i 3)))) [((.b (.v 0)), (.cells [(.sl (.v 1) (.v 2) (.v 3)), (.bool (.v 5))] 247)), ((.a 1), (.prop 4))])
 (.br (.o2 .lt (.i 0) (.o1 .ofNat (.v 2)))
  (.ret (.w (.a (.int .i64 (.i 3)))) [((.b (.v 0)), (.cells [(.sl (.v 1) (.v 2) (.v 3)), (.bool (.v 5))] 247)), ((.a 1), (.prop 4))])
  (.ret (.w (.a (.int .i64 (.i 0)))) [((.b (.v 0)), (.cells [(.sl (.v 1) (.v 2) (.v 3)), (.bool (.v 5))] 247)), ((.a 1), (.prop 4))])))
theorem tree_rEnd : tree Tryz.prog { absT := [], opq := [], hv := [], keep := [], link := [], ent := [], turn := [], shr := [], vt := [], mkd := [], rlink := [], pty := [], outl := false, stay := [], snk := [] } Tryz.f89 [(.a (.ptr (.v 0) 0))] [((.b (.v 0)), (.cells [(.sl (.v 1) (.v 2) (.v 3)), (.bool (.v 5))] 247)), ((.a 1), (.prop 4))] 6 = t_rEnd := by kernel_rfl
end Go.Proofs.YtdieogcemmnaaaaGreatDoor.RX

/- Contracts of octet's Reader. No condition. -/
namespace Go.Proofs.YtdieogcemmnaaaaGreatDoor
set_option linter.unusedSimpArgs false
set_option linter.unusedVariables false
open Go.Proofs.YtdieogcemmnaaaaGreatDoor RX

def RRep (b : Nat) (s : List UInt8 × Bool) : HP := HP.ex fun a => HP.ex fun c => HP.and (s.1.length ≤ c ∧ s.1.length ≤ 140737488355328) (HP.sep (HP.one b (.cells #[.slice a s.1.length c, .bool s.2] 247)) (RoB a s.1.length s.1))
theorem rFail_ok (b : Nat) (s : List UInt8 × Bool) : Tri Tryz.prog 203 #[.pointer (some ⟨b, 0, none⟩)] (RRep b s) (fun v => HP.and (v = .tuple #[]) (RRep b ([], true))) := by
  refine Tri.ex fun a => Tri.ex fun c => Tri.pure fun _ => ?_
  refine tri_of_tree (ρ := [.n b, .a a, .n s.1.length, .n c, .p (RoB a s.1.length s.1), .c s.2]) mixed Tryz.func203 tree_rFail ?_
  unfold t_rFail
  simp only [T.den, E.prop, E.den, RX.look, F1.app, F2.app, Uni.int_i, Uni.nat_n, Uni.bool_c, Uni.str_s, Uni.adr_a, Uni.val_v, Uni.hp_p, hden, cden, V.den, W.den, A.den, BR.den, SA.den, FV.den, capV, exs, exP, allP, Cur.app, List.map_cons, List.map_nil, List.cons_append, List.nil_append, List.drop_succ_cons, List.drop_zero, List.length_cons, List.length_nil, Nat.zero_add, Nat.reduceAdd, Int.neg_neg, Bool.not_not, List.append_nil, Nat.add_zero, List.getElem?_cons_zero, List.getElem?_cons_succ, Decidable.not_not]
  exact .of fun R h H => ⟨trivial, none, 0, ⟨by simp, by simp⟩, HP.sep_mono H (fun _ h => h) fun _ _ => RoC.nil _ _ _ _⟩
/-- So many bytes are taken. -/
def takeR (s : List UInt8 × Bool) (n : Nat) : List UInt8 × (List UInt8 × Bool) := if s.2 then ([], s) else if s.1.length < n then ([], ([], true)) else (s.1.take n, (s.1.drop n, false))
theorem und8' : Tryz.prog.underlying 28 = some (.slice 5) := und8
theorem sz8 : szT Tryz.prog 5 = 1 := by kernel_rfl
theorem rTake_ok (b : Nat) (s : List UInt8 × Bool) (n : Nat) : Tri Tryz.prog 202 #[.pointer (some ⟨b, 0, none⟩), .int .i64 n] (RRep b s)
    (fun v => HP.ex fun a => HP.ex fun c => HP.and (v = .slice a (takeR s n).1.length c) (HP.sep (RoB a (takeR s n).1.length (takeR s n).1) (RRep b (takeR s n).2))) := by
  obtain ⟨l, wr⟩ := s
  refine Tri.ex fun a => Tri.ex fun c => Tri.pure fun hc => ?_
  simp only at hc
  refine tri_of_tree (ρ := [.n b, .a a, .n l.length, .n c, .p (RoB a l.length l), .c wr, .i n]) mixed Tryz.func202 tree_rTake ?_
  unfold t_rTake
  simp only [T.den, E.prop, E.den, RX.look, F1.app, F2.app, Uni.int_i, Uni.nat_n, Uni.bool_c, Uni.str_s, Uni.adr_a, Uni.val_v, Uni.hp_p, hden, cden, V.den, W.den, A.den, BR.den, SA.den, FV.den, capV, exs, exP, allP, Cur.app, List.map_cons, List.map_nil, List.cons_append, List.nil_append, List.drop_succ_cons, List.drop_zero, List.length_cons, List.length_nil, Nat.zero_add, Nat.reduceAdd, Int.neg_neg, Bool.not_not, List.append_nil, Nat.add_zero, List.getElem?_cons_zero, List.getElem?_cons_succ, Decidable.not_not]
  refine ⟨fun h1 => .of fun R h H => ?_, fun h1 => ⟨fun h2 => ?_, fun h2 => ?_⟩⟩
  · subst h1
    simp only [takeR, if_true]
    exact ⟨none, 0, rfl, RoC.join (RoC.nil _ _ R h) ⟨a, c, hc, H⟩⟩
  · have e : takeR (l, wr) n = ([], ([], true)) := by simp only [takeR]; rw [if_neg h1, if_pos (by omega)]
    rw [e]
    refine (rFail_ok b (l, wr)).weak (fun R h H => ⟨a, c, hc, H⟩) ?_
    rintro v R h ⟨rfl, a', c', hc', H⟩
    refine ⟨a', _, c', RoB a' 0 [], true, rfl, .of fun R h H => ⟨none, 0, rfl, RoC.join (RoC.nil _ _ R h) ⟨a', c', hc', H⟩⟩, H⟩
  · have hn : n ≤ l.length := by omega
    have hw : wr = false := by simpa using h1
    have e : takeR (l, wr) n = (l.take n, (l.drop n, false)) := by simp only [takeR]; rw [if_neg h1, if_neg (by omega)]
    rw [e]
    obtain ⟨i, hi, _⟩ := info_parts info8
    have s1 := slice_ok und8 hi (RoB a l.length l) a l.length c (some 0) (some n) (some n) (Nat.zero_le _) (Nat.le_refl _) (by simp; omega) (fun _ => rfl)
    have s2 := slice_ok und8 hi (RoB a l.length l) a l.length c (some n) none none hn hc.1 (Nat.le_refl _) (fun h => by cases h)
    refine ⟨_, _, _, s1, _, _, _, s2, ?_⟩
    simp only [Option.getD_some, Option.getD_none, Nat.sub_zero, sz8, Nat.mul_one, Nat.zero_mul]
    refine .of fun R h H => ?_
    have hro := HP.sep_right H
    have r1 := RoC.sub hro 0 n n (Nat.zero_le _) hn (Nat.le_refl _)
    have r2 := RoC.sub hro n l.length c hn (Nat.le_refl _) hc.1
    simp only [Nat.sub_zero, Nat.mul_one, Nat.zero_mul, List.drop_zero, ← List.map_take, ← List.map_drop] at r1 r2
    rw [List.take_of_length_le (by simp)] at r2
    have e1 : (l.take n).length = n := by simp [hn]
    have e2 : (l.drop n).length = l.length - n := by simp
    rw [← e2] at r2
    refine ⟨if n = 0 then a else Option.map (fun x => x.add 0) a, n, by rw [e1], ?_⟩
    rw [e1]
    refine RoC.join r1 ⟨_, c - n, ⟨by simp only [e2]; omega, by simp only [e2]; omega⟩, RoC.joinR r2 ?_⟩
    have := HP.sep_left H
    simp only [e2]
    rw [hw] at this
    exact this

def beV (l : List UInt8) : Nat := l.foldl (fun v b => v * 256 + b.toNat) 0
theorem beV_snoc (l : List UInt8) (b : UInt8) : beV (l ++ [b]) = beV l * 256 + b.toNat := by simp [beV]
theorem beV_lt (l : List UInt8) : beV l < 256 ^ l.length := by
  have key : ∀ (l : List UInt8) (v : Nat), l.foldl (fun v (b : UInt8) => v * 256 + b.toNat) v < (v + 1) * 256 ^ l.length := by
    intro l
    induction l with
    | nil => intro v; simp
    | cons b r ih =>
      intro v
      have hb := b.toNat_lt
      have h1 := ih (v * 256 + b.toNat)
      have h2 : (v * 256 + b.toNat + 1) * 256 ^ r.length ≤ (v + 1) * 256 * 256 ^ r.length := Nat.mul_le_mul_right _ (by omega)
      simp only [List.foldl_cons, List.length_cons, Nat.pow_succ]
      rw [Nat.mul_comm (256 ^ r.length) 256, ← Nat.mul_assoc]
      omega
  simpa [beV] using key l 0
/-- A number of so many bytes. -/
def numR (s : List UInt8 × Bool) (n : Nat) : Nat × (List UInt8 × Bool) := (beV (takeR s n).1, (takeR s n).2)
theorem takeR_len (s : List UInt8 × Bool) (n : Nat) : (takeR s n).1.length ≤ n := by
  unfold takeR; split
  · simp
  · split <;> simp; omega
theorem or_step (v : Nat) (b : UInt8) (hv : v < 2 ^ 56) : bits .or .u64 (IntKind.u64.wrap ((v : Int) * 2 ^ (min (8 : Int).toNat IntKind.u64.bits))) (b.toNat : Int) = ((v * 256 + b.toNat : Nat) : Int) := by
  have hb := b.toNat_lt
  have e1 : IntKind.u64.wrap ((v : Int) * 2 ^ (min (8 : Int).toNat IntKind.u64.bits)) = ((v * 256 : Nat) : Int) := by
    have : (v : Int) * 2 ^ (min (8 : Int).toNat IntKind.u64.bits) = ((v * 256 : Nat) : Int) := by
      simp [IntKind.bits]
    rw [this]
    exact wrap_in ⟨by simp [IntKind.min, IntKind.signed]; omega, by simp [IntKind.max, IntKind.signed, IntKind.bits]; omega⟩
  rw [e1]
  have e2 : (v * 256 ||| b.toNat) = v * 256 + b.toNat := by
    have := Nat.shiftLeft_add_eq_or_of_lt (a := v) (b := b.toNat) (i := 8) (by omega)
    rw [Nat.shiftLeft_eq] at this
    exact this.symm
  show IntKind.u64.wrap ((BitVec.ofInt 64 ((v * 256 : Nat) : Int) ||| BitVec.ofInt 64 (b.toNat : Int)).toNat : Int) = _
  rw [BitVec.ofInt_natCast, BitVec.ofInt_natCast, BitVec.toNat_or, BitVec.toNat_ofNat, BitVec.toNat_ofNat, Nat.mod_eq_of_lt (by omega), Nat.mod_eq_of_lt (by omega), e2]
  exact wrap_in ⟨by simp [IntKind.min, IntKind.signed]; omega, by simp [IntKind.max, IntKind.signed, IntKind.bits]; omega⟩
theorem inI64 (x : Int) (h1 : -9223372036854775808 ≤ x) (h2 : x ≤ 9223372036854775807) : IntKind.i64.min ≤ x ∧ x ≤ IntKind.i64.max := by
  simp [IntKind.min, IntKind.max, IntKind.signed, IntKind.bits]; omega
theorem inU64 (x : Int) (h1 : 0 ≤ x) (h2 : x ≤ 18446744073709551615) : IntKind.u64.min ≤ x ∧ x ≤ IntKind.u64.max := by
  simp [IntKind.min, IntKind.max, IntKind.signed, IntKind.bits]; omega
theorem und8b : Tryz.prog.underlying 5 = some (.int .u8) := by kernel_rfl
theorem agg8 : aggT Tryz.prog 5 = false := by kernel_rfl
theorem rNumber_ok (b : Nat) (s : List UInt8 × Bool) (n : Nat) (hn : n ≤ 8) : Tri Tryz.prog 153 #[.pointer (some ⟨b, 0, none⟩), .int .i64 n] (RRep b s)
    (fun v => HP.and (v = .int .u64 ((numR s n).1 : Nat)) (RRep b (numR s n).2)) := by
  refine tri_of_tree (ρ := [.n b, .p (RRep b s), .i n]) mixed Tryz.func153 tree_rNumber ?_
  unfold t_rNumber
  simp only [T.den, E.prop, E.den, RX.look, F1.app, F2.app, Uni.int_i, Uni.nat_n, Uni.bool_c, Uni.str_s, Uni.adr_a, Uni.val_v, Uni.hp_p, hden, cden, V.den, W.den, A.den, BR.den, SA.den, FV.den, capV, exs, exP, allP, Cur.app, List.map_cons, List.map_nil, List.cons_append, List.nil_append, List.drop_succ_cons, List.drop_zero, List.length_cons, List.length_nil, Nat.zero_add, Nat.reduceAdd, Int.neg_neg, Bool.not_not, List.append_nil, Nat.add_zero, List.getElem?_cons_zero, List.getElem?_cons_succ, Decidable.not_not]
  refine (width_ok n HP.tt).weak (fun _ _ h => h) ?_
  rintro r R h ⟨rfl, H⟩
  refine ⟨min (max n 0) 8, rfl, ?_, H⟩
  rw [show min (max (n : Int) 0) 8 = n by omega]
  refine (rTake_ok b s n).weak (fun _ _ h => h) ?_
  rintro r R h ⟨a, c, rfl, H⟩
  have hlen := takeR_len s n
  have ha : 0 < (takeR s n).1.length → a.isSome = true := fun h => RoC.some (HP.sep_left H) h
  refine ⟨a, _, c, RoB a _ (takeR s n).1, RRep b (takeR s n).2, rfl, ?_, H⟩
  have hpow : 256 ^ (takeR s n).1.length ≤ 256 ^ 8 := Nat.pow_le_pow_right (by decide) (by omega)
  unfold numR
  generalize (takeR s n).1 = l at *
  generalize (takeR s n).2 = s' at *
  refine ⟨fun v i => ∃ k : Nat, i = k ∧ k ≤ l.length ∧ v = ((beV (l.take k) : Nat) : Int), fun v i => l.length - i.toNat, ⟨0, rfl, Nat.zero_le _, rfl⟩, ?_⟩
  rintro v i ⟨k, rfl, hk, rfl⟩
  refine ⟨fun hlt => ⟨by omega, fun _ => ?_⟩, fun hge => ?_⟩
  · have hlt' : k < l.length := by omega
    have hb8 := l[k].toNat_lt
    have hget : l[k]? = some l[k] := List.getElem?_eq_getElem hlt'
    have hk8 : beV (l.take k) < 2 ^ 56 := by
      have h1 := beV_lt (l.take k)
      rw [List.length_take, Nat.min_eq_left hk] at h1
      have h2 : 256 ^ k ≤ 256 ^ 7 := Nat.pow_le_pow_right (by decide) (by omega)
      have h3 : (256 : Nat) ^ 7 = 2 ^ 56 := by decide
      omega
    refine ⟨ha (by omega), fun _ => ⟨(l[k].toNat : Int), ?_, inU64 _ (by omega) (by omega), fun _ => ⟨inI64 _ (by omega) (by omega), fun _ => ⟨⟨k + 1, by omega, hlt', ?_⟩, by dsimp only; omega⟩⟩⟩⟩
    · exact load1_ok und8b agg8 sz8 (RoC.rd 1 a _ (l.map u8v)) (k := (k : Int).toNat * 1) (off := 0) (v := u8v l[k]) (by simp [hget])
    · rw [or_step _ _ hk8, List.take_succ_eq_append_getElem hlt', beV_snoc]
  · have : k = l.length := by omega
    subst this
    rw [List.take_length]
    exact .of fun R h H => ⟨rfl, H⟩
theorem wrap8 (v : Nat) : IntKind.u8.wrap (v : Int) = ((v % 256 : Nat) : Int) := by
  simp only [IntKind.wrap, IntKind.bits, IntKind.signed, Bool.false_and, Bool.false_eq_true, if_false]
  omega
theorem rByte_ok (b : Nat) (s : List UInt8 × Bool) : Tri Tryz.prog 156 #[.pointer (some ⟨b, 0, none⟩)] (RRep b s) (fun v => HP.and (v = .int .u8 (((numR s 1).1 % 256 : Nat) : Int)) (RRep b (numR s 1).2)) := by
  refine tri_of_tree (ρ := [.n b, .p (RRep b s)]) mixed Tryz.func156 tree_rByte ?_
  unfold t_rByte
  simp only [T.den, E.prop, E.den, RX.look, F1.app, F2.app, Uni.int_i, Uni.nat_n, Uni.bool_c, Uni.str_s, Uni.adr_a, Uni.val_v, Uni.hp_p, hden, cden, V.den, W.den, A.den, BR.den, SA.den, FV.den, capV, exs, exP, allP, Cur.app, List.map_cons, List.map_nil, List.cons_append, List.nil_append, List.drop_succ_cons, List.drop_zero, List.length_cons, List.length_nil, Nat.zero_add, Nat.reduceAdd, Int.neg_neg, Bool.not_not, List.append_nil, Nat.add_zero, List.getElem?_cons_zero, List.getElem?_cons_succ, Decidable.not_not]
  refine (rNumber_ok b s 1 (by omega)).weak (fun _ _ h => h) ?_
  rintro v R h ⟨rfl, H⟩
  exact ⟨_, _, rfl, .of fun R h H => ⟨by rw [wrap8], H⟩, H⟩
def intOf64 (v : Nat) : Int := IntKind.i64.wrap (v : Int)
theorem rInt_ok (b : Nat) (s : List UInt8 × Bool) : Tri Tryz.prog 86 #[.pointer (some ⟨b, 0, none⟩)] (RRep b s) (fun v => HP.and (v = .int .i64 (intOf64 (numR s 8).1)) (RRep b (numR s 8).2)) := by
  refine tri_of_tree (ρ := [.n b, .p (RRep b s)]) mixed Tryz.func86 tree_rInt ?_
  unfold t_rInt
  simp only [T.den, E.prop, E.den, RX.look, F1.app, F2.app, Uni.int_i, Uni.nat_n, Uni.bool_c, Uni.str_s, Uni.adr_a, Uni.val_v, Uni.hp_p, hden, cden, V.den, W.den, A.den, BR.den, SA.den, FV.den, capV, exs, exP, allP, Cur.app, List.map_cons, List.map_nil, List.cons_append, List.nil_append, List.drop_succ_cons, List.drop_zero, List.length_cons, List.length_nil, Nat.zero_add, Nat.reduceAdd, Int.neg_neg, Bool.not_not, List.append_nil, Nat.add_zero, List.getElem?_cons_zero, List.getElem?_cons_succ, Decidable.not_not]
  refine (rNumber_ok b s 8 (by omega)).weak (fun _ _ h => h) ?_
  rintro v R h ⟨rfl, H⟩
  exact ⟨_, _, rfl, .of fun R h H => ⟨rfl, H⟩, H⟩
/-- How many there are, at most so many. -/
def toldR (s : List UInt8 × Bool) (most : Int) : Nat × (List UInt8 × Bool) :=
  if (numR s 4).2.2 then (0, (numR s 4).2) else if most < (numR s 4).1 then (0, ([], true)) else ((numR s 4).1, (numR s 4).2)
theorem numR_lt (s : List UInt8 × Bool) (n : Nat) : (numR s n).1 < 256 ^ n :=
  Nat.lt_of_lt_of_le (beV_lt _) (Nat.pow_le_pow_right (by decide) (takeR_len s n))
theorem rTold_ok (b : Nat) (s : List UInt8 × Bool) (most : Int) : Tri Tryz.prog 154 #[.pointer (some ⟨b, 0, none⟩), .int .i64 most] (RRep b s) (fun v => HP.and (v = .int .i64 ((toldR s most).1 : Nat)) (RRep b (toldR s most).2)) := by
  have hlt := numR_lt s 4
  refine Tri.ex fun a => Tri.ex fun c => Tri.pure fun hc => ?_
  refine tri_of_tree (ρ := [.n b, .a a, .n s.1.length, .n c, .p (RoB a s.1.length s.1), .c s.2, .i most]) mixed Tryz.func154 tree_rTold ?_
  unfold t_rTold
  simp only [T.den, E.prop, E.den, RX.look, F1.app, F2.app, Uni.int_i, Uni.nat_n, Uni.bool_c, Uni.str_s, Uni.adr_a, Uni.val_v, Uni.hp_p, hden, cden, V.den, W.den, A.den, BR.den, SA.den, FV.den, capV, exs, exP, allP, Cur.app, List.map_cons, List.map_nil, List.cons_append, List.nil_append, List.drop_succ_cons, List.drop_zero, List.length_cons, List.length_nil, Nat.zero_add, Nat.reduceAdd, Int.neg_neg, Bool.not_not, List.append_nil, Nat.add_zero, List.getElem?_cons_zero, List.getElem?_cons_succ, Decidable.not_not]
  refine (rNumber_ok b s 4 (by omega)).weak (fun R h H => ⟨a, c, hc, H⟩) ?_
  rintro v R h ⟨rfl, a', c', hc', H⟩
  unfold toldR
  generalize (numR s 4).1 = x at *
  generalize (numR s 4).2 = s' at *
  obtain ⟨l', w'⟩ := s'
  refine ⟨_, a', _, c', RoB a' l'.length l', w', rfl, ?_, H⟩
  have e : IntKind.i64.wrap (x : Int) = x := wrap_in (inI64 _ (by omega) (by omega))
  rw [e]
  refine ⟨fun h1 => .of fun R h H => ?_, fun h1 => ⟨fun h2 => ?_, fun h2 => .of fun R h H => ?_⟩⟩
  · simp only [h1, if_true]
    subst h1
    exact ⟨rfl, a', c', hc', H⟩
  · rw [if_neg h1, if_pos h2]
    refine (rFail_ok b (l', w')).weak (fun R h H => ⟨a', c', hc', H⟩) ?_
    rintro v R h ⟨rfl, a2, c2, hc2, H⟩
    exact ⟨a2, _, c2, RoB a2 _ [], true, rfl, .of fun R h H => ⟨rfl, a2, c2, hc2, H⟩, H⟩
  · rw [if_neg h1, if_neg h2]
    exact ⟨rfl, a', c', hc', H⟩
def bytesR (s : List UInt8 × Bool) (most : Int) : List UInt8 × (List UInt8 × Bool) := takeR (toldR s most).2 (toldR s most).1
theorem rBytes_ok (b : Nat) (s : List UInt8 × Bool) (most : Int) : Tri Tryz.prog 157 #[.pointer (some ⟨b, 0, none⟩), .int .i64 most] (RRep b s)
    (fun v => HP.ex fun a => HP.ex fun c => HP.and (v = .slice a (bytesR s most).1.length c) (HP.sep (RRep b (bytesR s most).2) (OwB a (bytesR s most).1.length c (bytesR s most).1))) := by
  refine tri_of_tree (ρ := [.n b, .p (RRep b s), .i most]) mixed Tryz.func157 tree_rBytes ?_
  unfold t_rBytes
  simp only [T.den, E.prop, E.den, RX.look, F1.app, F2.app, Uni.int_i, Uni.nat_n, Uni.bool_c, Uni.str_s, Uni.adr_a, Uni.val_v, Uni.hp_p, hden, cden, V.den, W.den, A.den, BR.den, SA.den, FV.den, capV, exs, exP, allP, Cur.app, List.map_cons, List.map_nil, List.cons_append, List.nil_append, List.drop_succ_cons, List.drop_zero, List.length_cons, List.length_nil, Nat.zero_add, Nat.reduceAdd, Int.neg_neg, Bool.not_not, List.append_nil, Nat.add_zero, List.getElem?_cons_zero, List.getElem?_cons_succ, Decidable.not_not]
  refine (rTold_ok b s most).weak (fun _ _ h => h) ?_
  rintro v R h ⟨rfl, H⟩
  refine ⟨_, RRep b (toldR s most).2, rfl, ?_, H⟩
  refine (rTake_ok b _ _).weak (fun _ _ h => h) ?_
  rintro v R h ⟨a, c, rfl, H⟩
  have hlen : (bytesR s most).1.length ≤ 140737488355328 := by
    have h1 := takeR_len (toldR s most).2 (toldR s most).1
    have h2 : (toldR s most).1 < 256 ^ 4 := by
      have := numR_lt s 4
      unfold toldR; split
      · simp
      · split
        · simp
        · exact this
    have h3 : (256 : Nat) ^ 4 = 4294967296 := by decide
    unfold bytesR
    omega
  refine ⟨a, _, c, RoB a _ (bytesR s most).1, RRep b (bytesR s most).2, rfl, ?_, H⟩
  refine (clone8_ok _ a _ c (bytesR s most).1 (RdL.ro _ _ _ _) rfl hlen).weak (fun _ _ h => h) ?_
  rintro v R h ⟨a', c', rfl, H⟩
  exact ⟨a', _, c', OwB a' _ c' _, RoB a _ (bytesR s most).1, rfl, .of fun R h H => ⟨a', c', rfl, H⟩, H⟩
theorem rEnd_ok (b : Nat) (s : List UInt8 × Bool) : Tri Tryz.prog 89 #[.pointer (some ⟨b, 0, none⟩)] (RRep b s) (fun v => HP.and (v = .int .i64 (if s.2 = true ∨ s.1 ≠ [] then 3 else 0)) (RRep b s)) := by
  obtain ⟨l, w⟩ := s
  refine Tri.ex fun a => Tri.ex fun c => Tri.pure fun hc => ?_
  refine tri_of_tree (ρ := [.n b, .a a, .n l.length, .n c, .p (RoB a l.length l), .c w]) mixed Tryz.func89 tree_rEnd ?_
  unfold t_rEnd
  simp only [T.den, E.prop, E.den, RX.look, F1.app, F2.app, Uni.int_i, Uni.nat_n, Uni.bool_c, Uni.str_s, Uni.adr_a, Uni.val_v, Uni.hp_p, hden, cden, V.den, W.den, A.den, BR.den, SA.den, FV.den, capV, exs, exP, allP, Cur.app, List.map_cons, List.map_nil, List.cons_append, List.nil_append, List.drop_succ_cons, List.drop_zero, List.length_cons, List.length_nil, Nat.zero_add, Nat.reduceAdd, Int.neg_neg, Bool.not_not, List.append_nil, Nat.add_zero, List.getElem?_cons_zero, List.getElem?_cons_succ, Decidable.not_not]
  refine ⟨fun h1 => .of fun R h H => ⟨?_, a, c, hc, H⟩, fun h1 => ⟨fun h2 => .of fun R h H => ⟨?_, a, c, hc, H⟩, fun h2 => .of fun R h H => ⟨?_, a, c, hc, H⟩⟩⟩
  · rw [if_pos (.inl h1)]
  · rw [if_pos (.inr (fun e => by subst e; simp at h2))]
  · rw [if_neg (fun e => e.elim h1 fun e => h2 (by have := List.length_pos_iff.2 e; omega))]
theorem rRead_ok (a : Option Addr) (n c : Nat) (l : List UInt8) (S : HP) (hr : RdL S a n (l.map u8v)) (hl : l.length = n) (hb : n ≤ 140737488355328) :
    Tri Tryz.prog 85 #[.slice a n c] S (fun v => HP.ex fun b => HP.and (v = .pointer (some ⟨b, 0, none⟩)) (HP.sep S (RRep b (l, false)))) := by
  refine tri_of_tree (ρ := [.a a, .n n, .n c, .p S]) mixed Tryz.func85 tree_rRead ?_
  unfold t_rRead
  simp only [T.den, E.prop, E.den, RX.look, F1.app, F2.app, Uni.int_i, Uni.nat_n, Uni.bool_c, Uni.str_s, Uni.adr_a, Uni.val_v, Uni.hp_p, hden, cden, V.den, W.den, A.den, BR.den, SA.den, FV.den, capV, exs, exP, allP, Cur.app, List.map_cons, List.map_nil, List.cons_append, List.nil_append, List.drop_succ_cons, List.drop_zero, List.length_cons, List.length_nil, Nat.zero_add, Nat.reduceAdd, Int.neg_neg, Bool.not_not, List.append_nil, Nat.add_zero, List.getElem?_cons_zero, List.getElem?_cons_succ, Decidable.not_not]
  refine (clone8_ok S a n c l hr hl hb).weak (fun _ _ h => h) ?_
  rintro v R h ⟨a', c', rfl, H⟩
  refine ⟨a', _, c', OwB a' n c' l, S, rfl, fun x => ?_, H⟩
  subst hl
  rintro R h d H
  have hle := OwC.le (HP.sep_right (HP.sep_right H))
  refine ((HP.ent.sep2 (HP.ent.refl S) (HP.ent.sep2 (HP.ent.refl _) (OwC.share 5 1 a' l.length c' (l.map u8v)))).trans ?_) R h d H
  refine .of fun R h H => ⟨x, rfl, HP.sep_mono H (fun _ h => h) fun y hy => ?_⟩
  exact ⟨a', c', ⟨hle, hb⟩, hy⟩
end Go.Proofs.YtdieogcemmnaaaaGreatDoor
