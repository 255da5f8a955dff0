/- Texts of this claim, joined. No condition. -/
import Derived.Test.YtdieogcemmnaaaaGreatDoorJTJ1
import Derived.Test.YtdieogcemmnaaaaGreatDoorJTJ2
import Derived.Test.YtdieogcemmnaaaaGreatDoorJTJ3
import Derived.SizedLaws
import Derived.ProofKit
import Derived.OpenShut
import Derived.Deep.Slices
import Derived.Lib.SmallJoins
import Derived.Below
import Derived.Laws.IdiomStrings
import Derived.KernelRfl
import Derived.Laws.StructEq
import Derived.Sort.Walk0
set_option linter.unusedSimpArgs false
set_option linter.unusedVariables false
namespace Go.Proofs.YtdieogcemmnaaaaGreatDoor
set_option linter.unusedSimpArgs false
set_option linter.unusedVariables false
open Go.Proofs.YtdieogcemmnaaaaGreatDoor RX
set_option maxRecDepth 100000
variable {b : Nat} {t : TS}
def readS (T : List Nd) (path : Nm) (off n : Int) : Int × List UInt8 :=
 if (fileS T path).2 ≠ 0 then ((fileS T path).2,[]) else if off < 0 ∨ n < 0 ∨ 256 < n then (1,[]) else match nodeAt T (fileS T path).1 with
  | none => (0,[])
  | some x => (0,(x.data.drop off.toNat).take n.toNat)
structure AnsM where
 err : Int := 0
 kind : Int := 0
 size : Int := 0
 links : Int := 0
 data : List UInt8 := []
 names : List Nm := []
def AnsM.at (a : AnsM) (da : Option Addr) (dc : Nat) (na : Option Addr) (nc : Nat) : Value :=
 .agg #[.int .i64 a.err,.int .i64 a.kind,.int .i64 a.size,.int .i64 a.links,.slice da a.data.length dc,.slice na a.names.length nc]
def HP.conj (A : HP) (C : HP) : HP := ⟨fun R h => A.p R h ∧ C.p R h,fun l1 l2 ⟨h1,h2⟩ => ⟨A.mono l1 l2 h1,C.mono l1 l2 h2⟩⟩
theorem Tri.draw {P : Program} {f : FuncId} {args : Array Value} {A : HP} {B : Value → HP} {α : Type} {A' : α → HP} (h : ∀ R h,A.p R h → ∃ x,(A' x).p R h) (t : ∀ x,Tri P f args (A' x) B) : Tri P f args A B := fun w R hh F s a => by
 obtain ⟨x,hx⟩ := h R hh a
 exact t x w R hh F s hx
theorem sort_eq {α : Type} [LT α] [LE α] [DecidableRel (α := α) (· ≤ ·)] (tr : ∀ a b c : α,a ≤ b → b ≤ c → a ≤ c) (tot : ∀ a b : α,a ≤ b ∨ b ≤ a) (anti : ∀ a b : α,a ≤ b → b ≤ a → a = b) {ys zs : List α} (h : ys.Perm zs) (hs : zs.Pairwise (· ≤ ·)) : (ys.mergeSort fun x y => decide (x ≤ y)) = zs := by
 refine List.Perm.eq_of_pairwise (le := (· ≤ ·)) (fun a b _ _ => anti a b) ?_ hs ((List.mergeSort_perm ys _).trans h)
 have := List.pairwise_mergeSort (le := fun x y : α => decide (x ≤ y)) (fun a b c h1 h2 => by simp only [decide_eq_true_eq] at *; exact tr a b c h1 h2) (fun a b => by simpa using tot a b) ys
 exact this.imp fun h => by simpa using h
theorem entsDraw {x : HN} (hx : x ∈ t.ns) {X : HP} {R h : PH} (H : (HP.sep X (TRep b t)).p R h) : ∃ q : AL Nm × Nat,(HP.sep X (HP.conj (TRep b t) ⟨fun _ h => x.p.kind = 1 → MapI q.1 q.2 ∧ (∀ k,alFind k q.1 = (lk x.p.ents k).map fun n => Value.int .i64 n) ∧ h x.mb = some (mapObj sE q.1 q.2),fun _ l hh hd => ⟨(hh hd).1,(hh hd).2.1,l _ _ (hh hd).2.2⟩⟩)).p R h := by
 obtain ⟨h1,h2,d,l1,l2,H1,H2⟩ := H
 by_cases hd : x.p.kind = 1
 ·obtain ⟨l,c,hI,hk,hh⟩ := NRep.emap (TRep.node H2 hx) hd
  exact ⟨(l,c),h1,h2,d,l1,l2,H1,H2,fun _ => ⟨hI,hk,hh⟩⟩
 ·exact ⟨([],0),h1,h2,d,l1,l2,H1,H2,fun e => absurd e hd⟩
theorem sortedEnts {B : Nat} {x : HN} (hx : x ∈ t.ns) (g : GoodN B x.p) (hB : B ≤ 100000) (kx : Nat) :
  Tri Tryz.prog 74 #[.func (.func 138) #[] #[.pointer (some ⟨kx,0,none⟩)]] (HP.sep (KBoxS kx x.mapo) (TRep b t))
   (fun v => HP.ex fun a => HP.ex fun cc => HP.and (v = .slice a x.p.ents.length cc) (HP.sep (OwS a x.p.ents.length cc (x.p.ents.map (·.1))) (HP.sep (KBoxS kx x.mapo) (TRep b t)))) := by
 by_cases hd : x.p.kind = 1
 ·refine Tri.draw (fun R h H => entsDraw hx H) fun q => ?_
  obtain ⟨l,c⟩ := q
  refine Tri.fact (φ := MapI l c ∧ ∀ k,alFind k l = (lk x.p.ents k).map fun n => Value.int .i64 n) (fun R h H => ⟨((HP.sep_right H).2 hd).1,((HP.sep_right H).2 hd).2.1⟩) fun ⟨hI,hk⟩ => ?_
  have hlen := EntM.len (mb := 0) (nodupE g.sort) hI hk
  have hmo : x.mapo = some x.mb := by unfold HN.mapo; rw [if_pos hd]
  have := g.efew
  refine (sortedS_ok kx x.mapo l c _ hI (fun y hy => ?_) (fun mb e R h H => ?_) (fun e => by rw [hmo] at e; cases e) (by omega)).weak (fun _ _ h => h) ?_
  ·obtain ⟨k,v,z⟩ := y
   have h1 := alFind_mem k v z l hI.1 hy
   rw [hk] at h1
   obtain ⟨n,_,h2⟩ := Option.map_eq_some_iff.1 h1
   exact ⟨n,h2.symm⟩
  ·rw [hmo] at e; cases e
   exact (H.2 hd).2.2
  ·rintro v R h ⟨ys,a,cc,⟨hp,rfl⟩,H⟩
   have hp2 : ys.Perm (x.p.ents.map (·.1)) := hp.trans (al_perm hI.1 (nodupE g.sort) (lk x.p.ents) (fun k => by rw [hk]; cases lk x.p.ents k <;> rfl) (fun k => lk_keys k x.p.ents))
   rw [sort_eq (fun a b c => List.le_trans) (fun a b => List.le_total a b) (fun a b => List.le_antisymm) hp2 (g.sort.imp fun h => List.le_of_lt h)] at H
   have hl : ys.length = x.p.ents.length := by rw [hp2.length_eq,List.length_map]
   rw [hl] at H ⊢
   exact ⟨a,cc,rfl,HP.sep_mono H (fun _ h => h) fun z hz => HP.sep_mono hz (fun _ h => h) fun u hu => hu.1⟩
 ·have he : x.p.ents = [] := by
   rcases g.kind with ⟨h,_⟩ | ⟨_,h⟩
   ·exact absurd h hd
   ·exact h
  have hmo : x.mapo = none := by unfold HN.mapo; rw [if_neg hd]
  refine (sortedS_ok kx x.mapo [] 0 (TRep b t) (MapI.nil 0) (fun y hy => by cases hy) (fun mb e R h H => by rw [hmo] at e; cases e) (fun e => rfl) (by simp)).weak (fun _ _ h => h) ?_
  rintro v R h ⟨ys,a,cc,⟨hp,rfl⟩,H⟩
  have : ys = [] := List.Perm.eq_nil (by simpa using hp)
  subst this
  rw [he]
  rw [List.mergeSort_nil] at H
  exact ⟨a,cc,rfl,H⟩
theorem nodsDraw {X : HP} {R h : PH} (H : (HP.sep X (TRep b t)).p R h) : ∃ q : AL Int × Nat,(HP.sep X (HP.conj (TRep b t) ⟨fun _ h => MapI q.1 q.2 ∧ (∀ k,alFind k q.1 = nodeV t.ns k) ∧ h t.mb = some (mapObj i64v q.1 q.2),fun _ l hh => ⟨hh.1,hh.2.1,l _ _ hh.2.2⟩⟩)).p R h := by
 obtain ⟨h1,h2,d,l1,l2,H1,H2⟩ := H
 obtain ⟨l,c,hI,hk,hh⟩ := TRep.nmap H2
 exact ⟨(l,c),h1,h2,d,l1,l2,H1,H2,hI,hk,hh⟩
theorem TWf.few {B : Nat} {t : TS} (wf : TWf B t.pub) : t.ns.length ≤ 64 := by
 have hp : ((t.ns.map fun x => (x.p.num : Int))).length ≤ 64 := by
  have hsub : ((t.pub.map (·.num)).filter fun k => decide (k < 64)).Perm ((List.range 64).filter fun k => (nodeAt t.pub k).isSome) := by
   refine (List.perm_ext_iff_of_nodup (wf.nd.sublist List.filter_sublist) (List.nodup_range.sublist List.filter_sublist)).2 fun k => ?_
   rw [List.mem_filter,List.mem_filter,List.mem_range]
   constructor
   ·rintro ⟨h1,h2⟩
    obtain ⟨n,hn,rfl⟩ := List.mem_map.1 h1
    exact ⟨by simpa using h2,by rw [mem_nodeAt wf.nd hn]; rfl⟩
   ·rintro ⟨h1,h2⟩
    obtain ⟨n,hn⟩ := Option.isSome_iff_exists.1 h2
    exact ⟨List.mem_map.2 ⟨n,(nodeAt_mem hn).1,(nodeAt_mem hn).2⟩,by simpa using h1⟩
  have h1 := hsub.length_eq
  have h2 := List.length_filter_le (fun k => (nodeAt t.pub k).isSome) (List.range 64)
  have h3 : ((t.pub.map (·.num)).filter fun k => decide (k < 64)) = t.pub.map (·.num) := by
   rw [List.filter_eq_self]
   intro k hk
   obtain ⟨n,hn,rfl⟩ := List.mem_map.1 hk
   simpa using (wf.good n hn).num
  rw [h3,List.length_map] at h1
  rw [show t.pub.length = t.ns.length from by unfold TS.pub; rw [List.length_map]] at h1
  rw [List.length_range] at h2
  rw [List.length_map]; omega
 simpa using hp
theorem sortedNodes {B : Nat} (wf : TWf B t.pub) (kx : Nat) :
  Tri Tryz.prog 71 #[.func (.func 135) #[] #[.pointer (some ⟨kx,0,none⟩)]] (HP.sep (KBoxI kx (some t.mb)) (TRep b t))
   (fun v => HP.ex fun a => HP.ex fun cc => HP.and (v = .slice a t.ns.length cc) (HP.sep (OwI a t.ns.length cc (t.ns.map fun x => (x.p.num : Int))) (HP.sep (KBoxI kx (some t.mb)) (TRep b t)))) := by
 have hs : (t.ns.map fun x => (x.p.num : Int)).Pairwise (· < ·) := by
  have h1 := wf.sorted
  unfold TS.pub at h1
  rw [List.map_map] at h1
  have e : (t.ns.map fun x => (x.p.num : Int)) = (t.ns.map ((fun n : Nd => n.num) ∘ fun x : HN => x.p)).map (fun n : Nat => (n : Int)) := by rw [List.map_map]; rfl
  rw [e]
  exact List.Pairwise.map _ (fun a b h => by exact_mod_cast h) h1
 have hnd : (t.ns.map fun x => (x.p.num : Int)).Nodup := hs.imp fun h => by omega
 have hlen64 := wf.few
 refine Tri.draw (fun R h H => nodsDraw H) fun q => ?_
 obtain ⟨l,c⟩ := q
 refine Tri.fact (φ := MapI l c ∧ ∀ k,alFind k l = nodeV t.ns k) (fun R h H => ⟨(HP.sep_right H).2.1,(HP.sep_right H).2.2.1⟩) fun ⟨hI,hk⟩ => ?_
 have hp1 : (l.map (·.1)).Perm (t.ns.map fun x => (x.p.num : Int)) := al_perm hI.1 hnd (nodeV t.ns) (fun k => by rw [hk]) fun k => by
  unfold nodeV
  rw [Option.isSome_map,List.find?_isSome]
  simp [List.mem_map]
 have hlen : l.length = t.ns.length := by simpa using hp1.length_eq
 refine (sortedI_ok kx (some t.mb) l c _ hI (fun y hy => ?_) (fun mb e R h H => by cases e; exact H.2.2.2) (fun e => by cases e) (by omega)).weak (fun _ _ h => h) ?_
 ·obtain ⟨k,v,z⟩ := y
  have h1 := alFind_mem k v z l hI.1 hy
  rw [hk] at h1
  obtain ⟨n,_,h2⟩ := Option.map_eq_some_iff.1 h1
  exact ⟨n.nb,h2.symm⟩
 ·rintro v R h ⟨ys,a,cc,⟨hp,rfl⟩,H⟩
  rw [sort_eq (fun a b c => Int.le_trans) (fun a b => Int.le_total a b) (fun a b => Int.le_antisymm) (hp.trans hp1) (hs.imp fun h => Int.le_of_lt h)] at H
  have hl : ys.length = t.ns.length := by rw [hp.length_eq,List.length_map,hlen]
  rw [hl] at H ⊢
  exact ⟨a,cc,rfl,HP.sep_mono H (fun _ h => h) fun z hz => HP.sep_mono hz (fun _ h => h) fun u hu => hu.1⟩
theorem RdL.sub {S : HP} {a : Option Addr} {n : Nat} {xs : List Value} (r : RdL S a n xs) (o k : Nat) (hk : o + k ≤ n) (z : Prop) [Decidable z] (hz : z → k = 0) : RdL S (if z then a else a.map fun x => x.add o) k ((xs.drop o).take k) where
 rd w R h F s H j u hj := by
  rw [List.getElem?_take] at hj
  split at hj
  ·rename_i hjk
   rw [List.getElem?_drop] at hj
   obtain ⟨g,off,rfl,hc⟩ := r.rd w R h F s H (o + j) u hj
   rw [if_neg (fun h => by have := hz h; omega)]
   refine ⟨g,off + o,by rw [Option.map_some,RX.addr_add],?_⟩
   rw [Nat.add_assoc]; exact hc
  ·cases hj
 none R h H e := by
  split at e
  ·rename_i h; exact hz h
  ·have := r.none R h H (by simpa using e)
   omega
theorem semW_sllh {i j k : Nat} {t ty : TypeId} {u v x : Value} (h : i ≠ j) (h2 : i ≠ k) (h3 : j ≠ k) : semW (.slice t (.tmp i) (some (.tmp j)) (some (.tmp k)) none) ty [(i,u),(j,v),(k,x)] = sliceS t u (some v) (some x) none := by
 have hb : (i == j) = false := by simpa using h
 have hb2 : (i == k) = false := by simpa using h2
 have hb3 : (j == k) = false := by simpa using h3
 simp [semW,execOp,arW,sliceS,List.find?,hb,hb2,hb3]
def AnsR (da : Option Addr) (dc : Nat) (na : Option Addr) (nc : Nat) (a : AnsM) : HP := HP.sep (OwB da a.data.length dc a.data) (OwS na a.names.length nc a.names)
theorem AnsR.nil {a : AnsM} (hd : a.data = []) (hn : a.names = []) {A : HP} {R h : PH} (H : A.p R h) : (HP.sep (OwB none a.data.length 0 a.data) (HP.sep (OwS none a.names.length 0 a.names) A)).p R h := by
 rw [hd,hn]
 exact HP.sep_mono (HP.tt_sep H) (fun _ _ => OwC.nil _ _ _ _) fun z hz => HP.sep_mono (HP.tt_sep hz) (fun _ _ => OwC.nil _ _ _ _) fun _ h => h
def Told (b : Nat) (t : TS) (S : HP) (a : AnsM) (v : Value) : HP := HP.ex fun da => HP.ex fun dc => HP.ex fun na => HP.ex fun nc => HP.and (v = a.at da dc na nc) (HP.sep (OwB da a.data.length dc a.data) (HP.sep (OwS na a.names.length nc a.names) (HP.sep (TRep b t) S)))
theorem Told.nil {S : HP} {a : AnsM} {v : Value} (hd : a.data = []) (hn : a.names = []) (hv : v = a.at none 0 none 0) : HP.ent (HP.sep (TRep b t) S) (Told b t S a v) := .of fun R h H => ⟨none,0,none,0,hv,AnsR.nil hd hn H⟩
def readS' (T : List Nd) (path : Nm) (off n : Int) : AnsM := { err := (readS T path off n).1,data := (readS T path off n).2 }
def statS (T : List Nd) (path : Nm) : AnsM :=
 if (findS T path).2 ≠ 0 then { err := (findS T path).2 } else match nodeAt T (findS T path).1 with
  | none => {}
  | some x => { kind := x.kind,size := if x.kind = 1 then x.ents.length else x.data.length,links := x.links }
def listS (T : List Nd) (path : Nm) : AnsM :=
 if (findS T path).2 ≠ 0 then { err := (findS T path).2 } else match nodeAt T (findS T path).1 with
  | none => {}
  | some x => if x.kind ≠ 1 then { err := 23 } else { names := x.ents.map (·.1) }
set_option maxHeartbeats 1000000 in
theorem tList_ok {B : Nat} (hB : B ≤ 100000) (wf : TWf B t.pub) (c : CallM) (S : HP) : Tri Tryz.prog 70 #[.pointer (some ⟨b,0,none⟩),c.val] (HP.sep (TRep b t) S) (Told b t S (listS t.pub c.path)) := by
 refine tri_of_tree (ρ := [.n b,.p (TRep b t),.i c.kind,.s c.path,.s c.other,.i c.off,.i c.n,.a c.da,.n c.dl,.n c.dc,.p S]) mixed Tryz.func70 tree_tList ?_
 unfold t_tList
 simp only [T.den,E.prop,E.den,RX.look,F1.app,F2.app,Uni.int_i,Uni.nat_n,Uni.bool_c,Uni.str_s,Uni.adr_a,Uni.val_v,Uni.hp_p,hden,cden,V.den,W.den,A.den,BR.den,SA.den,FV.den,capV,exs,exP,allP,Cur.app,List.map_cons,List.map_nil,List.cons_append,List.nil_append,List.drop_succ_cons,List.drop_zero,List.length_cons,List.length_nil,Nat.zero_add,Nat.reduceAdd,Int.neg_neg,Bool.not_not,List.append_nil,Nat.add_zero,List.getElem?_cons_zero,List.getElem?_cons_succ,Decidable.not_not,semW_eq,semW_load,semW_lookup,semW_lookupC,semW_nil,ne_eq,Nat.reduceEqDiff,not_false_eq_true]
 intro x0 x00
 refine (tFind_ok wf c.path).weak (fun _ _ h => h) ?_
 rintro v R h ⟨rfl,H⟩
 obtain ⟨T1,hT1⟩ : ∃ q,listS t.pub c.path = q := ⟨_,rfl⟩
 rw [hT1]
 unfold listS at hT1
 refine ⟨_,_,rfl,?_,H⟩
 clear H
 obtain ⟨xn,hxn⟩ := Option.isSome_iff_exists.1 (findS_some wf c.path)
 obtain ⟨x,i,hi,rfl,hin,hih,hip,him⟩ := hnIdx hxn
 have hlk := lkNode (b := b) (t := t) (findS t.pub c.path).1
 rw [hih] at hlk
 refine ⟨fun hc => ?_,fun hc => ⟨t.mb,ldNodes,.pointer (some ⟨x.nb,0,none⟩),hlk,x.nb,nilChk',x.p.kind,ldKind him,⟨fun hk => ?_,fun hk => ?_⟩⟩⟩
 ·rw [if_pos hc] at hT1; subst hT1
  exact Told.nil rfl rfl rfl
 ·rw [if_neg (by simp [hc]),hxn] at hT1
  simp only at hT1
  rw [if_pos hk] at hT1; subst hT1
  exact Told.nil rfl rfl rfl
 ·rw [if_neg (by simp [hc]),hxn] at hT1
  simp only at hT1
  rw [if_neg (by simp [hk])] at hT1
  have he := ldEnts (b := b) him
  have hmo : x.mapo = some x.mb := by unfold HN.mapo; rw [if_pos hk]
  rw [hmo] at he
  refine ⟨x.nb,nilChk',x.mb,he,?_⟩
  refine (keysS_ok (some x.mb) (TRep b t)).weak (fun _ _ h => h) ?_
  rintro v R h ⟨kx,rfl,H⟩
  refine ⟨.func (.func 138) #[] #[.pointer (some ⟨kx,0,none⟩)],KBoxS kx (some x.mb),rfl,?_,H⟩
  clear H
  have so := sortedEnts (b := b) him (wf.good _ (wf.at' hxn).2.2) hB kx
  rw [hmo] at so
  refine so.weak (fun _ _ h => h) ?_
  rintro v R h ⟨a,cc,rfl,H⟩
  refine ⟨a,x.p.ents.length,cc,_,rfl,.of fun R h H => ?_,H⟩
  subst hT1
  refine ⟨none,0,a,cc,?_,?_⟩
  ·unfold AnsM.at; simp only [List.length_map]; rfl
  ·refine HP.sep_mono (HP.tt_sep H) (fun _ _ => OwC.nil _ _ _ _) fun z hz => ?_
   simp only [List.length_map]
   exact HP.pick [_,_,_] [2,0,1] (by decide) rfl hz
set_option maxHeartbeats 1000000 in
theorem tStat_ok {B : Nat} (wf : TWf B t.pub) (c : CallM) (S : HP) : Tri Tryz.prog 69 #[.pointer (some ⟨b,0,none⟩),c.val] (HP.sep (TRep b t) S) (Told b t S (statS t.pub c.path)) := by
 refine tri_of_tree (ρ := [.n b,.p (TRep b t),.i c.kind,.s c.path,.s c.other,.i c.off,.i c.n,.a c.da,.n c.dl,.n c.dc,.p S]) mixed Tryz.func69 tree_tStat ?_
 unfold t_tStat
 simp only [T.den,E.prop,E.den,RX.look,F1.app,F2.app,Uni.int_i,Uni.nat_n,Uni.bool_c,Uni.str_s,Uni.adr_a,Uni.val_v,Uni.hp_p,hden,cden,V.den,W.den,A.den,BR.den,SA.den,FV.den,capV,exs,exP,allP,Cur.app,List.map_cons,List.map_nil,List.cons_append,List.nil_append,List.drop_succ_cons,List.drop_zero,List.length_cons,List.length_nil,Nat.zero_add,Nat.reduceAdd,Int.neg_neg,Bool.not_not,List.append_nil,Nat.add_zero,List.getElem?_cons_zero,List.getElem?_cons_succ,Decidable.not_not,semW_eq,semW_load,semW_lookup,semW_lookupC,semW_nil,ne_eq,Nat.reduceEqDiff,not_false_eq_true]
 intro x0 x00
 refine (tFind_ok wf c.path).weak (fun _ _ h => h) ?_
 rintro v R h ⟨rfl,H⟩
 obtain ⟨T1,hT1⟩ : ∃ q,statS t.pub c.path = q := ⟨_,rfl⟩
 rw [hT1]
 unfold statS at hT1
 refine ⟨_,_,rfl,?_,H⟩
 clear H
 obtain ⟨xn,hxn⟩ := Option.isSome_iff_exists.1 (findS_some wf c.path)
 obtain ⟨x,i,hi,rfl,hin,hih,hip,him⟩ := hnIdx hxn
 have hlk := lkNode (b := b) (t := t) (findS t.pub c.path).1
 rw [hih] at hlk
 refine ⟨fun hc => ?_,fun hc => ⟨t.mb,ldNodes,.pointer (some ⟨x.nb,0,none⟩),hlk,x.nb,nilChk',x.da,x.p.data.length,x.dc,ldData him,x.nb,nilChk',x.p.kind,ldKind him,⟨fun hk => ?_,fun hk => ?_⟩⟩⟩
 ·rw [if_pos hc] at hT1; subst hT1
  exact Told.nil rfl rfl rfl
 ·rw [if_neg (by simp [hc]),hxn] at hT1
  simp only at hT1
  rw [if_pos hk] at hT1; subst hT1
  have he := ldEnts (b := b) him
  have hmo : x.mapo = some x.mb := by unfold HN.mapo; rw [if_pos hk]
  rw [hmo] at he
  refine ⟨x.nb,nilChk',x.mb,he,x.p.ents.length,by rw [semW_len]; exact lenEnts him hk (nodupE (wf.at' hxn).1.sort),x.nb,nilChk',x.p.kind,ldKind him,x.nb,nilChk',x.p.links,ldLinks him,?_⟩
  exact Told.nil rfl rfl rfl
 ·rw [if_neg (by simp [hc]),hxn] at hT1
  simp only at hT1
  rw [if_neg hk] at hT1; subst hT1
  refine ⟨x.nb,nilChk',x.p.kind,ldKind him,x.nb,nilChk',x.p.links,ldLinks him,?_⟩
  exact Told.nil rfl rfl rfl
set_option maxHeartbeats 1000000 in
theorem tRead_ok {B : Nat} (wf : TWf B t.pub) (c : CallM) (S : HP) : Tri Tryz.prog 67 #[.pointer (some ⟨b,0,none⟩),c.val] (HP.sep (TRep b t) S) (Told b t S (readS' t.pub c.path c.off c.n)) := by
 refine tri_of_tree (ρ := [.n b,.p (TRep b t),.i c.kind,.s c.path,.s c.other,.i c.off,.i c.n,.a c.da,.n c.dl,.n c.dc,.p S]) mixed Tryz.func67 tree_tRead ?_
 unfold t_tRead
 simp only [T.den,E.prop,E.den,RX.look,F1.app,F2.app,Uni.int_i,Uni.nat_n,Uni.bool_c,Uni.str_s,Uni.adr_a,Uni.val_v,Uni.hp_p,hden,cden,V.den,W.den,A.den,BR.den,SA.den,FV.den,capV,exs,exP,allP,Cur.app,List.map_cons,List.map_nil,List.cons_append,List.nil_append,List.drop_succ_cons,List.drop_zero,List.length_cons,List.length_nil,Nat.zero_add,Nat.reduceAdd,Int.neg_neg,Bool.not_not,List.append_nil,Nat.add_zero,List.getElem?_cons_zero,List.getElem?_cons_succ,Decidable.not_not,semW_eq,semW_load,semW_nil,ne_eq,Nat.reduceEqDiff,not_false_eq_true]
 intro x0 x00
 refine (tFile_ok wf c.path).weak (fun _ _ h => h) ?_
 rintro v R h ⟨rfl,H⟩
 obtain ⟨T1,hT1⟩ : ∃ q,readS' t.pub c.path c.off c.n = q := ⟨_,rfl⟩
 rw [hT1]
 unfold readS' readS at hT1
 by_cases hf : (fileS t.pub c.path).2 = 0
 ·rw [if_neg (by simp [hf])] at hT1
  rw [if_pos hf]
  obtain ⟨n,h4,hk2,-⟩ := file_at wf hf
  obtain ⟨y,j,hj,rfl,hjn,hjh,hjp,hjm⟩ := hnIdx h4
  rw [hjp]
  rw [h4] at hT1
  simp only at hT1
  have hcap : y.p.data.length ≤ y.dc := OwC.le (HP.sep_left (HP.sep_right (TRep.node H hjm)))
  refine ⟨.pointer (some ⟨y.nb,0,none⟩),HP.tt,_,_,rfl,⟨fun h => absurd hf h,fun _ => ⟨fun h1 => ?_,fun h1 => ⟨fun h2 => ?_,fun h2 => ⟨fun h3 => ?_,fun h3 => ?_⟩⟩⟩⟩,HP.tt_sep H⟩
  ·rw [if_pos (by omega)] at hT1; subst hT1; exact Told.nil rfl rfl rfl
  ·rw [if_pos (by omega)] at hT1; subst hT1; exact Told.nil rfl rfl rfl
  ·rw [if_pos (by omega)] at hT1; subst hT1; exact Told.nil rfl rfl rfl
  rw [if_neg (by omega)] at hT1
  obtain ⟨o,ho⟩ : ∃ o,min c.off.toNat y.p.data.length = o := ⟨_,rfl⟩
  obtain ⟨e,he⟩ : ∃ e,min (o + c.n.toNat) y.p.data.length = e := ⟨_,rfl⟩
  have e1 : min c.off (y.p.data.length : Int) = (o : Int) := by omega
  have e2 : min ((o : Int) + c.n) (y.p.data.length : Int) = (e : Int) := by omega
  have hdl := (wf.at' h4).1.data
  have hoe : o ≤ e := by omega
  have hel : e ≤ y.p.data.length := by omega
  obtain ⟨j8,hj8,z1,z2,z3⟩ := info_parts info8
  have sl := slice_ok undB8 hj8 (HP.sep HP.tt (TRep b t)) y.da y.p.data.length y.dc (some o) (some e) none (by simpa using hoe) (by simp; omega) (Nat.le_refl _) (fun h => by cases h)
  simp only [Option.getD_some,Option.getD_none,show szT Tryz.prog 5 = 1 from by kernel_rfl,Nat.mul_one] at sl
  refine ⟨y.nb,nilChk',y.da,y.p.data.length,y.dc,rdU (ldData hjm),by rw [e1]; exact inI64' _ (by omega) (by omega),fun _ => ⟨y.nb,nilChk',y.da,y.p.data.length,y.dc,rdU (ldData hjm),y.nb,nilChk',y.da,y.p.data.length,y.dc,rdU (ldData hjm),(if y.dc = o then y.da else y.da.map fun x => x.add o),e - o,y.dc - o,?_,?_⟩⟩
  ·rw [semW_sllh (by decide) (by decide) (by decide),e1,e2]; exact sl
  have hr : RdL (HP.sep HP.tt (TRep b t)) (if y.dc = o then y.da else y.da.map fun x => x.add o) (e - o) (((y.p.data.drop o).take (e - o)).map u8v) := by
   have r0 := rdData (b := b) hjm
   have r1 : RdL (HP.sep HP.tt (TRep b t)) y.da y.p.data.length (y.p.data.map u8v) := ⟨r0.rd.right,fun R h H => r0.none R h (HP.sep_right H)⟩
   have := r1.sub o (e - o) (by omega) (y.dc = o) (fun h => by omega)
   rwa [← List.map_drop,← List.map_take] at this
  have hd : (y.p.data.drop o).take (e - o) = (y.p.data.drop c.off.toNat).take c.n.toNat := by
   rcases Nat.le_total c.off.toNat y.p.data.length with h | h
   ·have : o = c.off.toNat := by omega
    rw [this]
    rcases Nat.le_total (c.off.toNat + c.n.toNat) y.p.data.length with g | g
    ·congr 1; omega
    ·rw [List.take_of_length_le (by rw [List.length_drop]; omega),List.take_of_length_le (by rw [List.length_drop]; omega)]
   ·have : e - o = 0 := by omega
    rw [this,List.take_zero,List.drop_eq_nil_of_le h,List.take_nil]
  refine (clone8_ok _ _ (e - o) (y.dc - o) ((y.p.data.drop o).take (e - o)) hr (by rw [List.length_take,List.length_drop]; omega) (by omega)).weak (fun _ _ h => h) ?_
  rintro v R h ⟨a',c',rfl,H⟩
  refine ⟨a',e - o,c',_,rfl,.of fun R h H => ?_,H⟩
  subst hT1
  have hl : ((y.p.data.drop c.off.toNat).take c.n.toNat).length = e - o := by rw [← hd,List.length_take,List.length_drop]; omega
  refine ⟨a',c',none,0,?_,?_⟩
  ·unfold AnsM.at; simp only [hl]; rfl
  ·simp only [hl]
   rw [hd] at H
   exact HP.sep_mono (HP.pick [_,_,_] [2,0,1] (by decide) rfl H) (fun _ h => h) fun z hz => HP.sep_mono (HP.tt_sep hz) (fun _ _ => OwC.nil _ _ _ _) fun _ h => h
 ·refine ⟨.pointer none,HP.tt,(fileS t.pub c.path).1,(fileS t.pub c.path).2,?_,⟨fun _ => ?_,fun h => absurd h hf⟩,HP.tt_sep H⟩
  ·rw [if_neg hf]; rfl
  ·rw [if_pos hf] at hT1; subst hT1
   exact Told.nil rfl rfl rfl
end Go.Proofs.YtdieogcemmnaaaaGreatDoor

namespace Go.Proofs.YtdieogcemmnaaaaGreatDoor
set_option linter.unusedSimpArgs false
set_option linter.unusedVariables false
open Go.Proofs.YtdieogcemmnaaaaGreatDoor RX
set_option maxRecDepth 100000
variable {b : Nat} {t : TS}
def doS (T : List Nd) (kind : Int) (path other : Nm) (off n : Int) (d : List UInt8) : List Nd × AnsM :=
 if kind = 1 ∨ kind = 3 then ((makeS T kind path).1,{ err := (makeS T kind path).2 })
 else if kind = 2 then ((rmdirS T path).1,{ err := (rmdirS T path).2 })
 else if kind = 4 then ((unlinkS T path).1,{ err := (unlinkS T path).2 })
 else if kind = 5 then ((linkS T path other).1,{ err := (linkS T path other).2 })
 else if kind = 6 then ((renameS T path other).1,{ err := (renameS T path other).2 })
 else if kind = 7 then ((writeS T path off d).1,{ err := (writeS T path off d).2 })
 else if kind = 8 then (T,readS' T path off n)
 else if kind = 9 then ((cutS T path n).1,{ err := (cutS T path n).2 })
 else if kind = 10 then (T,statS T path)
 else if kind = 11 then (T,listS T path)
 else if kind = 12 then (T,{})
 else (T,{ err := 1 })
theorem TWf.do {B : Nat} {T : List Nd} (wf : TWf B T) (hB : 1 ≤ B) (kind : Int) (path other : Nm) (off n : Int) (d : List UInt8) : TWf (B + 1) (doS T kind path other off n d).1 := by
 unfold doS
 split
 ·exact wf.make kind hB path
 split
 ·exact wf.rmdir path
 split
 ·exact wf.unlink path
 split
 ·exact wf.link path other
 split
 ·exact wf.rename path other
 split
 ·exact (wf.write path off d).le (by omega)
 split
 ·exact wf.le (by omega)
 split
 ·exact (wf.cut path n).le (by omega)
 split
 ·exact wf.le (by omega)
 split
 ·exact wf.le (by omega)
 split
 ·exact wf.le (by omega)
 ·exact wf.le (by omega)
def DoPost (b : Nat) (r : List Nd × AnsM) (S : HP) (v : Value) : HP := HP.ex fun t' : TS => HP.and (t'.pub = r.1) (Told b t' S r.2 v)
theorem DoPost.err {r : List Nd × AnsM} {t' : TS} {S : HP} {v : Value} {e : Int} (hp : t'.pub = r.1) (hr : r.2 = { err := e }) (hv : v = AnsM.at { err := e } none 0 none 0) : HP.ent (HP.sep (TRep b t') S) (DoPost b r S v) := by
 refine .of fun R h H => ⟨t',hp,?_⟩
 rw [hr]
 exact ⟨none,0,none,0,hv,AnsR.nil rfl rfl H⟩
theorem DoPost.told {r : List Nd × AnsM} {S : HP} {da na : Option Addr} {dc nc : Nat} (hp : t.pub = r.1) : HP.ent (HP.sep (TRep b t) (HP.sep S (HP.sep (OwB da r.2.data.length dc r.2.data) (OwS na r.2.names.length nc r.2.names)))) (DoPost b r S (r.2.at da dc na nc)) :=
 .of fun R h H => ⟨t,hp,da,dc,na,nc,rfl,HP.pick [_,_,_,_] [2,3,0,1] (by decide) rfl H⟩
theorem doErr {f : FuncId} {args : Array Value} {S : HP} {X : List Nd × Int} {r : List Nd × AnsM} (tr : Tri Tryz.prog f args (HP.sep (TRep b t) S) (fun v => HP.ex fun t' : TS => HP.and (v = .int .i64 X.2 ∧ t'.pub = X.1) (HP.sep (TRep b t') S))) (hr : (X.1,({ err := X.2 } : AnsM)) = r) :
  Tri Tryz.prog f args (HP.sep (TRep b t) S) (fun v => HP.ex fun x : Int => HP.ex fun x1 : HP => HP.ex fun x2 : HP => HP.and (v = .int .i64 x) (HP.and ((HP.sep x1 x2).ent (DoPost b r S (.agg #[.int .i64 x,.int .i64 0,.int .i64 0,.int .i64 0,.slice none 0 0,.slice none 0 0]))) (HP.sep x1 x2))) := by
 refine tr.weak (fun _ _ h => h) ?_
 rintro v R h ⟨t',⟨rfl,hp⟩,H⟩
 exact ⟨X.2,TRep b t',S,rfl,DoPost.err (e := X.2) (by rw [← hr]; exact hp) (by rw [← hr]) rfl,H⟩
theorem doTold {f : FuncId} {args : Array Value} {S : HP} {a : AnsM} {r : List Nd × AnsM} (tr : Tri Tryz.prog f args (HP.sep (TRep b t) S) (Told b t S a)) (hr : (t.pub,a) = r) :
  Tri Tryz.prog f args (HP.sep (TRep b t) S) (fun v => HP.ex fun x : Int => HP.ex fun x1 : Int => HP.ex fun x2 : Int => HP.ex fun x3 : Int => HP.ex fun da : Option Addr => HP.ex fun dl : Nat => HP.ex fun dc : Nat => HP.ex fun dP : HP => HP.ex fun na : Option Addr => HP.ex fun nl : Nat => HP.ex fun nc : Nat => HP.ex fun nP : HP =>
   HP.and (v = .agg #[.int .i64 x,.int .i64 x1,.int .i64 x2,.int .i64 x3,.slice da dl dc,.slice na nl nc]) (HP.and ((HP.sep (TRep b t) (HP.sep S (HP.sep dP nP))).ent (DoPost b r S (.agg #[.int .i64 x,.int .i64 x1,.int .i64 x2,.int .i64 x3,.slice da dl dc,.slice na nl nc]))) (HP.sep dP (HP.sep nP (HP.sep (TRep b t) S))))) := by
 refine tr.weak (fun _ _ h => h) ?_
 rintro v R h ⟨da,dc,na,nc,rfl,H⟩
 refine ⟨a.err,a.kind,a.size,a.links,da,a.data.length,dc,_,na,a.names.length,nc,_,rfl,?_,H⟩
 subst hr
 exact DoPost.told (r := (t.pub,a)) rfl
set_option maxHeartbeats 2000000 in
theorem tDo_ok {B : Nat} (hB : B ≤ 100000) (wf : TWf B t.pub) (c : CallM) (S : HP) (d : List UInt8) (hd : CallD c S d) : Tri Tryz.prog 18 #[.pointer (some ⟨b,0,none⟩),c.val] (HP.sep (TRep b t) S) (DoPost b (doS t.pub c.kind c.path c.other c.off c.n d) S) := by
 refine tri_of_tree (ρ := [.n b,.p (TRep b t),.i c.kind,.s c.path,.s c.other,.i c.off,.i c.n,.a c.da,.n c.dl,.n c.dc,.p S]) mixed Tryz.func18 tree_tDo ?_
 unfold t_tDo
 simp only [T.den,E.prop,E.den,RX.look,F1.app,F2.app,Uni.int_i,Uni.nat_n,Uni.bool_c,Uni.str_s,Uni.adr_a,Uni.val_v,Uni.hp_p,hden,cden,V.den,W.den,A.den,BR.den,SA.den,FV.den,capV,exs,exP,allP,Cur.app,List.map_cons,List.map_nil,List.cons_append,List.nil_append,List.drop_succ_cons,List.drop_zero,List.length_cons,List.length_nil,Nat.zero_add,Nat.reduceAdd,Int.neg_neg,Bool.not_not,List.append_nil,Nat.add_zero,List.getElem?_cons_zero,List.getElem?_cons_succ,Decidable.not_not,semW_eq,ne_eq,Nat.reduceEqDiff,not_false_eq_true]
 obtain ⟨r,hr⟩ : ∃ q,doS t.pub c.kind c.path c.other c.off c.n d = q := ⟨_,rfl⟩
 rw [hr]
 unfold doS at hr
 intro x0 x00
 refine ⟨fun k => ?_,fun k1 => ⟨fun k => ?_,fun k3 => ⟨fun k => ?_,fun k2 => ⟨fun k => ?_,fun k4 => ⟨fun k => ?_,fun k5 => ⟨fun k => ?_,fun k6 => ⟨fun k => ?_,fun k7 => ⟨fun k => ?_,fun k8 => ⟨fun k => ?_,fun k9 => ⟨fun k => ?_,fun k10 => ⟨fun k => ?_,fun k11 => ⟨fun k => ?_,fun k12 => ?_⟩⟩⟩⟩⟩⟩⟩⟩⟩⟩⟩⟩
 ·rw [if_pos (.inl k)] at hr
  exact doErr (tMake_ok wf c S) hr
 ·rw [if_pos (.inr k)] at hr
  exact doErr (tMake_ok wf c S) hr
 all_goals rw [if_neg (by omega)] at hr
 ·rw [if_pos k] at hr
  exact doErr (tRmdir_ok wf c S) hr
 all_goals rw [if_neg (by omega)] at hr
 ·rw [if_pos k] at hr
  exact doErr (tUnlink_ok (by omega) wf c S) hr
 all_goals rw [if_neg (by omega)] at hr
 ·rw [if_pos k] at hr
  exact doErr (tLink_ok (by omega) wf c S) hr
 all_goals rw [if_neg (by omega)] at hr
 ·rw [if_pos k] at hr
  exact doErr (tRename_ok wf c S) hr
 all_goals rw [if_neg (by omega)] at hr
 ·rw [if_pos k] at hr
  exact doErr (tWrite_ok wf c S d hd) hr
 all_goals rw [if_neg (by omega)] at hr
 ·rw [if_pos k] at hr
  exact doTold (tRead_ok wf c S) hr
 all_goals rw [if_neg (by omega)] at hr
 ·rw [if_pos k] at hr
  exact doErr (tCut_ok wf c S) hr
 all_goals rw [if_neg (by omega)] at hr
 ·rw [if_pos k] at hr
  exact doTold (tStat_ok wf c S) hr
 all_goals rw [if_neg (by omega)] at hr
 ·rw [if_pos k] at hr
  exact doTold (tList_ok hB wf c S) hr
 all_goals rw [if_neg (by omega)] at hr
 ·rw [if_pos k] at hr
  exact DoPost.err (e := 0) (by rw [← hr]) (by rw [← hr]) rfl
 ·rw [if_neg k12] at hr
  exact DoPost.err (e := 1) (by rw [← hr]) (by rw [← hr]) rfl
theorem semW_insert {i j : Nat} {t ty : TypeId} {u v k : Value} (h : i ≠ j) : semW (.insert t (.tmp i) (.const k) (.tmp j)) ty [(i,u),(j,v)] = updS t u k v := by
 have hb : (i == j) = false := by simpa using h
 simp [semW,execOp,arW,updS,List.find?,hb]
def newT : List Nd := [newNd 0 1]
theorem newT_wf : TWf 1 newT := by
 refine TWf.mk' (by simp [newT]) ⟨_,rfl,rfl⟩ (fun k n h => ?_) (fun k n h => ?_) (fun k n h h0 => ?_)
 ·obtain ⟨h1,h2⟩ := nodeAt_mem h
  obtain rfl : n = newNd 0 1 := by simpa [newT] using h1
  exact ⟨.inl ⟨rfl,rfl,rfl⟩,by simp [newNd],by simp [newNd],by simp [newNd],by simp [newNd],by simp [newNd],by simp [newNd],by simp [newNd]⟩
 ·obtain ⟨h1,h2⟩ := nodeAt_mem h
  obtain rfl : n = newNd 0 1 := by simpa [newT] using h1
  intro e he; simp [newNd] at he
 ·obtain ⟨h1,h2⟩ := nodeAt_mem h
  obtain rfl : n = newNd 0 1 := by simpa [newT] using h1
  exact absurd h2.symm h0
theorem tNew_ok : Tri Tryz.prog 17 #[] HP.tt (fun v => HP.ex fun b : Nat => HP.ex fun t : TS => HP.and (v = .pointer (some ⟨b,0,none⟩) ∧ t.pub = newT) (TRep b t)) := by
 refine tri_of_tree (ρ := []) mixed Tryz.func17 tree_tNew ?_
 unfold t_tNew
 simp only [T.den,E.prop,E.den,RX.look,F1.app,F2.app,Uni.int_i,Uni.nat_n,Uni.bool_c,Uni.str_s,Uni.adr_a,Uni.val_v,Uni.hp_p,hden,cden,V.den,W.den,A.den,BR.den,SA.den,FV.den,capV,exs,exP,allP,Cur.app,List.map_cons,List.map_nil,List.cons_append,List.nil_append,List.drop_succ_cons,List.drop_zero,List.length_cons,List.length_nil,Nat.zero_add,Nat.reduceAdd,Int.neg_neg,Bool.not_not,List.append_nil,Nat.add_zero,List.getElem?_cons_zero,List.getElem?_cons_succ,Decidable.not_not,semW_eq,ne_eq,Nat.reduceEqDiff,not_false_eq_true]
 intro mb
 refine tDir_ok.weak (fun _ _ h => h) ?_
 rintro v R h ⟨nb,em,rfl,H⟩
 refine ⟨.pointer (some ⟨nb,0,none⟩),_,rfl,?_,H⟩
 clear H
 rw [semW_insert (by decide)]
 have u := (upd_ok (r := mb) (l := []) (c := 0) kInt' undNM 0 (.pointer (some ⟨nb,0,none⟩))).frame (HP.sep (HP.one nb (.cells #[.int .i64 1,.int .i64 1,.slice none 0 0,.map (some em)] 133 (0,0))) (EntM em []))
 refine u.weak (fun _ _ h => h) ?_
 rintro v R h ⟨h1,h2,d,l1,l2,⟨rfl,H1⟩,H2⟩
 refine ⟨HP.sep (HP.one mb (mapObj i64v (alPut 0 (.pointer (some ⟨nb,0,none⟩)) 0 []) (alClock 0 [] 0))) (HP.sep (HP.one nb (.cells #[.int .i64 1,.int .i64 1,.slice none 0 0,.map (some em)] 133 (0,0))) (EntM em [])),rfl,fun b => .of fun R h H => ⟨b,⟨mb,[⟨newNd 0 1,nb,em,none,0⟩]⟩,⟨rfl,rfl⟩,?_⟩,⟨h1,h2,d,l1,l2,H1,H2⟩⟩
 refine HP.sep_mono H (fun _ h => h) fun z hz => HP.sep_mono hz (fun y hy => ?_) fun y hy => ?_
 ·refine ⟨_,_,⟨(MapI.nil 0).put 0 _,fun q => ?_⟩,hy⟩
  rw [alFind_put]
  unfold nodeV
  simp only [newNd,List.find?_cons,List.find?_nil]
  by_cases e : q = 0
  ·subst e; rfl
  ·rw [if_neg e]; simp [Ne.symm e]; rfl
 ·exact sepN_cons.2 (HP.sep_tt (NRep.newD rfl hy))
end Go.Proofs.YtdieogcemmnaaaaGreatDoor

namespace Go.Proofs.YtdieogcemmnaaaaGreatDoor
theorem weights_mem_all {H : Type} {P : Program} {e : TypeId} : ∀ {l : List (DataW H)} {d : DataW H},d ∈ l → ∀ n ∈ d.weights P e,n ∈ DataW.weightsAll P e l
 | x :: l,d,h,n,hn => by
  unfold DataW.weightsAll
  rcases List.mem_cons.1 h with h | h
  ·subst h; exact List.mem_append.2 (.inl hn)
  ·exact List.mem_append.2 (.inr (weights_mem_all h n hn))
def Small {H : Type} (P : Program) (t : TypeId) (d : DataW H) : Prop := ∀ n ∈ d.weights P t,n ≤ reachBytes
section
variable {H : Type} {P : Program} {t e : TypeId}
theorem Small.arg {ts : List TypeId} {ds : List (DataW H)} (h : (DataW.weightsEach P ts ds).all (· ≤ reachBytes) = true) {j : Nat} {d : DataW H} (ht : ts[j]? = some t) (hd : ds[j]? = some d) : Small P t d := fun n hn => by
 have := List.all_eq_true.1 h n (DataW.weights_mem_each ht hd n hn)
 simpa using this
theorem Small.elem {elems spare : List (DataW H)} (h : Small P t (.slice elems spare)) (hu : P.underlying t = some (.slice e)) {d : DataW H} (hd : d ∈ elems) : Small P e d := fun n hn => by
 refine h n ?_
 simp only [DataW.weights,hu]
 exact List.mem_cons_of_mem _ (List.mem_append.2 (.inl (weights_mem_all hd n hn)))
theorem Small.part {fs : Array Field} {parts : List (DataW H)} (h : Small P t (.agg parts)) (hu : P.underlying t = some (.struct fs)) {i : Nat} {f : Field} {d : DataW H} (hf : fs[i]? = some f) (hd : parts[i]? = some d) : Small P f.type d := fun n hn => by
 refine h n ?_
 simp only [DataW.weights,hu]
 exact DataW.weights_mem_each (by rw [List.getElem?_map,Array.getElem?_toList,hf]; rfl) hd n hn
theorem Small.len {elems spare : List (DataW H)} (h : Small P t (.slice elems spare)) (hu : P.underlying t = some (.slice e)) : (elems.length + spare.length) * P.bytesOf e ≤ reachBytes := by
 refine h _ ?_
 simp [DataW.weights,hu]
end
end Go.Proofs.YtdieogcemmnaaaaGreatDoor

namespace Go.Proofs.YtdieogcemmnaaaaGreatDoor
open Go.RowKit Go.ChangeShapes Go.WideShapes Go.Deep
def allOf (w : World) : PH := fun k => w.heap[k]?
theorem allOf_sat (w : World) (g : GR (allOf w)) : Sat w (allOf w) PH.none' PH.none' := ⟨PH.dj_none _,PH.dj_none _,PH.dj_none _,fun _ _ e => e,fun _ _ e => (by cases e),fun _ _ e => (by cases e),g⟩
theorem Tri.run {P : Program} {f : FuncId} {args : Array Value} {A : HP} {u : Value} (t : Tri P f args A (fun v => HP.pure (v = u))) {w : World} (hA : A.p (allOf w) PH.none') (g : GR (allOf w) := by exact True.intro) : Calls P f args w fun e w' => e = .returned u ∧ Below w.heap.size w w' := by
 refine (t w (allOf w) PH.none' PH.none' (allOf_sat w g) hA).mono fun e w' ⟨v,he,sm,R',h',lR,s,hv⟩ => ?_
 have hv' : v = u := hv
 refine ⟨by rw [he,hv'],sm.os,sm.tape,sm.output,sm.size,fun k hk => ?_⟩
 obtain ⟨o,ho⟩ : ∃ o,w.heap[k]? = some o := ⟨w.heap[k],by simp [hk]⟩
 rw [ho]
 exact s.oR _ _ (lR _ _ ho)
section
variable {H : Type} {enc : TypeId × Value → H} {P : Program} {w : World} {base : Nat} {spare : Nat → Bool} {held : Bool}
theorem addr_plain {w : World} {a : Addr} {i : Nat} {v : Value} (h : w.cell? (a.add i) = some v) : a.add i = ⟨a.block,a.off + i,none⟩ ∧ w.cell? ⟨a.block,a.off + i,none⟩ = some v ∧ a.block < w.heap.size := by
 have key : a.add i = ⟨a.block,a.off + i,none⟩ := by
  unfold Addr.add
  split
  ·rename_i e; subst e
   rw [Addr.add_zero'] at h
   obtain ⟨b,o,s⟩ := a
   cases s with
   | none => rfl
   | some s => simp [World.cell?] at h; split at h <;> simp_all
  ·rfl
 rw [key] at h
 exact ⟨key,h,block_lt_of_cell (a := ⟨a.block,a.off + i,none⟩) h⟩
theorem spot_none {a : Addr} {v : Value} (h : w.cell? a = some v) : a.spot = none := by
 unfold World.cell? at h
 split at h
 ·split at h
  ·cases h
  ·rename_i hh; simpa using hh
 ·cases h
theorem take1 {cs : List Value} {i : Nat} {v : Value} (h : (cs.drop i).take 1 = [v]) : cs[i]? = some v := by
 have := congrArg List.head? h
 rw [List.head?_take,if_neg (by decide),List.head?_drop] at this
 simpa using this
theorem take1' {cs : List Value} {i : Nat} {v : Value} (h : cs[i]? = some v) : (cs.drop i).take 1 = [v] := by
 have hi : i < cs.length := (List.getElem?_eq_some_iff.1 h).1
 rw [List.drop_eq_getElem_cons hi,List.take_succ_cons,List.take_zero]
 rw [List.getElem?_eq_getElem hi] at h
 injection h with h
 rw [h]
theorem field_int {t : TypeId} {k : IntKind} {cs : List Value} {n i c : Nat} {xs : List (DataW H × List MemPlace)} {j : Nat} (hu : P.underlying t = some (.int k)) (hj : j < xs.length) (hc : c = 1)
  (h : DataW.trod enc P w base spare held n t ((cs.drop i).take c) = xs[j]?) : ∃ x,cs[i]? = some (.int k x) ∧ (Lit.int k x).wf = true := by
 subst hc
 rw [List.getElem?_eq_getElem hj] at h
 obtain ⟨x,h1,_,h2⟩ := DataW.trod_int hu h
 exact ⟨x,take1 h1,h2⟩
theorem field_slice {t e : TypeId} {cs : List Value} {n i c : Nat} {xs : List (DataW H × List MemPlace)} {j : Nat} (hu : P.underlying t = some (.slice e)) (hj : j < xs.length) (hc : c = 1)
  (h : DataW.trod enc P w base spare held n t ((cs.drop i).take c) = xs[j]?) : ∃ a l k,cs[i]? = some (.slice a l k) := by
 subst hc
 rw [List.getElem?_eq_getElem hj] at h
 obtain ⟨a,l,k,h1⟩ := Go.Joins.slice_form hu h
 exact ⟨a,l,k,take1 h1⟩
theorem roC_of {size : Nat} {g off : Nat} {len : Nat} {xs : List Value} (hs : 0 < size) (hl : xs.length = len * size) (hx : ∀ i v,xs[i]? = some v → w.cell? ⟨g,off + i,none⟩ = some v) {h : PH} : (RoC size (some ⟨g,off,none⟩) len xs).p (allOf w) h := by
 refine ⟨hl,fun hn => ?_⟩
 have hpos : 0 < xs.length := by rw [hl]; exact Nat.mul_pos (by omega) hs
 have h0 := hx 0 xs[0] (List.getElem?_eq_getElem hpos)
 have hobj : ∃ cur ty fr,w.heap[g]? = some (.cells cur ty fr) := by
  unfold World.cell? at h0
  cases hg : w.heap[g]? with
  | none => simp [hg] at h0
  | some o => cases o <;> simp [hg] at h0 ⊢
 obtain ⟨cur,ty,fr,hg⟩ := hobj
 refine ⟨g,off,cur,ty,fr,rfl,hg,List.ext_getElem? fun i => ?_⟩
 rw [List.getElem?_take]
 split
 ·rename_i hi
  have hxi := hx i xs[i] (List.getElem?_eq_getElem hi)
  rw [cell_at hg] at hxi
  rw [List.getElem?_drop,List.getElem?_eq_getElem hi]
  simpa using hxi
 ·rename_i hi
  rw [List.getElem?_eq_none (by omega)]
theorem bytes_of_trod {fuel : Nat} {v : Value} {x : DataW H × List MemPlace} (h : DataW.trod enc Tryz.prog w 0 (fun _ => true) true fuel 28 [v] = some x) (hs : Small Tryz.prog 28 x.1) :
  ∃ (a : Option Addr) (l : List UInt8) (c : Nat),v = .slice a l.length c ∧ l.length ≤ 140737488355328 ∧ ∀ h,(RoB a l.length l).p (allOf w) h := by
 rcases open_slice1 Tryz.underlying28 (by kernel_rfl) h with ⟨hcs,hx⟩ | ⟨a,len,cap,m,n,V,D,Pl,hcs,_,hl,_,hm,hx0,hx⟩
 ·simp at hcs
  subst hcs
  exact ⟨none,[],0,rfl,by simp,fun h => RoC.nil _ _ _ _⟩
 ·simp at hcs
  subst hcs
  have hlm : len ≤ m := by rw [hm]; simp only [if_true]; exact hl
  have hx' : ∀ i,i < len → ∃ q : UInt8,w.cell? (a.add i) = some (u8v q) := fun i hi => by
   obtain ⟨h1,h2⟩ := hx i (by omega)
   obtain ⟨q,hq,_,hw⟩ := DataW.trod_int Tryz.underlying5 h2
   simp at hq
   simp only [Lit.wf,Bool.and_eq_true,decide_eq_true_eq] at hw
   have h0 : (0 : Int) ≤ q := hw.1
   have h255 : q ≤ 255 := hw.2
   refine ⟨UInt8.ofNat q.toNat,?_⟩
   rw [h1,hq]
   have e : ((UInt8.ofNat q.toNat).toNat : Int) = q := by
    rw [UInt8.toNat_ofNat']
    omega
   unfold u8v
   rw [e]
  obtain ⟨z,hz⟩ := choose_lt (p := fun i q => w.cell? (a.add i) = some (u8v q)) hx'
  have hb : len ≤ 140737488355328 := by
   rw [hx0] at hs
   have := hs.len Tryz.underlying28
   have hb : Tryz.prog.bytesOf 5 = 1 := by kernel_rfl
   rw [hb] at this
   unfold reachBytes at this
   simp at this
   omega
  have hlen : ((List.range len).map z).length = len := by simp
  refine ⟨some a,(List.range len).map z,cap,by rw [hlen],by rw [hlen]; exact hb,fun h => ?_⟩
  rw [hlen]
  by_cases h0 : len = 0
  ·subst h0; exact RoC.nil _ _ _ _
  ·have hsp : a.spot = none := by
    have := hz 0 (by omega)
    rw [Addr.add_zero'] at this
    exact spot_none this
   obtain ⟨g,off,sp⟩ := a
   simp only at hsp
   subst hsp
   refine roC_of (by decide) (by simp) fun i v hv => ?_
   have hi : i < len := by have := (List.getElem?_eq_some_iff.1 hv).1; simpa using this
   have := (addr_plain (hz i hi)).2.1
   rw [this]
   simp [hi] at hv
   rw [← hv]
set_option maxRecDepth 100000 in
theorem int_open {H : Type} (_enc : TypeId × Value → H) (base : Nat) (v : Value) (w : World) (hv : Value.okWide Tryz.prog w .any base 3 v) : ∃ n,v = .int .i64 n := by
 simp only [Value.okWide,Tryz.underlying3,Cell.okWide] at hv
 unfold Cell.ok at hv
 rw [Tryz.underlying3] at hv
 cases v <;> first | exact hv.elim | exact ⟨_,by rw [hv.1]⟩
end
end Go.Proofs.YtdieogcemmnaaaaGreatDoor

namespace Go.Proofs.YtdieogcemmnaaaaGreatDoor
open Go.RowKit Go.ChangeShapes Go.WideShapes Go.Deep RX
set_option maxRecDepth 100000
def okI (x : Int) : Prop := -9223372036854775808 ≤ x ∧ x ≤ 9223372036854775807
def HP.both (A B : HP) : HP := ⟨fun R h => A.p R h ∧ B.p R h,fun l l' ⟨a,b⟩ => ⟨A.mono l l' a,B.mono l l' b⟩⟩
structure Kind (α : Type) where
 n : Nat
 pos : 0 < n
 vals : α → List Value
 len : ∀ x,(vals x).length = n
 hp : α → HP
 pers : ∀ x R h h',(hp x).p R h → (hp x).p R h'
theorem Rd.impR {S T : HP} {a : Option Addr} {xs : List Value} (r : Rd T a xs) (h : ∀ R x,S.p R x → T.p R x) : Rd S a xs := fun w R x F s p => r w R x F s (h R x p)
section
variable {α : Type}
def Ls (K : Kind α) (a : Option Addr) (n : Nat) (l : List α) : HP :=
 ⟨fun R h => l.length = n ∧ (RoC K.n a n (l.flatMap K.vals)).p R h ∧ ∀ x ∈ l,(K.hp x).p R h,
  fun lR lh ⟨h0,h1,h2⟩ => ⟨h0,(RoC _ _ _ _).mono lR lh h1,fun x hx => (K.hp x).mono lR lh (h2 x hx)⟩⟩
theorem Ls.pers {K : Kind α} {a : Option Addr} {n : Nat} {l : List α} {R h : PH} (h' : PH) (H : (Ls K a n l).p R h) : (Ls K a n l).p R h' := ⟨H.1,H.2.1,fun x hx => K.pers x _ _ _ (H.2.2 x hx)⟩
theorem Ls.rd {K : Kind α} {a : Option Addr} {n : Nat} {l : List α} : Rd (Ls K a n l) a (l.flatMap K.vals) := Rd.impR (RoC.rd K.n a n (l.flatMap K.vals)) fun _ _ H => H.2.1
theorem flat_getL (f : α → List Value) (w : Nat) (hw : ∀ x,(f x).length = w) : ∀ (l : List α) (k j : Nat) (x : α),l[k]? = some x → j < w → (l.flatMap f)[k * w + j]? = (f x)[j]?
 | [],k,j,x,h,_ => by simp at h
 | y :: r,0,j,x,h,hj => by
  simp at h; subst h
  rw [List.flatMap_cons,Nat.zero_mul,Nat.zero_add,List.getElem?_append_left (by rw [hw]; exact hj)]
 | y :: r,k + 1,j,x,h,hj => by
  rw [List.flatMap_cons,List.getElem?_append_right (by rw [hw,Nat.succ_mul]; omega),hw,show (k + 1) * w + j - w = k * w + j by rw [Nat.succ_mul]; omega]
  exact flat_getL f w hw r k j x (by simpa using h) hj
theorem flat_lenL (f : α → List Value) (w : Nat) (hw : ∀ x,(f x).length = w) : ∀ l : List α,(l.flatMap f).length = l.length * w
 | [] => by simp
 | x :: l => by rw [List.flatMap_cons,List.length_append,hw,flat_lenL f w hw l,List.length_cons,Nat.succ_mul,Nat.add_comm]
theorem Ls.load {K : Kind α} {t : TypeId} {d : TypeDesc} (hd : Tryz.prog.underlying t = some d) (ha : aggT Tryz.prog t = true) (hz : szT Tryz.prog t = K.n) {a : Option Addr} {n : Nat} {l : List α} {k : Nat} {x : α} (hk : l[k]? = some x) :
  ORead Tryz.prog (loadS t (.pointer (a.map fun y => (y.add (k * K.n)).add 0))) (Ls K a n l) (.agg (K.vals x).toArray) := by
 refine loadN_ok (vs := K.vals x) hd ha (Ls.rd (K := K)) (k := k * K.n) (off := 0) (by rw [K.len]; exact hz) (by rw [K.len]; exact K.pos) fun j v hj => ?_
 have hlt : j < K.n := by
  have := (List.getElem?_eq_some_iff.1 hj).1
  rw [K.len] at this; exact this
 rw [Nat.add_zero,flat_getL K.vals K.n K.len l k j x hk hlt]
 exact hj
theorem Ls.load1 {K : Kind α} {t : TypeId} {d : TypeDesc} (hd : Tryz.prog.underlying t = some d) (ha : aggT Tryz.prog t = false) (hz : szT Tryz.prog t = 1) {a : Option Addr} {n : Nat} {l : List α} {k off : Nat} {x : α} {v : Value} (hk : l[k]? = some x) (hv : (K.vals x)[off]? = some v) :
  ORead Tryz.prog (loadS t (.pointer (a.map fun y => (y.add (k * K.n)).add off))) (Ls K a n l) v := by
 refine load1_ok hd ha hz (Ls.rd (K := K)) (k := k * K.n) (off := off) ?_
 have hlt : off < K.n := by
  have := (List.getElem?_eq_some_iff.1 hv).1
  rw [K.len] at this; exact this
 rw [flat_getL K.vals K.n K.len l k off x hk hlt]
 exact hv
end
section
variable {H : Type} {enc : TypeId × Value → H} {w : World} {α : Type}
theorem slice_of_trod [Inhabited α] (K : Kind α) {t e : TypeId} (hu : Tryz.prog.underlying t = some (.slice e)) (hn : Tryz.prog.cellsOf e = K.n) (hb : 1 ≤ Tryz.prog.bytesOf e)
  (el : ∀ {cs : List Value} {n : Nat} {x : DataW H × List MemPlace},DataW.trod enc Tryz.prog w 0 (fun _ => true) true n e cs = some x → Small Tryz.prog e x.1 → ∃ m : α,cs = K.vals m ∧ ∀ h,(K.hp m).p (allOf w) h)
  {fuel : Nat} {v : Value} {x : DataW H × List MemPlace} (h : DataW.trod enc Tryz.prog w 0 (fun _ => true) true fuel t [v] = some x) (hs : Small Tryz.prog t x.1) :
  ∃ (a : Option Addr) (l : List α) (c : Nat),v = .slice a l.length c ∧ l.length ≤ 140737488355328 ∧ ∀ h,(Ls K a l.length l).p (allOf w) h := by
 rcases open_slice hu h with ⟨hcs,_⟩ | ⟨a,len,cap,m,n,D,Pl,hcs,_,hl,hmax,hm,hxx,hx⟩
 ·simp at hcs
  subst hcs
  exact ⟨none,[],0,rfl,by simp,fun h => ⟨rfl,RoC.nil _ _ _ _,fun x hx => by cases hx⟩⟩
 ·simp at hcs
  subst hcs
  rw [hn] at hx
  have hlm : len ≤ m := by rw [hm]; simp only [if_true]; exact hl
  rw [hxx] at hs
  have hbl : len ≤ 140737488355328 := by
   have := hs.len hu
   unfold reachBytes at this
   simp at this
   have h2 : (len + (m - len)) * 1 ≤ (len + (m - len)) * Tryz.prog.bytesOf e := Nat.mul_le_mul_left _ hb
   omega
  have hx' : ∀ i,i < len → ∃ q : α,(∀ j,j < K.n → w.cell? (a.add (i * K.n + j)) = (K.vals q)[j]?) ∧ ∀ h,(K.hp q).p (allOf w) h := fun i hi => by
   obtain ⟨cs',h1,h2⟩ := hx i (by omega)
   obtain ⟨q,rfl,hr⟩ := el h2 (hs.elem hu (List.mem_map.2 ⟨i,List.mem_range.2 hi,rfl⟩))
   obtain ⟨_,_,hc⟩ := World.cells?_some h1
   refine ⟨q,fun j hj => ?_,hr⟩
   rw [← add_add,hc j hj]
  obtain ⟨ra,hra⟩ := choose_lt (p := fun i (q : α) => (∀ j,j < K.n → w.cell? (a.add (i * K.n + j)) = (K.vals q)[j]?) ∧ ∀ h,(K.hp q).p (allOf w) h) hx'
  have hlen : ((List.range len).map ra).length = len := by simp
  refine ⟨some a,(List.range len).map ra,cap,by rw [hlen],by rw [hlen]; exact hbl,fun h => ⟨rfl,?_,fun x hx => ?_⟩⟩
  ·rw [hlen]
   by_cases h0 : len = 0
   ·subst h0; exact RoC.nil _ _ _ _
   ·have hsp : a.spot = none := by
     have h1 := (hra 0 (by omega)).1 0 K.pos
     rw [Nat.zero_mul,Nat.add_zero,Addr.add_zero',List.getElem?_eq_getElem (by rw [K.len]; exact K.pos)] at h1
     exact spot_none h1
    obtain ⟨g,off,sp⟩ := a
    simp only at hsp
    subst hsp
    have hlen2 : (((List.range len).map ra).flatMap K.vals).length = len * K.n := by rw [flat_lenL K.vals K.n K.len,hlen]
    refine roC_of K.pos hlen2 fun i v hv => ?_
    have hi : i < len * K.n := by have := (List.getElem?_eq_some_iff.1 hv).1; rw [hlen2] at this; exact this
    have hk : i / K.n < len := Nat.div_lt_of_lt_mul (by rw [Nat.mul_comm]; exact hi)
    have hj : i % K.n < K.n := Nat.mod_lt _ K.pos
    have e : i = (i / K.n) * K.n + i % K.n := by rw [Nat.mul_comm]; exact (Nat.div_add_mod i K.n).symm
    have hg : ((List.range len).map ra)[i / K.n]? = some (ra (i / K.n)) := by simp [hk]
    have h1 := flat_getL K.vals K.n K.len _ (i / K.n) (i % K.n) _ hg hj
    rw [← e] at h1
    have h2 := (hra (i / K.n) hk).1 (i % K.n) hj
    rw [← e] at h2
    rw [h1] at hv
    rw [hv] at h2
    exact (addr_plain h2).2.1
  ·obtain ⟨i,hi,rfl⟩ := List.mem_map.1 hx
   exact (hra i (List.mem_range.1 hi)).2 h
theorem slice_open [Inhabited α] (K : Kind α) {t e : TypeId} (hu : Tryz.prog.underlying t = some (.slice e)) (hn : Tryz.prog.cellsOf e = K.n) (hb : 1 ≤ Tryz.prog.bytesOf e)
  (el : ∀ {cs : List Value} {n : Nat} {x : DataW H × List MemPlace},DataW.trod enc Tryz.prog w 0 (fun _ => true) true n e cs = some x → Small Tryz.prog e x.1 → ∃ m : α,cs = K.vals m ∧ ∀ h,(K.hp m).p (allOf w) h)
  {base : Nat} {v : Value} (hv : Value.okWide Tryz.prog w .any base t v) (h : ∃ d p,DataW.Trod enc Tryz.prog w 0 (fun _ => true) true t v d p ∧ Small Tryz.prog t d) :
  ∃ (a : Option Addr) (l : List α) (c : Nat),v = .slice a l.length c ∧ l.length ≤ 140737488355328 ∧ ∀ h,(Ls K a l.length l).p (allOf w) h := by
 obtain ⟨b,len,cap,rfl⟩ := okWide_slice hu hv
 obtain ⟨d,p,⟨fuel,hf⟩,hsm⟩ := h
 exact slice_of_trod K hu hn hb el hf hsm
theorem field_str {t : TypeId} {cs : List Value} {n i c : Nat} {xs : List (DataW H × List MemPlace)} {j : Nat} (hu : Tryz.prog.underlying t = some .string) (hj : j < xs.length) (hc : c = 1)
  (h : DataW.trod enc Tryz.prog w 0 (fun _ => true) true n t ((cs.drop i).take c) = xs[j]?) : ∃ x : List UInt8,cs[i]? = some (.string ⟨x.toArray⟩) ∧ x.length ≤ 9223372036854775807 := by
 subst hc
 rw [List.getElem?_eq_getElem hj] at h
 obtain ⟨s,h1,_,h2⟩ := DataW.trod_string hu h
 refine ⟨s.data.toList,by rw [take1 h1],?_⟩
 exact Nat.le_trans (Nat.le_of_eq (Array.length_toList)) h2
theorem int_wf {x : Int} (h : (Lit.int IntKind.i64 x).wf = true) : okI x := by
 have h2 : (decide (IntKind.i64.min ≤ x) && decide (x ≤ IntKind.i64.max)) = true := h
 rw [Bool.and_eq_true] at h2
 exact ⟨of_decide_eq_true h2.1,of_decide_eq_true h2.2⟩
theorem int_openR {base : Nat} {v : Value} (hv : Value.okWide Tryz.prog w .any base 3 v) (h : ∃ d p,DataW.Trod enc Tryz.prog w 0 (fun _ => true) true 3 v d p ∧ Small Tryz.prog 3 d) : ∃ n,v = .int .i64 n ∧ okI n := by
 obtain ⟨n,rfl⟩ := int_open enc base v w hv
 obtain ⟨d,p,⟨fuel,hf⟩,_⟩ := h
 obtain ⟨x,hx,_,hw⟩ := DataW.trod_int Tryz.underlying3 hf
 simp [Value.cells] at hx
 subst hx
 exact ⟨n,rfl,int_wf hw⟩
end
end Go.Proofs.YtdieogcemmnaaaaGreatDoor

namespace Go.Proofs.YtdieogcemmnaaaaGreatDoor
open Go.Proofs.YtdieogcemmnaaaaGreatDoor RX
structure PK (α : Type) where
 e : TypeId
 n : Nat
 pos : 0 < n
 vals : α → List Value
 len : ∀ x,(vals x).length = n
 one : ∀ x,∀ u ∈ vals x,u.oneCell' = true
 rep : α → HP
section
variable {α : Type} (K : PK α)
def PL (a : Option Addr) (n c : Nat) (l : List α) : HP := HP.and (l.length = n) (HP.sep (OwC K.e K.n a n c (l.flatMap K.vals)) (sepN (l.map K.rep)))
variable {K}
theorem PL.isAt {a : Option Addr} {n c : Nat} {l : List α} {R h : PH} (H : (PL K a n c l).p R h) (hn : n ≠ 0) : a.isSome = true := OwC.some (HP.sep_left H.2) (by omega)
theorem PL.len {a : Option Addr} {n c : Nat} {l : List α} {R h : PH} (H : (PL K a n c l).p R h) : l.length = n := H.1
theorem PL.zero (x : Nat) {R h : PH} (H : (HP.one x (.cells #[] K.e (0,0))).p R h) : (PL K (some ⟨x,0,none⟩) 0 0 []).p R h :=
 ⟨rfl,HP.sep_tt ⟨by simp,.inr ⟨x,#[],rfl,H,Nat.le_refl _,by unfold maxLen; omega,by simp,by simp⟩⟩⟩
theorem PL.lit (x : Nat) (l : List α) (hb : l.length ≤ 1000) {R h : PH} (H : (HP.sep (HP.one x (.cells (l.flatMap K.vals).toArray K.e (0,0))) (sepN (l.map K.rep))).p R h) : (PL K (some ⟨x,0,none⟩) l.length l.length l).p R h := by
 refine ⟨rfl,HP.sep_mono H (fun y hy => ⟨flat_lenL K.vals K.n K.len l,.inr ⟨x,_,rfl,hy,Nat.le_refl _,by unfold maxLen; omega,?_,?_⟩⟩) fun _ h => h⟩
 ·rw [List.size_toArray]; exact flat_lenL K.vals K.n K.len l
 ·show (l.flatMap K.vals).take _ = _
  rw [← flat_lenL K.vals K.n K.len l,List.take_length]
theorem PL.app (t ty : TypeId) {i : TypeInfo} {z : Value} (ht : Tryz.prog.underlying t = some (.slice K.e)) (hi : Tryz.prog.info? K.e = some i) (hz : i.zero = some z) (hzs : z.cells.size = i.size) (hs : i.size = K.n) (hby : i.bytes ≤ 1000)
  (a : Option Addr) (n c : Nat) (l : List α) (b : Nat) (x : α) (Q : HP) (hb : n ≤ 1000000000) :
  OTri Tryz.prog (appS t ty (.slice a n c) (.slice (some ⟨b,0,none⟩) 1 1)) (HP.sep (PL K a n c l) (HP.sep (HP.one b (.cells (K.vals x).toArray K.e (0,0))) (HP.sep (K.rep x) Q)))
   (fun v => HP.ex fun a' => HP.ex fun c' => HP.and (v = .slice a' (n + 1) c') (HP.sep (PL K a' (n + 1) c' (l ++ [x])) Q)) := by
 have hr := one_rd b (K.vals x).toArray K.e
 have hbn : (n + 1) * i.bytes ≤ 140737488355328 := by
  have := Nat.mul_le_mul (show n + 1 ≤ 1000000001 by omega) hby
  omega
 have := append_ok t ty K.e i z ht hi hz hzs (by rw [hs]; exact K.pos) a n c (l.flatMap K.vals) (HP.one b (.cells (K.vals x).toArray K.e (0,0))) ⟨b,0,none⟩ 1 1 (K.vals x) (by simpa using hr) (by rw [K.len,hs,Nat.one_mul]) (K.one x) (by unfold maxLen; omega) hbn
 rw [hs] at this
 refine OTri.fact (φ := l.length = n) (fun R h H => (HP.sep_left H).1) fun hl => ?_
 refine (this.frame (HP.sep (sepN (l.map K.rep)) (HP.sep (K.rep x) Q))).weak (fun R h H => ?_) ?_
 ·have H1 := HP.sep_assoc (HP.sep_mono H (fun _ h => h.2) fun _ h => h)
  exact HP.sep_assoc' (HP.pick [_,_,_,_,_] [0,2,1,3,4] (by decide) rfl H1)
 ·rintro v R h ⟨h1,h2,d,l1,l2,⟨a',c',rfl,H⟩,HU⟩
  refine ⟨a',c',rfl,?_⟩
  have H1 := HP.sep_assoc ⟨h1,h2,d,l1,l2,H,HU⟩
  have H2 : (HP.sep (OwC K.e K.n a' (n + 1) c' (l.flatMap K.vals ++ K.vals x)) (HP.sep (sepN (l.map K.rep)) (HP.sep (K.rep x) Q))).p R h := HP.sep_mono H1 (fun _ h => h) fun y hy => HP.sep_right hy
  have e : (l ++ [x]).map K.rep = l.map K.rep ++ [K.rep x] := by simp
  have H3 : (HP.sep (OwC K.e K.n a' (n + 1) c' (l.flatMap K.vals ++ K.vals x)) (HP.sep (sepN ((l ++ [x]).map K.rep)) Q)).p R h := HP.sep_mono H2 (fun _ h => h) fun y hy => by
   have := HP.sep_assoc' hy
   rw [e]
   exact HP.sep_mono this (fun z hz => (sepN_app (l := l.map K.rep) (m := [K.rep x])).2 hz) fun _ h => h
  have H4 := HP.sep_assoc' H3
  refine HP.sep_mono H4 (fun y hy => ⟨by simp [hl],?_⟩) fun _ h => h
  have e2 : (l ++ [x]).flatMap K.vals = l.flatMap K.vals ++ K.vals x := by simp
  rw [e2]
  exact hy
theorem PL.rd (a : Option Addr) (n c : Nat) (l : List α) : Rd (PL K a n c l) a (l.flatMap K.vals) := Rd.impR (Rd.left (B := sepN (l.map K.rep)) (OwC.rd K.e K.n a n c (l.flatMap K.vals))) fun R h H => H.2
end
end Go.Proofs.YtdieogcemmnaaaaGreatDoor

namespace Go.Proofs.YtdieogcemmnaaaaGreatDoor
set_option linter.unusedSimpArgs false
set_option linter.unusedVariables false
open Go.Proofs.YtdieogcemmnaaaaGreatDoor RX
set_option maxRecDepth 100000
variable {b : Nat} {t : TS}
def entV (x : Nm × Nat) : List Value := [sE x.1,.int .i64 x.2]
def kEnt : Kind (Nm × Nat) where
 n := 2
 pos := by decide
 vals := entV
 len _ := rfl
 hp _ := HP.tt
 pers _ _ _ _ h := h
def kEntP : PK (Nm × Nat) where
 e := 140
 n := 2
 pos := by decide
 vals := entV
 len _ := rfl
 one x u hu := by
  simp only [entV,List.mem_cons,List.not_mem_nil,or_false] at hu
  rcases hu with rfl | rfl <;> rfl
 rep _ := HP.tt
structure NodeE where
 nd : Nd
 da : Option Addr
 dc : Nat
 ea : Option Addr
 ec : Nat
instance : Inhabited NodeE := ⟨⟨⟨0,0,0,[],[]⟩,none,0,none,0⟩⟩
def nodeVs (x : NodeE) : List Value := [.int .i64 x.nd.num,.int .i64 x.nd.kind,.int .i64 x.nd.links,.slice x.da x.nd.data.length x.dc,.slice x.ea x.nd.ents.length x.ec]
def nodeHp (x : NodeE) : HP := HP.both (RoB x.da x.nd.data.length x.nd.data) (Ls kEnt x.ea x.nd.ents.length x.nd.ents)
theorem nodeHp_pers (x : NodeE) (R h h' : PH) (H : (nodeHp x).p R h) : (nodeHp x).p R h' := ⟨H.1,Ls.pers h' H.2⟩
def kNode : Kind NodeE where
 n := 5
 pos := by decide
 vals := nodeVs
 len _ := rfl
 hp := nodeHp
 pers := nodeHp_pers
def kNodeP : PK NodeE where
 e := 43
 n := 5
 pos := by decide
 vals := nodeVs
 len _ := rfl
 one x u hu := by
  simp only [nodeVs,List.mem_cons,List.not_mem_nil,or_false] at hu
  rcases hu with rfl | rfl | rfl | rfl | rfl <;> rfl
 rep := nodeHp
def NodesR (a : Option Addr) (n : Nat) (L : List Nd) : HP := HP.ex fun es : List NodeE => HP.and (es.map (·.nd) = L) (Ls kNode a n es)
theorem OTri.pre3 {P : Program} {o : Sem Next} {A A' : HP} {B : Value → HP} (t : OTri P o A B) (e : HP.ent A' A) : OTri P o A' B := t.conseq (K := HP.tt) (e.trans (.of fun _ _ H => HP.sep_tt H)) fun _ => .of fun _ _ H => HP.sep_left H
theorem infoEnt : (Tryz.prog.info? 140).map (fun i => (i.zero.map (·.cells.size),i.size,i.bytes)) = some (some 2,2,24) := by kernel_rfl
theorem infoNd : (Tryz.prog.info? 43).map (fun i => (i.zero.map (·.cells.size),i.size,i.bytes)) = some (some 5,5,72) := by kernel_rfl
theorem undEs : Tryz.prog.underlying 41 = some (.slice 140) := by kernel_rfl
theorem undNs : Tryz.prog.underlying 36 = some (.slice 43) := by kernel_rfl
theorem info_pz {t : TypeId} {n k m : Nat} (h : (Tryz.prog.info? t).map (fun i => (i.zero.map (·.cells.size),i.size,i.bytes)) = some (some n,k,m)) : ∃ i z,Tryz.prog.info? t = some i ∧ i.zero = some z ∧ z.cells.size = n ∧ i.size = k ∧ i.bytes = m := by
 obtain ⟨i,h1,h2⟩ := Option.map_eq_some_iff.1 h
 injection h2 with h2 h3
 injection h3 with h3 h4
 obtain ⟨z,h5,h6⟩ := Option.map_eq_some_iff.1 h2
 exact ⟨i,z,h1,h5,h6,h3,h4⟩
theorem appEnt (a : Option Addr) (n c : Nat) (l : List (Nm × Nat)) (q : Nat) (x : Nm × Nat) (Q : HP) (hb : n ≤ 1000000000) :
  OTri Tryz.prog (appS 41 41 (.slice a n c) (.slice (some ⟨q,0,none⟩) 1 1)) (HP.sep (PL kEntP a n c l) (HP.sep (HP.one q (.cells #[sE x.1,.int .i64 x.2] 140 (0,0))) (HP.sep HP.tt Q)))
   (fun v => HP.ex fun a' => HP.ex fun c' => HP.and (v = .slice a' (n + 1) c') (HP.sep (PL kEntP a' (n + 1) c' (l ++ [x])) Q)) := by
 obtain ⟨i,z,hi,h1,h2,h3,h4⟩ := info_pz infoEnt
 exact PL.app (K := kEntP) _ _ undEs hi h1 (by rw [h2,h3]) h3 (by rw [h4]; decide) a n c l q x Q hb
theorem appNode (a : Option Addr) (n c : Nat) (l : List NodeE) (q : Nat) (x : NodeE) (Q : HP) (hb : n ≤ 1000000000) :
  OTri Tryz.prog (appS 36 36 (.slice a n c) (.slice (some ⟨q,0,none⟩) 1 1)) (HP.sep (PL kNodeP a n c l) (HP.sep (HP.one q (.cells (nodeVs x).toArray 43 (0,0))) (HP.sep (nodeHp x) Q)))
   (fun v => HP.ex fun a' => HP.ex fun c' => HP.and (v = .slice a' (n + 1) c') (HP.sep (PL kNodeP a' (n + 1) c' (l ++ [x])) Q)) := by
 obtain ⟨i,z,hi,h1,h2,h3,h4⟩ := info_pz infoNd
 exact PL.app (K := kNodeP) _ _ undNs hi h1 (by rw [h2,h3]) h3 (by rw [h4]; decide) a n c l q x Q hb
theorem loadInt {S : HP} {a : Option Addr} {l : List Int} {k : Nat} {x : Int} (r : Rd S a (l.map i64v)) (hk : l[k]? = some x) :
  ORead Tryz.prog (loadS 3 (.pointer (a.map fun y => (y.add (k * 1)).add 0))) S (.int .i64 x) :=
 load1_ok undIb aggI szI r (k := k * 1) (off := 0) (by simp [hk,i64v])
theorem HP.ent2 {A A' C C' : HP} (h1 : HP.ent A A') (h2 : HP.ent C C') : HP.ent (HP.sep A C) (HP.sep A' C') :=
 (HP.ent.sep h1 C).trans ((HP.ent.of fun _ _ H => HP.sep_comm H).trans ((HP.ent.sep h2 A').trans (.of fun _ _ H => HP.sep_comm H)))
theorem shareEnt (a : Option Addr) (n c : Nat) (l : List (Nm × Nat)) : HP.ent (PL kEntP a n c l) (Ls kEnt a n l) := fun R h d H => by
 obtain ⟨R1,h1,q1,q2,q3,q4,H1⟩ := OwC.share _ _ _ _ _ _ R h d (HP.sep_left H.2)
 exact ⟨R1,h1,q1,q2,q3,q4,H.1,H1,fun _ _ => trivial⟩
theorem shareNode (a : Option Addr) (n c : Nat) (l : List NodeE) : HP.ent (PL kNodeP a n c l) (Ls kNode a n l) := fun R h d H => by
 obtain ⟨R1,h1,q1,q2,q3,q4,H1⟩ := OwC.share _ _ _ _ _ _ R h d (HP.sep_left H.2)
 exact ⟨R1,h1,q1,q2,q3,q4,H.1,H1,fun x hx => nodeHp_pers x R1 h h1 ((nodeHp x).mono q1 (PH.le.refl _) (sepN_mem (List.mem_map.2 ⟨x,hx,rfl⟩) (HP.sep_right H.2)))⟩
theorem lk_of_mem : ∀ {l : List (Nm × Nat)} {e : Nm × Nat},(l.map (·.1)).Nodup → e ∈ l → lk l e.1 = some e.2
 | [],_,_,h => by cases h
 | y :: r,e,hn,h => by
  rw [List.map_cons,List.nodup_cons] at hn
  unfold lk
  rcases List.mem_cons.1 h with rfl | h
  ·simp
  ·rw [if_neg (fun q => hn.1 (by rw [← q]; exact List.mem_map.2 ⟨e,h,rfl⟩))]
   exact lk_of_mem hn.2 h
set_option maxHeartbeats 4000000 in
theorem tNodes_ok {B : Nat} (hB : B ≤ 100000) (wf : TWf B t.pub) : Tri Tryz.prog 19 #[.pointer (some ⟨b,0,none⟩)] (TRep b t)
  (fun v => HP.ex fun a => HP.ex fun c => HP.and (v = .slice a t.pub.length c) (HP.sep (NodesR a t.pub.length t.pub) (TRep b t))) := by
 have own : Tri Tryz.prog 19 #[.pointer (some ⟨b,0,none⟩)] (TRep b t)
  (fun v => HP.ex fun a => HP.ex fun c => HP.ex fun es : List NodeE => HP.and (es.map (·.nd) = t.pub ∧ v = .slice a t.pub.length c) (HP.sep (PL kNodeP a t.pub.length c es) (TRep b t))) := by
  refine tri_of_tree (ρ := [.n b,.p (TRep b t)]) mixed Tryz.func19 tree_tNodes ?_
  unfold t_tNodes
  simp only [T.den,E.prop,E.den,RX.look,F1.app,F2.app,Uni.int_i,Uni.nat_n,Uni.bool_c,Uni.str_s,Uni.adr_a,Uni.val_v,Uni.hp_p,hden,cden,V.den,W.den,A.den,BR.den,SA.den,FV.den,capV,exs,exP,allP,Cur.app,List.map_cons,List.map_nil,List.cons_append,List.nil_append,List.drop_succ_cons,List.drop_zero,List.length_cons,List.length_nil,Nat.zero_add,Nat.reduceAdd,Int.neg_neg,Bool.not_not,List.append_nil,Nat.add_zero,List.getElem?_cons_zero,List.getElem?_cons_succ,Decidable.not_not,semW_eq,semW_load,semW_append,semW_lookup,semW_lookupC,semW_nil,ne_eq,Nat.reduceEqDiff,not_false_eq_true]
  have hlen64 := wf.few
  have hlen : t.pub.length = t.ns.length := by unfold TS.pub; rw [List.length_map]
  refine ⟨t.mb,ldNodes,?_⟩
  refine (keysI_ok (some t.mb) (TRep b t)).weak (fun _ _ h => h) ?_
  rintro v R h ⟨kx,rfl,H⟩
  refine ⟨.func (.func 135) #[] #[.pointer (some ⟨kx,0,none⟩)],KBoxI kx (some t.mb),rfl,?_,H⟩
  clear H
  refine (sortedNodes wf kx).weak (fun _ _ h => h) ?_
  rintro v R h ⟨a5,c5,rfl,H⟩
  have h5 : t.ns.length ≠ 0 → a5.isSome = true := fun h => OwC.some (HP.sep_left H) (by omega)
  refine ⟨a5,t.ns.length,c5,_,rfl,?_,H⟩
  clear H
  have rd5 : RdL (OwI a5 t.ns.length c5 (t.ns.map fun x => (x.p.num : Int))) a5 t.ns.length ((t.ns.map fun x => (x.p.num : Int)).map i64v) := RdL.ow _ _ _ _ _ _
  refine ⟨fun a n c P i => ∃ k : Nat,i = k ∧ k ≤ t.ns.length ∧ n = k ∧ ∃ es : List NodeE,es.map (·.nd) = t.pub.take k ∧ HP.ent P (PL kNodeP a n c es),fun _ _ _ _ i => t.ns.length - i.toNat,
   ⟨0,rfl,Nat.zero_le _,rfl,[],by simp,.of fun R h H => ⟨rfl,HP.sep_mono (HP.tt_sep H) (fun _ _ => OwC.nil _ _ _ _) fun _ _ => trivial⟩⟩,?_⟩
  rintro a k c P _ ⟨_,rfl,hk,rfl,es,hes,hP⟩
  refine ⟨fun hlt => ⟨by omega,fun _ => ⟨h5 (by omega),fun _ => ?_⟩⟩,fun hge => ?_⟩
  ·have hkl : k < t.ns.length := by omega
   have hxm : t.ns[k] ∈ t.ns := List.getElem_mem hkl
   obtain ⟨x,hx⟩ : ∃ x,t.ns[k] = x := ⟨_,rfl⟩
   rw [hx] at hxm
   have hki : t.ns[k]? = some x := by rw [List.getElem?_eq_getElem hkl,hx]
   have hxa : nodeAt t.pub x.p.num = some x.p := mem_nodeAt wf.nd (by unfold TS.pub; exact List.mem_map.2 ⟨x,hxm,rfl⟩)
   have hlk := lkNode (b := b) (t := t) x.p.num
   obtain ⟨y,i,hi,hyp,hyn,hyh,-,hym⟩ := hnIdx hxa
   have hnn : (x.p.num : Int) = y.p.num := by rw [hyn]
   rw [hyh] at hlk
   have hyg := wf.good _ (wf.at' hxa).2.2
   rw [← hyp] at hyg
   have hnum : ((t.ns.map fun x => (x.p.num : Int)))[k]? = some (x.p.num : Int) := by rw [List.getElem?_map,hki]; rfl
   refine ⟨x.p.num,loadInt rd5.rd hnum,t.mb,ldNodes,.pointer (some ⟨y.nb,0,none⟩),hlk,?_⟩
   refine ⟨fun q num kind links da dl dc ea el ec PE PD => num = y.p.num ∧ kind = y.p.kind ∧ links = y.p.links ∧ dl = y.p.data.length ∧ el = 0 ∧ HP.ent PE (PL kEntP ea 0 ec []) ∧ HP.ent PD (OwB da y.p.data.length dc y.p.data),?_,?_⟩
   ·refine ⟨y.nb,nilChk',y.p.kind,ldKind hym,y.nb,nilChk',y.p.links,ldLinks hym,y.nb,nilChk',y.da,y.p.data.length,y.dc,ldData hym,?_,fun q => ?_⟩
    ·refine (clone8_ok _ _ _ y.dc _ (rdData hym) rfl (by have := hyg.data; omega)).weak (fun _ _ h => h) ?_
     rintro v R h ⟨a',c',rfl,H⟩
     refine ⟨a',y.p.data.length,c',OwB a' y.p.data.length c' y.p.data,rfl,⟨fun q => ?_,fun q => ?_⟩,H⟩
     ·exact ⟨hnn,rfl,rfl,rfl,rfl,.of fun R h H => ⟨rfl,HP.sep_mono (HP.tt_sep H) (fun _ _ => OwC.nil _ _ _ _) fun _ _ => trivial⟩,.of fun _ _ h => h⟩
     ·exact ⟨hnn,rfl,rfl,rfl,rfl,.of fun R h H => ⟨rfl,HP.sep_mono (HP.tt_sep H) (fun _ _ => OwC.nil _ _ _ _) fun _ _ => trivial⟩,.of fun _ _ h => h⟩
    ·refine (clone8_ok _ _ _ y.dc _ (rdData hym) rfl (by have := hyg.data; omega)).weak (fun _ _ h => h) ?_
     rintro v R h ⟨a',c',rfl,H⟩
     refine ⟨a',y.p.data.length,c',OwB a' y.p.data.length c' y.p.data,rfl,?_,H⟩
     exact ⟨hnn,rfl,rfl,rfl,rfl,.of fun R h H => ⟨rfl,HP.sep_mono (HP.tt_sep H) (fun _ _ => OwC.nil _ _ _ _) fun _ _ => trivial⟩,.of fun _ _ h => h⟩
   rintro q num kind links da dl dc ea el ec PE PD ⟨rfl,rfl,rfl,rfl,rfl,hPE,hPD⟩
   refine ⟨y.nb,nilChk',.map y.mapo,ldEnts hym,?_⟩
   refine (keysS_ok y.mapo (TRep b t)).weak (fun _ _ h => h) ?_
   rintro v R h ⟨ks,rfl,H⟩
   refine ⟨.func (.func 138) #[] #[.pointer (some ⟨ks,0,none⟩)],KBoxS ks y.mapo,rfl,?_,H⟩
   clear H
   refine (sortedEnts hym hyg hB ks).weak (fun _ _ h => h) ?_
   rintro v R h ⟨a33,c33,rfl,H⟩
   have h33 : y.p.ents.length ≠ 0 → a33.isSome = true := fun h => OwC.some (HP.sep_left H) (by omega)
   refine ⟨a33,y.p.ents.length,c33,_,rfl,?_,H⟩
   clear H
   have rd33 : RdL (OwS a33 y.p.ents.length c33 (y.p.ents.map (·.1))) a33 y.p.ents.length ((y.p.ents.map (·.1)).map sE) := RdL.ow _ _ _ _ _ _
   refine ⟨fun i a n c P => ∃ j : Nat,i = j ∧ j ≤ y.p.ents.length ∧ n = j ∧ HP.ent P (PL kEntP a j c (y.p.ents.take j)),fun i _ _ _ _ => y.p.ents.length - i.toNat,⟨0,rfl,Nat.zero_le _,rfl,hPE⟩,?_⟩
   rintro _ ea j ec PE2 ⟨_,rfl,hj,rfl,hPE2⟩
   refine ⟨fun hlt2 => ⟨by omega,fun _ => ⟨h33 (by omega),fun _ => ?_⟩⟩,fun hge2 q => ?_⟩
   ·have hjl : j < y.p.ents.length := by omega
    have hem : y.p.ents[j] ∈ y.p.ents := List.getElem_mem hjl
    obtain ⟨e,hej⟩ : ∃ e,y.p.ents[j] = e := ⟨_,rfl⟩
    rw [hej] at hem
    have hek : y.p.ents[j]? = some e := by rw [List.getElem?_eq_getElem hjl,hej]
    have hkd : y.p.kind = 1 := by
     rcases hyg.kind with ⟨h,_⟩ | ⟨_,h⟩
     ·exact h
     ·rw [h] at hem; cases hem
    have hmo : y.mapo = some y.mb := by unfold HN.mapo; rw [if_pos hkd]
    have he := ldEnts (b := b) hym
    rw [hmo] at he
    have hl := lkEnt1 (b := b) hym hkd e.1
    rw [lk_of_mem (nodupE hyg.sort) hem] at hl
    refine ⟨e.1,loadStr rd33.rd (by rw [List.getElem?_map,Int.toNat_natCast,hek]; rfl),y.nb,nilChk',.map (some y.mb),he,e.2,hl,fun q => ?_⟩
    refine OTri.pre3 ((appEnt ea j ec (y.p.ents.take j) q e HP.tt (by have := hyg.efew; omega)).weak (fun _ _ h => h) ?_) ((HP.ent.sep hPE2 _).trans (.of fun R h H => HP.sep_mono H (fun _ h => h) fun z hz => HP.sep_tt (HP.sep_tt hz) |> fun H => HP.sep_assoc H))
    rintro v R h ⟨a',c',rfl,H⟩
    refine ⟨a',j + 1,c',_,rfl,⟨inI64' _ (by omega) (by have := hyg.efew; omega),fun _ => ⟨⟨j + 1,by omega,by omega,rfl,?_⟩,by dsimp only; omega⟩⟩,HP.sep_left H⟩
    rw [List.take_add_one,hek]
    exact .of fun _ _ h => h
   ·obtain rfl : j = y.p.ents.length := by omega
    rw [List.take_length] at hPE2
    have hk64 : t.ns.length ≤ 1000000 := by have := hlen64; omega
    refine OTri.pre3 ((appNode a k c es q ⟨y.p,da,dc,ea,ec⟩ HP.tt (by omega)).weak (fun _ _ h => h) ?_) (HP.ent2 hP (HP.ent2 (.of fun _ _ h => h) ((HP.ent2 (hPD.trans (OwC.share _ _ _ _ _ _)) (hPE2.trans (shareEnt _ _ _ _))).trans (.of fun R h H => HP.sep_tt ⟨HP.sep_left H,HP.sep_right H⟩))))
    rintro v R h ⟨a',c',rfl,H⟩
    refine ⟨a',k + 1,c',_,rfl,⟨inI64' _ (by omega) (by omega),fun _ => ⟨⟨k + 1,by omega,by omega,rfl,es ++ [⟨y.p,da,dc,ea,ec⟩],?_,.of fun _ _ h => h⟩,by dsimp only; omega⟩⟩,HP.sep_left H⟩
    rw [List.map_append,hes,List.take_add_one]
    have : t.pub[k]? = some x.p := by unfold TS.pub; rw [List.getElem?_map,hki]; rfl
    rw [this,← hyp]; rfl
  ·obtain rfl : k = t.ns.length := by omega
   rw [hlen]
   refine (HP.ent2 (.of fun _ _ h => h) hP).trans (.of fun R h H => ⟨a,c,es,⟨by rw [hes,← hlen,List.take_length],rfl⟩,HP.sep_comm H⟩)
 exact own.post fun v => fun R h d ⟨a',c',es,⟨e1,e2⟩,H⟩ => by
  obtain ⟨R1,h1,q1,q2,q3,q4,H1⟩ := (HP.ent.sep (shareNode _ _ _ _) (TRep b t)) R h d H
  exact ⟨R1,h1,q1,q2,q3,q4,a',c',e2,HP.sep_mono H1 (fun _ h => ⟨es,e1,h⟩) fun _ h => h⟩
end Go.Proofs.YtdieogcemmnaaaaGreatDoor

namespace Go.Proofs.YtdieogcemmnaaaaGreatDoor
set_option linter.unusedSimpArgs false
set_option linter.unusedVariables false
open Go.Proofs.YtdieogcemmnaaaaGreatDoor RX
set_option maxRecDepth 100000
def cnvS (s d : TypeId) (u : Value) : Sem Next := do pure (.value (← convert s d u))
theorem semW_cnv {s d ty : TypeId} {i : Nat} {u : Value} : semW (.convert s d (.tmp i)) ty [(i,u)] = cnvS s d u := by simp [semW,execOp,arW,cnvS]
theorem strB1 (l : List UInt8) (A : HP) : OTri Tryz.prog (cnvS 9 28 (sE l)) A (fun v => HP.ex fun x => HP.ex fun c => HP.ex fun C : Array Value => HP.and (v = .slice (some ⟨x,0,none⟩) l.length c ∧ l.length ≤ c ∧ C.toList.take l.length = l.map u8v)
  (HP.sep (HP.one x (.cells C 5 (C.size,C.size + 1))) A)) := fun w R h F s a => by
 have hr := run_bytes_of_string (P := Tryz.prog) w 9 28 5 ⟨l.toArray⟩ undStr und8 und8b
 have hz : (⟨l.toArray⟩ : ByteArray).size = l.length := by simp [ByteArray.size]
 rw [hz] at hr
 have s0 : Sat w.drew R h F := s.drew _
 obtain ⟨s1,d1⟩ := s0.alloc (.cells (bytesRow ⟨l.toArray⟩ (grownCap w l.length 0 5)) 5 ((bytesRow ⟨l.toArray⟩ (grownCap w l.length 0 5)).size,(bytesRow ⟨l.toArray⟩ (grownCap w l.length 0 5)).size + 1))
 have hc1 := grownCap_ge w l.length 0 5
 have hsame : Same w (w.drew.alloc (.cells (bytesRow ⟨l.toArray⟩ (grownCap w l.length 0 5)) 5 ((bytesRow ⟨l.toArray⟩ (grownCap w l.length 0 5)).size,(bytesRow ⟨l.toArray⟩ (grownCap w l.length 0 5)).size + 1))) := Same.trans (b := w.drew) ⟨rfl,rfl,rfl,Nat.le_refl _⟩ (Same.alloc w.drew _)
 refine ⟨_,_,_,by unfold cnvS sE; rw [Sem.run_bind,hr]; rfl,rfl,hsame,R,_,PH.le.refl _,s1,w.heap.size,_,bytesRow ⟨l.toArray⟩ (grownCap w l.length 0 5),⟨rfl,hc1,?_⟩,_,_,d1,PH.un_left _ _,PH.un_right d1,PH.one_self _ _,a⟩
 simp [bytesRow,u8v]
theorem strB_ok (l : List UInt8) (A : HP) : OTri Tryz.prog (cnvS 9 28 (sE l)) A (fun v => HP.ex fun x => HP.ex fun c => HP.and (v = .slice (some ⟨x,0,none⟩) l.length c ∧ l.length ≤ c) (HP.sep (RoB (some ⟨x,0,none⟩) l.length l) A)) :=
 (strB1 l A).post fun v R h d ⟨x,c,C,⟨e,hc,ht⟩,H⟩ => by
  obtain ⟨R1,h1,q1,q2,q3,q4,H1⟩ := (HP.ent.sep (HP.ent.share _ _) A) R h d H
  refine ⟨R1,h1,q1,q2,q3,q4,x,c,⟨e,hc⟩,HP.sep_mono H1 (fun y hy => ⟨by simp,fun _ => ⟨x,0,C,_,_,rfl,hy,?_⟩⟩) fun _ h => h⟩
  rw [List.drop_zero,List.length_map]; exact ht
def byteI (k : Int) : UInt8 := UInt8.ofNat (IntKind.u8.wrap k).toNat
theorem byteI_val (k : Int) : ((byteI k).toNat : Int) = IntKind.u8.wrap k := by
 have h1 : 0 ≤ IntKind.u8.wrap k ∧ IntKind.u8.wrap k < 256 := by
  simp only [IntKind.wrap,IntKind.bits,IntKind.signed,Bool.false_and,Bool.false_eq_true,if_false]; omega
 unfold byteI
 rw [UInt8.toNat_ofNat']
 omega
def linksN (k : Int) : Nat := (IntKind.u64.wrap k).toNat
theorem linksN_val (k : Int) : ((linksN k : Nat) : Int) = IntKind.u64.wrap k := by
 have h1 : 0 ≤ IntKind.u64.wrap k := by
  simp only [IntKind.wrap,IntKind.bits,IntKind.signed,Bool.false_and,Bool.false_eq_true,if_false]; omega
 unfold linksN; omega
end Go.Proofs.YtdieogcemmnaaaaGreatDoor

namespace Go.Proofs.YtdieogcemmnaaaaGreatDoor.RX
set_option maxRecDepth 100000
-- (*tideline/octet.Reader).turns$1: ρ := [.v yield,.p yieldP,.n n,.i n,.n r,.n r,.p rP]
end Go.Proofs.YtdieogcemmnaaaaGreatDoor.RX

namespace Go.Proofs.YtdieogcemmnaaaaGreatDoor
set_option linter.unusedSimpArgs false
set_option linter.unusedVariables false
open Go.Proofs.YtdieogcemmnaaaaGreatDoor RX
set_option maxRecDepth 100000
abbrev RS := List UInt8 × Bool
theorem convW6 {i : Nat} {S : HP} {a : Option Addr} {n c : Nat} {l : List UInt8} (hr : RdL S a n (l.map u8v)) (hl : l.length = n) : ORead Tryz.prog (semW (.convert 28 9 (.tmp i)) 9 [(i,.slice a n c)]) S (sE l) := by
 have := conv_ok (ρ := [.v (.slice a n c)]) (i := i) (x := .w (.a (.val 0))) (S := S) (a := a) (n := n) (c := c) (l := l) rfl hr hl
 rw [semW_eq] at this
 exact this
end Go.Proofs.YtdieogcemmnaaaaGreatDoor

namespace Go.Proofs.YtdieogcemmnaaaaGreatDoor
set_option linter.unusedSimpArgs false
set_option linter.unusedVariables false
open Go.Proofs.YtdieogcemmnaaaaGreatDoor RX
set_option maxRecDepth 100000
end Go.Proofs.YtdieogcemmnaaaaGreatDoor

namespace Go.Proofs.YtdieogcemmnaaaaGreatDoor.RX
set_option maxRecDepth 100000
-- tideline/entry.part: ρ := [.i n]
def t_ePart : T :=
(.br (.o2 .le (.i 0) (.v 0))
(.ret (.w (.a (.bool (.o2 .le (.v 0) (.i 2147483647))))) [])
(.ret (.w (.a (.bool (.c false)))) []))
theorem tree_ePart : tree Tryz.prog { } Tryz.f206 [.a (.int .i64 (.v 0))] [] 1 = t_ePart := by kernel_rfl
def t_eRight : T :=
(.new
(.br (.o1 .not (.o2 .eq (.v 0) (.i 1)))
(.br (.o1 .not (.o2 .eq (.v 0) (.i 2)))
(.ret (.w (.a (.bool (.c false)))) [(.a 6,.prop 9)])
(.call 206 [.a (.int .i64 (.v 1))] [] [.c] (.w (.a (.bool (.v 11)))) []
(.br (.o1 .not (.v 11))
(.ret (.w (.a (.bool (.c false)))) [(.a 6,.prop 9)])
(.call 206 [.a (.int .i64 (.v 2))] [] [.c] (.w (.a (.bool (.v 12)))) []
(.br (.o1 .not (.v 12))
(.ret (.w (.a (.bool (.c false)))) [(.a 6,.prop 9)])
(.call 206 [.a (.int .i64 (.v 3))] [] [.c] (.w (.a (.bool (.v 13)))) []
(.br (.o1 .not (.v 13))
(.ret (.w (.a (.bool (.c false)))) [(.a 6,.prop 9)])
(.br (.o2 .lt (.v 4) (.i 0))
(.ret (.w (.a (.bool (.c false)))) [(.a 6,.prop 9)])
(.br (.o2 .le (.i 8) (.v 4))
(.ret (.w (.a (.bool (.c false)))) [(.a 6,.prop 9)])
(.br (.o2 .lt (.v 5) (.i (-1)))
(.ret (.w (.a (.bool (.c false)))) [(.a 6,.prop 9)])
(.br (.o2 .lt (.i 4294967296) (.v 5))
(.ret (.w (.a (.bool (.c false)))) [(.a 6,.prop 9)])
(.ret (.w (.a (.bool (.o2 .le (.o1 .ofNat (.v 7)) (.i 65506))))) [(.a 6,.prop 9)]))))))))))))
(.call 206 [.a (.int .i64 (.v 1))] [] [.c] (.w (.a (.bool (.v 11)))) []
(.br (.o1 .not (.v 11))
(.ret (.w (.a (.bool (.c false)))) [(.a 6,.prop 9)])
(.call 206 [.a (.int .i64 (.v 2))] [] [.c] (.w (.a (.bool (.v 12)))) []
(.br (.o1 .not (.v 12))
(.ret (.w (.a (.bool (.c false)))) [(.a 6,.prop 9)])
(.call 206 [.a (.int .i64 (.v 3))] [] [.c] (.w (.a (.bool (.v 13)))) []
(.br (.o1 .not (.v 13))
(.ret (.w (.a (.bool (.c false)))) [(.a 6,.prop 9)])
(.br (.o2 .lt (.v 4) (.i 0))
(.ret (.w (.a (.bool (.c false)))) [(.a 6,.prop 9)])
(.br (.o2 .le (.i 8) (.v 4))
(.ret (.w (.a (.bool (.c false)))) [(.a 6,.prop 9)])
(.br (.o2 .lt (.v 5) (.i (-1)))
(.ret (.w (.a (.bool (.c false)))) [(.a 6,.prop 9)])
(.br (.o2 .lt (.i 4294967296) (.v 5))
(.ret (.w (.a (.bool (.c false)))) [(.a 6,.prop 9)])
(.ret (.w (.a (.bool (.o2 .le (.o1 .ofNat (.v 7)) (.i 65506))))) [(.a 6,.prop 9)])))))))))))))
theorem tree_eRight : tree Tryz.prog { } Tryz.f163 [.agg [.int .i64 (.v 0),.int .i64 (.v 1),.int .i64 (.v 2),.int .i64 (.v 3),.int .i64 (.v 4),.int .i64 (.v 5),.sl (.v 6) (.v 7) (.v 8)]] [(.a 6,.prop 9)] 10 = t_eRight := by kernel_rfl
def t_eDecode : T :=
(.new
(.br (.o2 .lt (.i 65536) (.o1 .ofNat (.v 1)))
(.ret (.tup [.agg [.int .i64 (.i 0),.int .i64 (.i 0),.int .i64 (.i 0),.int .i64 (.i 0),.int .i64 (.i 0),.int .i64 (.i 0),.sl .nil (.n 0) (.n 0)],.a (.int .i64 (.i 3))]) [(.a 0,.prop 3)])
(.call 84 [.a (.sl (.v 0) (.v 1) (.v 2))] [(.a 0,.prop 3)] [.a,.n,.n,.p,.i,.p] (.tup [.a (.sl (.v 5) (.v 6) (.v 7)),.a (.int .i64 (.v 9))]) [(.a 5,.prop 8),(.a 0,.prop 10)]
(.br (.o1 .not (.o2 .eq (.v 9) (.i 0)))
(.ret (.tup [.agg [.int .i64 (.i 0),.int .i64 (.i 0),.int .i64 (.i 0),.int .i64 (.i 0),.int .i64 (.i 0),.int .i64 (.i 0),.sl .nil (.n 0) (.n 0)],.a (.int .i64 (.i 3))]) [(.a 0,.prop 10)])
(.call 85 [.a (.sl (.v 5) (.v 6) (.v 7))] [(.a 5,.prop 8)] [.n,.p,.p] (.w (.a (.ptr (.v 11) 0))) [(.b (.v 11),.prop 12),(.a 5,.prop 13)]
(.new
(.call 156 [.a (.ptr (.v 11) 0)] [(.b (.v 11),.prop 12)] [.i,.p] (.w (.a (.int .u8 (.v 15)))) [(.b (.v 11),.prop 16)]
(.need (.o1 (.inr .i64) (.v 15))
(.call 153 [.a (.ptr (.v 11) 0),.a (.int .i64 (.i 4))] [(.b (.v 11),.prop 16)] [.i,.p] (.w (.a (.int .u64 (.v 17)))) [(.b (.v 11),.prop 18)]
(.call 153 [.a (.ptr (.v 11) 0),.a (.int .i64 (.i 4))] [(.b (.v 11),.prop 18)] [.i,.p] (.w (.a (.int .u64 (.v 19)))) [(.b (.v 11),.prop 20)]
(.call 153 [.a (.ptr (.v 11) 0),.a (.int .i64 (.i 4))] [(.b (.v 11),.prop 20)] [.i,.p] (.w (.a (.int .u64 (.v 21)))) [(.b (.v 11),.prop 22)]
(.call 156 [.a (.ptr (.v 11) 0)] [(.b (.v 11),.prop 22)] [.i,.p] (.w (.a (.int .u8 (.v 23)))) [(.b (.v 11),.prop 24)]
(.need (.o1 (.inr .i64) (.v 23))
(.call 86 [.a (.ptr (.v 11) 0)] [(.b (.v 11),.prop 24)] [.i,.p] (.w (.a (.int .i64 (.v 25)))) [(.b (.v 11),.prop 26)]
(.call 157 [.a (.ptr (.v 11) 0),.a (.int .i64 (.i 65536))] [(.b (.v 11),.prop 26)] [.a,.n,.n,.p,.p] (.w (.a (.sl (.v 27) (.v 28) (.v 29)))) [(.a 27,.prop 30),(.b (.v 11),.prop 31)]
(.call 89 [.a (.ptr (.v 11) 0)] [(.b (.v 11),.prop 31)] [.i,.p] (.w (.a (.int .i64 (.v 32)))) [(.b (.v 11),.prop 33)]
(.br (.o1 .not (.o2 .eq (.v 32) (.i 0)))
(.ret (.tup [.agg [.int .i64 (.i 0),.int .i64 (.i 0),.int .i64 (.i 0),.int .i64 (.i 0),.int .i64 (.i 0),.int .i64 (.i 0),.sl .nil (.n 0) (.n 0)],.a (.int .i64 (.i 3))]) [(.a 0,.prop 10)])
(.call 163 [.agg [.int .i64 (.v 15),.int .i64 (.o1 (.wrap .i64) (.v 17)),.int .i64 (.o1 (.wrap .i64) (.v 19)),.int .i64 (.o1 (.wrap .i64) (.v 21)),.int .i64 (.v 23),.int .i64 (.v 25),.sl (.v 27) (.v 28) (.v 29)]] [(.a 27,.prop 30)] [.c,.p] (.w (.a (.bool (.v 34)))) [(.a 27,.prop 35)]
(.br (.o1 .not (.v 34))
(.ret (.tup [.agg [.int .i64 (.i 0),.int .i64 (.i 0),.int .i64 (.i 0),.int .i64 (.i 0),.int .i64 (.i 0),.int .i64 (.i 0),.sl .nil (.n 0) (.n 0)],.a (.int .i64 (.i 3))]) [(.a 0,.prop 10)])
(.ret (.tup [.agg [.int .i64 (.v 15),.int .i64 (.o1 (.wrap .i64) (.v 17)),.int .i64 (.o1 (.wrap .i64) (.v 19)),.int .i64 (.o1 (.wrap .i64) (.v 21)),.int .i64 (.v 23),.int .i64 (.v 25),.sl (.v 27) (.v 28) (.v 29)],.a (.int .i64 (.i 0))]) [(.a 0,.prop 10),(.a 27,.prop 35)]))))))))))))))))))))
theorem tree_eDecode : tree Tryz.prog { } Tryz.f98 [.a (.sl (.v 0) (.v 1) (.v 2))] [(.a 0,.prop 3)] 4 = t_eDecode := by kernel_rfl
def t_cDecode : T :=
(.new
(.call 84 [.a (.sl (.v 0) (.v 1) (.v 2))] [(.a 0,.prop 3)] [.a,.n,.n,.p,.i,.p] (.tup [.a (.sl (.v 5) (.v 6) (.v 7)),.a (.int .i64 (.v 9))]) [(.a 5,.prop 8),(.a 0,.prop 10)]
(.br (.o1 .not (.o2 .eq (.v 9) (.i 0)))
(.ret (.tup [.agg [.int .i64 (.i 0),.str (.s []),.str (.s []),.int .i64 (.i 0),.int .i64 (.i 0),.sl .nil (.n 0) (.n 0)],.a (.int .i64 (.i 3))]) [(.a 0,.prop 10)])
(.call 85 [.a (.sl (.v 5) (.v 6) (.v 7))] [(.a 5,.prop 8)] [.n,.p,.p] (.w (.a (.ptr (.v 11) 0))) [(.b (.v 11),.prop 12),(.a 5,.prop 13)]
(.new
(.call 156 [.a (.ptr (.v 11) 0)] [(.b (.v 11),.prop 12)] [.i,.p] (.w (.a (.int .u8 (.v 15)))) [(.b (.v 11),.prop 16)]
(.need (.o1 (.inr .i64) (.v 15))
(.call 157 [.a (.ptr (.v 11) 0),.a (.int .i64 (.i 300))] [(.b (.v 11),.prop 16)] [.a,.n,.n,.p,.p] (.w (.a (.sl (.v 17) (.v 18) (.v 19)))) [(.a 17,.prop 20),(.b (.v 11),.prop 21)]
(.read (.convert 28 9 (.tmp 23)) 9 [(23,.w (.a (.sl (.v 17) (.v 18) (.v 19))))] [(.a 17,.prop 20)] [.s] (.w (.a (.str (.v 22))))
(.call 157 [.a (.ptr (.v 11) 0),.a (.int .i64 (.i 300))] [(.b (.v 11),.prop 21)] [.a,.n,.n,.p,.p] (.w (.a (.sl (.v 23) (.v 24) (.v 25)))) [(.a 23,.prop 26),(.b (.v 11),.prop 27)]
(.read (.convert 28 9 (.tmp 27)) 9 [(27,.w (.a (.sl (.v 23) (.v 24) (.v 25))))] [(.a 23,.prop 26)] [.s] (.w (.a (.str (.v 28))))
(.call 86 [.a (.ptr (.v 11) 0)] [(.b (.v 11),.prop 27)] [.i,.p] (.w (.a (.int .i64 (.v 29)))) [(.b (.v 11),.prop 30)]
(.call 86 [.a (.ptr (.v 11) 0)] [(.b (.v 11),.prop 30)] [.i,.p] (.w (.a (.int .i64 (.v 31)))) [(.b (.v 11),.prop 32)]
(.call 157 [.a (.ptr (.v 11) 0),.a (.int .i64 (.i 4096))] [(.b (.v 11),.prop 32)] [.a,.n,.n,.p,.p] (.w (.a (.sl (.v 33) (.v 34) (.v 35)))) [(.a 33,.prop 36),(.b (.v 11),.prop 37)]
(.call 89 [.a (.ptr (.v 11) 0)] [(.b (.v 11),.prop 37)] [.i,.p] (.w (.a (.int .i64 (.v 38)))) [(.b (.v 11),.prop 39)]
(.br (.o1 .not (.o2 .eq (.v 38) (.i 0)))
(.ret (.tup [.agg [.int .i64 (.i 0),.str (.s []),.str (.s []),.int .i64 (.i 0),.int .i64 (.i 0),.sl .nil (.n 0) (.n 0)],.a (.int .i64 (.i 3))]) [(.a 0,.prop 10)])
(.ret (.tup [.agg [.int .i64 (.v 15),.str (.v 22),.str (.v 28),.int .i64 (.v 29),.int .i64 (.v 31),.sl (.v 33) (.v 34) (.v 35)],.a (.int .i64 (.i 0))]) [(.a 0,.prop 10),(.a 33,.prop 36)])))))))))))))))))
theorem tree_cDecode : tree Tryz.prog { } Tryz.f164 [.a (.sl (.v 0) (.v 1) (.v 2))] [(.a 0,.prop 3)] 4 = t_cDecode := by kernel_rfl
end Go.Proofs.YtdieogcemmnaaaaGreatDoor.RX

namespace Go.Proofs.YtdieogcemmnaaaaGreatDoor
set_option linter.unusedSimpArgs false
set_option linter.unusedVariables false
open Go.Proofs.YtdieogcemmnaaaaGreatDoor RX
set_option maxRecDepth 100000
structure LogM where
 kind : Int
 cl : Int
 bi : Int
 nu : Int
 st : Int
 bk : Int
 pl : List UInt8
def LogM.val (x : LogM) (a : Option Addr) (c : Nat) : Value := .agg #[.int .i64 x.kind,.int .i64 x.cl,.int .i64 x.bi,.int .i64 x.nu,.int .i64 x.st,.int .i64 x.bk,.slice a x.pl.length c]
def partOk (n : Int) : Bool := decide (0 ≤ n) && decide (n ≤ 2147483647)
def logOk (x : LogM) : Bool := (decide (x.kind = 1) || decide (x.kind = 2)) && partOk x.cl && partOk x.bi && partOk x.nu && decide (0 ≤ x.st) && decide (x.st < 8) && decide (-1 ≤ x.bk) && decide (x.bk ≤ 4294967296) && decide (x.pl.length ≤ 65506)
theorem ePart_ok (n : Int) : Tri Tryz.prog 206 #[.int .i64 n] HP.tt (fun v => HP.and (v = .bool (partOk n)) HP.tt) := by
 refine tri_of_tree (ρ := [.i n]) mixed Tryz.func206 tree_ePart ?_
 unfold t_ePart
 simp only [T.den,E.prop,E.den,RX.look,F1.app,F2.app,Uni.int_i,Uni.nat_n,Uni.bool_c,Uni.str_s,Uni.adr_a,Uni.val_v,Uni.hp_p,hden,cden,V.den,W.den,A.den,BR.den,SA.den,FV.den,capV,exs,exP,allP,Cur.app,List.map_cons,List.map_nil,List.cons_append,List.nil_append,List.drop_succ_cons,List.drop_zero,List.length_cons,List.length_nil,Nat.zero_add,Nat.reduceAdd,Int.neg_neg,Bool.not_not,List.append_nil,Nat.add_zero,List.getElem?_cons_zero,List.getElem?_cons_succ,Decidable.not_not,semW_eq,ne_eq,Nat.reduceEqDiff,not_false_eq_true]
 unfold partOk
 refine ⟨fun h => .of fun R x _ => ⟨?_,trivial⟩,fun h => .of fun R x _ => ⟨?_,trivial⟩⟩
 ·have h' : 0 ≤ n := h
  rw [decide_eq_true h',Bool.true_and]; rfl
 ·have h' : ¬ 0 ≤ n := h
  rw [decide_eq_false h',Bool.false_and]
theorem eRight_ok (x : LogM) (a : Option Addr) (c : Nat) (S : HP) : Tri Tryz.prog 163 #[x.val a c] S (fun v => HP.and (v = .bool (logOk x)) S) := by
 refine tri_of_tree (ρ := [.i x.kind,.i x.cl,.i x.bi,.i x.nu,.i x.st,.i x.bk,.a a,.n x.pl.length,.n c,.p S]) mixed Tryz.func163 tree_eRight ?_
 unfold t_eRight
 simp only [T.den,E.prop,E.den,RX.look,F1.app,F2.app,Uni.int_i,Uni.nat_n,Uni.bool_c,Uni.str_s,Uni.adr_a,Uni.val_v,Uni.hp_p,hden,cden,V.den,W.den,A.den,BR.den,SA.den,FV.den,capV,exs,exP,allP,Cur.app,List.map_cons,List.map_nil,List.cons_append,List.nil_append,List.drop_succ_cons,List.drop_zero,List.length_cons,List.length_nil,Nat.zero_add,Nat.reduceAdd,Int.neg_neg,Bool.not_not,List.append_nil,Nat.add_zero,List.getElem?_cons_zero,List.getElem?_cons_succ,Decidable.not_not,semW_eq,ne_eq,Nat.reduceEqDiff,not_false_eq_true]
 intro _
 have no : logOk x = false → HP.ent S (HP.and (Value.bool false = .bool (logOk x)) S) := fun h => .of fun R h' H => ⟨by rw [h],H⟩
 refine ⟨fun h1 => ⟨fun h2 => no ?_,fun h2 => ?_⟩,fun h1 => ?_⟩
 ·unfold logOk; simp [h1,h2]
 ·have hk' : (decide (x.kind = 1) || decide (x.kind = 2)) = true := by
   have h2 : x.kind = 2 := by simpa using h2
   simp [h2]
  clear h1 h2
  refine (ePart_ok x.cl).weak (fun _ _ h => h) ?_
  rintro v R h ⟨rfl,H⟩
  refine ⟨_,rfl,⟨fun h => no ?_,fun h1 => ?_⟩,H⟩
  ·unfold logOk; simp [h]
  refine (ePart_ok x.bi).weak (fun _ _ h => h) ?_
  rintro v R h ⟨rfl,H⟩
  refine ⟨_,rfl,⟨fun h => no ?_,fun h2 => ?_⟩,H⟩
  ·unfold logOk; simp [h]
  refine (ePart_ok x.nu).weak (fun _ _ h => h) ?_
  rintro v R h ⟨rfl,H⟩
  refine ⟨_,rfl,⟨fun h => no ?_,fun h3 => ⟨fun h => no ?_,fun h4 => ⟨fun h => no ?_,fun h5 => ⟨fun h => no ?_,fun h6 => ⟨fun h => no ?_,fun h7 => .of fun R h' H => ⟨?_,H⟩⟩⟩⟩⟩⟩,H⟩
  ·unfold logOk; simp [h]
  ·unfold logOk; have : ¬ 0 ≤ x.st := by omega
   simp [this]
  ·unfold logOk; have : ¬ x.st < 8 := by omega
   simp [this]
  ·unfold logOk; have : ¬ -1 ≤ x.bk := by omega
   simp [this]
  ·unfold logOk; have : ¬ x.bk ≤ 4294967296 := by omega
   simp [this]
  ·have a1 : 0 ≤ x.st := by omega
   have a2 : x.st < 8 := by omega
   have a3 : -1 ≤ x.bk := by omega
   have a4 : x.bk ≤ 4294967296 := by omega
   have h1 : partOk x.cl = true := by simpa using h1
   have h2 : partOk x.bi = true := by simpa using h2
   have h3 : partOk x.nu = true := by simpa using h3
   unfold logOk
   rw [hk',h1,h2,h3]
   simp [a1,a2,a3,a4]
   omega
 ·have hk' : (decide (x.kind = 1) || decide (x.kind = 2)) = true := by
   have h1 : x.kind = 1 := by simpa using h1
   simp [h1]
  clear h1
  refine (ePart_ok x.cl).weak (fun _ _ h => h) ?_
  rintro v R h ⟨rfl,H⟩
  refine ⟨_,rfl,⟨fun h => no ?_,fun h1 => ?_⟩,H⟩
  ·unfold logOk; simp [h]
  refine (ePart_ok x.bi).weak (fun _ _ h => h) ?_
  rintro v R h ⟨rfl,H⟩
  refine ⟨_,rfl,⟨fun h => no ?_,fun h2 => ?_⟩,H⟩
  ·unfold logOk; simp [h]
  refine (ePart_ok x.nu).weak (fun _ _ h => h) ?_
  rintro v R h ⟨rfl,H⟩
  refine ⟨_,rfl,⟨fun h => no ?_,fun h3 => ⟨fun h => no ?_,fun h4 => ⟨fun h => no ?_,fun h5 => ⟨fun h => no ?_,fun h6 => ⟨fun h => no ?_,fun h7 => .of fun R h' H => ⟨?_,H⟩⟩⟩⟩⟩⟩,H⟩
  ·unfold logOk; simp [h]
  ·unfold logOk; have : ¬ 0 ≤ x.st := by omega
   simp [this]
  ·unfold logOk; have : ¬ x.st < 8 := by omega
   simp [this]
  ·unfold logOk; have : ¬ -1 ≤ x.bk := by omega
   simp [this]
  ·unfold logOk; have : ¬ x.bk ≤ 4294967296 := by omega
   simp [this]
  ·have a1 : 0 ≤ x.st := by omega
   have a2 : x.st < 8 := by omega
   have a3 : -1 ≤ x.bk := by omega
   have a4 : x.bk ≤ 4294967296 := by omega
   have h1 : partOk x.cl = true := by simpa using h1
   have h2 : partOk x.bi = true := by simpa using h2
   have h3 : partOk x.nu = true := by simpa using h3
   unfold logOk
   rw [hk',h1,h2,h3]
   simp [a1,a2,a3,a4]
   omega
def logR (s : RS) : LogM × RS :=
 let k := numR s 1
 let a := numR k.2 4
 let b := numR a.2 4
 let c := numR b.2 4
 let t := numR c.2 1
 let i := numR t.2 8
 let p := bytesR i.2 65536
 (⟨((k.1 % 256 : Nat) : Int),(a.1 : Int),(b.1 : Int),(c.1 : Int),((t.1 % 256 : Nat) : Int),intOf64 i.1,p.1⟩,p.2)
def entD (l : List UInt8) : Option LogM := if 65536 < l.length then none else match unwrapS l with
 | none => none
 | some q => if (logR (q,false)).2.2 = true ∨ (logR (q,false)).2.1 ≠ [] then none else if logOk (logR (q,false)).1 = true then some (logR (q,false)).1 else none
def EntPost (l : List UInt8) (S : HP) (v : Value) : HP := match entD l with
 | none => HP.and (v = .tuple #[.agg #[.int .i64 0,.int .i64 0,.int .i64 0,.int .i64 0,.int .i64 0,.int .i64 0,.slice none 0 0],.int .i64 3]) S
 | some x => HP.ex fun a => HP.ex fun c => HP.and (v = .tuple #[x.val a c,.int .i64 0]) (HP.sep (OwB a x.pl.length c x.pl) S)
theorem wrapI (v : Nat) (h : v < 256 ^ 4) : IntKind.i64.wrap (v : Int) = v := by
 have h4 : (256 : Nat) ^ 4 = 4294967296 := by decide
 exact wrap_in ⟨by show (-9223372036854775808 : Int) ≤ _; omega,by show _ ≤ (9223372036854775807 : Int); omega⟩
set_option maxHeartbeats 1000000 in
theorem eDecode_ok (a : Option Addr) (n c : Nat) (l : List UInt8) (S : HP) (hr : RdL S a n (l.map u8v)) (hl : l.length = n) (hc : n ≤ c) (ha : n ≠ 0 → a.isSome = true) :
  Tri Tryz.prog 98 #[.slice a n c] S (EntPost l S) := by
 refine tri_of_tree (ρ := [.a a,.n n,.n c,.p S]) mixed Tryz.func98 tree_eDecode ?_
 unfold t_eDecode
 simp only [T.den,E.prop,E.den,RX.look,F1.app,F2.app,Uni.int_i,Uni.nat_n,Uni.bool_c,Uni.str_s,Uni.adr_a,Uni.val_v,Uni.hp_p,hden,cden,V.den,W.den,A.den,BR.den,SA.den,FV.den,capV,exs,exP,allP,Cur.app,List.map_cons,List.map_nil,List.cons_append,List.nil_append,List.drop_succ_cons,List.drop_zero,List.length_cons,List.length_nil,Nat.zero_add,Nat.reduceAdd,Int.neg_neg,Bool.not_not,List.append_nil,Nat.add_zero,List.getElem?_cons_zero,List.getElem?_cons_succ,Decidable.not_not,semW_eq,ne_eq,Nat.reduceEqDiff,not_false_eq_true]
 intro _
 have bad : entD l = none → ∀ {A : HP},HP.ent A S → HP.ent A (EntPost l S (.tuple #[.agg #[.int .i64 0,.int .i64 0,.int .i64 0,.int .i64 0,.int .i64 0,.int .i64 0,.slice none 0 0],.int .i64 3])) := fun h A hA => by
  unfold EntPost; rw [h]; exact hA.trans (.of fun R h H => ⟨rfl,H⟩)
 refine ⟨fun h => bad ?_ (HP.ent.refl _),fun h => ?_⟩
 ·unfold entD; rw [if_pos (by omega)]
 have hle : ¬ 65536 < l.length := by omega
 have hd0 : entD l = match unwrapS l with
  | none => none
  | some q => if (logR (q,false)).2.2 = true ∨ (logR (q,false)).2.1 ≠ [] then none else if logOk (logR (q,false)).1 = true then some (logR (q,false)).1 else none := by unfold entD; rw [if_neg hle]
 refine (unwrap_ok a n c l S hr hl hc ha (by omega)).weak (fun _ _ h => h) ?_
 rintro v R h ⟨a',c',rfl,H⟩
 refine ⟨a',_,c',OwB a' _ c' _,_,S,rfl,?_,HP.sep_comm H⟩
 clear H
 cases hu : unwrapS l with
 | none =>
  rw [hu] at hd0
  exact ⟨fun _ => bad hd0 (HP.ent.refl _),fun h => (by simp at h)⟩
 | some q =>
  rw [hu] at hd0
  simp only at hd0
  refine ⟨fun h => absurd rfl h,fun _ => ?_⟩
  simp only [Option.getD_some]
  have hq : q.length ≤ 1000000 := by
   unfold unwrapS at hu
   split at hu
   ·cases hu
   ·split at hu
    ·cases hu; rw [List.length_take]; omega
    ·cases hu
  refine (rRead_ok a' _ c' q _ (RdL.ow _ _ _ _ _ _) rfl (by omega)).weak (fun _ _ h => h) ?_
  rintro v R h ⟨b,rfl,H⟩
  refine ⟨b,_,_,rfl,?_,HP.sep_comm H⟩
  clear H
  intro _
  refine (rByte_ok b (q,false)).weak (fun _ _ h => h) ?_
  rintro v R h ⟨rfl,H⟩
  refine ⟨_,_,rfl,⟨inI64 _ (by omega) (by omega),fun _ => ?_⟩,H⟩
  clear H
  refine (rNumber_ok b _ 4 (by omega)).weak (fun _ _ h => h) ?_
  rintro v R h ⟨rfl,H⟩
  refine ⟨_,_,rfl,?_,H⟩
  clear H
  refine (rNumber_ok b _ 4 (by omega)).weak (fun _ _ h => h) ?_
  rintro v R h ⟨rfl,H⟩
  refine ⟨_,_,rfl,?_,H⟩
  clear H
  refine (rNumber_ok b _ 4 (by omega)).weak (fun _ _ h => h) ?_
  rintro v R h ⟨rfl,H⟩
  refine ⟨_,_,rfl,?_,H⟩
  clear H
  refine (rByte_ok b _).weak (fun _ _ h => h) ?_
  rintro v R h ⟨rfl,H⟩
  refine ⟨_,_,rfl,⟨inI64 _ (by omega) (by omega),fun _ => ?_⟩,H⟩
  clear H
  refine (rInt_ok b _).weak (fun _ _ h => h) ?_
  rintro v R h ⟨rfl,H⟩
  refine ⟨_,_,rfl,?_,H⟩
  clear H
  refine (rBytes_ok b _ 65536).weak (fun _ _ h => h) ?_
  rintro v R h ⟨pa,pc,rfl,H⟩
  refine ⟨pa,_,pc,_,_,rfl,?_,HP.sep_comm H⟩
  clear H
  refine (rEnd_ok b _).weak (fun _ _ h => h) ?_
  rintro v R h ⟨rfl,H⟩
  refine ⟨_,_,rfl,⟨fun h1 => bad ?_ (HP.ent.refl _),fun h1 => ?_⟩,H⟩
  ·rw [hd0,if_pos]
   by_cases e : (logR (q,false)).2.2 = true ∨ (logR (q,false)).2.1 ≠ []
   ·exact e
   ·exact absurd (if_neg e) h1
  clear H
  have h1' : ¬ ((logR (q,false)).2.2 = true ∨ (logR (q,false)).2.1 ≠ []) := fun e => by
   have h3 : (if (logR (q,false)).2.2 = true ∨ (logR (q,false)).2.1 ≠ [] then (3 : Int) else 0) = 3 := if_pos e
   exact absurd (h3.symm.trans h1) (by decide)
  rw [if_neg h1'] at hd0
  rw [wrapI _ (numR_lt _ _),wrapI _ (numR_lt _ _),wrapI _ (numR_lt _ _)]
  refine (eRight_ok (logR (q,false)).1 pa pc _).weak (fun _ _ h => h) ?_
  rintro v R h ⟨rfl,H⟩
  refine ⟨_,_,rfl,⟨fun h2 => bad ?_ (HP.ent.refl _),fun h2 => ?_⟩,H⟩
  ·rw [hd0,if_neg h2]
  ·have h2 : logOk (logR (q,false)).1 = true := by simpa using h2
   rw [if_pos h2] at hd0
   unfold EntPost
   rw [hd0]
   exact .of fun R h H => ⟨pa,pc,rfl,HP.sep_comm H⟩
structure CallP where
 kind : Int
 path : Nm
 other : Nm
 off : Int
 n : Int
 data : List UInt8
def CallP.val (x : CallP) (a : Option Addr) (c : Nat) : Value := .agg #[.int .i64 x.kind,sE x.path,sE x.other,.int .i64 x.off,.int .i64 x.n,.slice a x.data.length c]
def callR (s : RS) : CallP × RS :=
 let k := numR s 1
 let a := bytesR k.2 300
 let b := bytesR a.2 300
 let o := numR b.2 8
 let n := numR o.2 8
 let p := bytesR n.2 4096
 (⟨((k.1 % 256 : Nat) : Int),a.1,b.1,intOf64 o.1,intOf64 n.1,p.1⟩,p.2)
def callD (l : List UInt8) : Option CallP := match unwrapS l with
 | none => none
 | some q => if (callR (q,false)).2.2 = true ∨ (callR (q,false)).2.1 ≠ [] then none else some (callR (q,false)).1
def CallPost (l : List UInt8) (S : HP) (v : Value) : HP := match callD l with
 | none => HP.and (v = .tuple #[.agg #[.int .i64 0,sE [],sE [],.int .i64 0,.int .i64 0,.slice none 0 0],.int .i64 3]) S
 | some x => HP.ex fun a => HP.ex fun c => HP.and (v = .tuple #[x.val a c,.int .i64 0]) (HP.sep (OwB a x.data.length c x.data) S)
set_option maxHeartbeats 1000000 in
theorem cDecode_ok (a : Option Addr) (n c : Nat) (l : List UInt8) (S : HP) (hr : RdL S a n (l.map u8v)) (hl : l.length = n) (hc : n ≤ c) (ha : n ≠ 0 → a.isSome = true) (hb : n ≤ 140737488355000) :
  Tri Tryz.prog 164 #[.slice a n c] S (CallPost l S) := by
 refine tri_of_tree (ρ := [.a a,.n n,.n c,.p S]) mixed Tryz.func164 tree_cDecode ?_
 unfold t_cDecode
 simp only [T.den,E.prop,E.den,RX.look,F1.app,F2.app,Uni.int_i,Uni.nat_n,Uni.bool_c,Uni.str_s,Uni.adr_a,Uni.val_v,Uni.hp_p,hden,cden,V.den,W.den,A.den,BR.den,SA.den,FV.den,capV,exs,exP,allP,Cur.app,List.map_cons,List.map_nil,List.cons_append,List.nil_append,List.drop_succ_cons,List.drop_zero,List.length_cons,List.length_nil,Nat.zero_add,Nat.reduceAdd,Int.neg_neg,Bool.not_not,List.append_nil,Nat.add_zero,List.getElem?_cons_zero,List.getElem?_cons_succ,Decidable.not_not,semW_eq,ne_eq,Nat.reduceEqDiff,not_false_eq_true]
 intro _
 have bad : callD l = none → ∀ {A : HP},HP.ent A S → HP.ent A (CallPost l S (.tuple #[.agg #[.int .i64 0,sE [],sE [],.int .i64 0,.int .i64 0,.slice none 0 0],.int .i64 3])) := fun h A hA => by
  unfold CallPost; rw [h]; exact hA.trans (.of fun R h H => ⟨rfl,H⟩)
 have hd0 : callD l = match unwrapS l with
  | none => none
  | some q => if (callR (q,false)).2.2 = true ∨ (callR (q,false)).2.1 ≠ [] then none else some (callR (q,false)).1 := rfl
 refine (unwrap_ok a n c l S hr hl hc ha (by omega)).weak (fun _ _ h => h) ?_
 rintro v R h ⟨a',c',rfl,H⟩
 refine ⟨a',_,c',OwB a' _ c' _,_,S,rfl,?_,HP.sep_comm H⟩
 clear H
 cases hu : unwrapS l with
 | none =>
  rw [hu] at hd0
  exact ⟨fun _ => bad hd0 (HP.ent.refl _),fun h => (by simp at h)⟩
 | some q =>
  rw [hu] at hd0
  simp only at hd0
  refine ⟨fun h => absurd rfl h,fun _ => ?_⟩
  simp only [Option.getD_some]
  have hq : q.length ≤ 140737488355000 := by
   unfold unwrapS at hu
   split at hu
   ·cases hu
   ·split at hu
    ·cases hu; rw [List.length_take]; omega
    ·cases hu
  refine (rRead_ok a' _ c' q _ (RdL.ow _ _ _ _ _ _) rfl (by omega)).weak (fun _ _ h => h) ?_
  rintro v R h ⟨b,rfl,H⟩
  refine ⟨b,_,_,rfl,?_,HP.sep_comm H⟩
  clear H
  intro _
  refine (rByte_ok b (q,false)).weak (fun _ _ h => h) ?_
  rintro v R h ⟨rfl,H⟩
  refine ⟨_,_,rfl,⟨inI64 _ (by omega) (by omega),fun _ => ?_⟩,H⟩
  clear H
  refine (rBytes_ok b _ 300).weak (fun _ _ h => h) ?_
  rintro v R h ⟨pa,pc,rfl,H⟩
  refine ⟨pa,_,pc,_,_,rfl,⟨_,convW6 (RdL.ow _ _ _ _ _ _) rfl,?_⟩,HP.sep_comm H⟩
  clear H
  refine (rBytes_ok b _ 300).weak (fun _ _ h => h) ?_
  rintro v R h ⟨oa,oc,rfl,H⟩
  refine ⟨oa,_,oc,_,_,rfl,⟨_,convW6 (RdL.ow _ _ _ _ _ _) rfl,?_⟩,HP.sep_comm H⟩
  clear H
  refine (rInt_ok b _).weak (fun _ _ h => h) ?_
  rintro v R h ⟨rfl,H⟩
  refine ⟨_,_,rfl,?_,H⟩
  clear H
  refine (rInt_ok b _).weak (fun _ _ h => h) ?_
  rintro v R h ⟨rfl,H⟩
  refine ⟨_,_,rfl,?_,H⟩
  clear H
  refine (rBytes_ok b _ 4096).weak (fun _ _ h => h) ?_
  rintro v R h ⟨da,dc,rfl,H⟩
  refine ⟨da,_,dc,_,_,rfl,?_,HP.sep_comm H⟩
  clear H
  refine (rEnd_ok b _).weak (fun _ _ h => h) ?_
  rintro v R h ⟨rfl,H⟩
  refine ⟨_,_,rfl,⟨fun h1 => bad ?_ (HP.ent.refl _),fun h1 => ?_⟩,H⟩
  ·rw [hd0,if_pos]
   by_cases e : (callR (q,false)).2.2 = true ∨ (callR (q,false)).2.1 ≠ []
   ·exact e
   ·exact absurd (if_neg e) h1
  clear H
  have h1' : ¬ ((callR (q,false)).2.2 = true ∨ (callR (q,false)).2.1 ≠ []) := fun e => by
   have h3 : (if (callR (q,false)).2.2 = true ∨ (callR (q,false)).2.1 ≠ [] then (3 : Int) else 0) = 3 := if_pos e
   exact absurd (h3.symm.trans h1) (by decide)
  rw [if_neg h1'] at hd0
  unfold CallPost
  rw [hd0]
  exact .of fun R h H => ⟨da,dc,rfl,HP.sep_comm H⟩
end Go.Proofs.YtdieogcemmnaaaaGreatDoor

namespace Go.Proofs.YtdieogcemmnaaaaGreatDoor
set_option linter.unusedSimpArgs false
set_option linter.unusedVariables false
open Go.Proofs.YtdieogcemmnaaaaGreatDoor RX
set_option maxRecDepth 100000
end Go.Proofs.YtdieogcemmnaaaaGreatDoor

namespace Go.Proofs.YtdieogcemmnaaaaGreatDoor.RX
set_option maxRecDepth 100000
-- tideline/tidelinelaw04.speaks: ρ := []
def t_great04 : T :=
(.br (.o2 .lt (.i 120) (.o1 .ofNat (.v 1)))
(.ret (.w (.a (.bool (.c true)))) [(.a 0,.prop 3)])
(.loop [.c,.i] [.e (.o1 .not (.o1 .not (.c false))),.e (.o1 .neg (.o1 .neg (.i 0)))]
(.br (.o2 .lt (.v 5) (.o1 .ofNat (.v 1)))
(.need (.o2 .le (.i 0) (.v 5))
(.need (.o1 .isSome (.v 0))
(.read (.load 34 (.tmp 12)) 34 [(12,.w (.a (.eptr 0 (.v 5) 6 0)))] [(.a 0,.prop 3)] [.i,.s,.s,.i,.i,.a,.n,.n] (.w (.agg [.int .i64 (.v 6),.str (.v 7),.str (.v 8),.int .i64 (.v 9),.int .i64 (.v 10),.sl (.v 11) (.v 12) (.v 13)]))
(.new
(.br (.o2 .lt (.i 300) (.o1 .ofNat (.o1 .size (.v 7))))
(.ret (.w (.a (.bool (.c true)))) [(.a 0,.prop 3)])
(.br (.o2 .lt (.i 300) (.o1 .ofNat (.o1 .size (.v 8))))
(.ret (.w (.a (.bool (.c true)))) [(.a 0,.prop 3)])
(.br (.o2 .lt (.i 600) (.o1 .ofNat (.v 12)))
(.ret (.w (.a (.bool (.c true)))) [(.a 0,.prop 3)])
(.need (.o1 (.inr .i64) (.o2 .add (.v 5) (.i 1)))
(.again 0 [.e (.o1 .not (.o1 .not (.v 4))),.e (.o1 .neg (.o1 .neg (.o2 .add (.v 5) (.i 1))))])))))))))
(.ret (.w (.a (.bool (.c false)))) [(.a 0,.prop 3)]))))
theorem tree_great04 : tree Tryz.prog { keep := [19,25,21,20,26,16],turn := [(18,[0])],rdf := true } Tryz.f16 [.a (.sl (.v 0) (.v 1) (.v 2))] [(.a 0,.prop 3)] 4 = t_great04 := by kernel_rfl
end Go.Proofs.YtdieogcemmnaaaaGreatDoor.RX

namespace Go.Proofs.YtdieogcemmnaaaaGreatDoor
open Go.RowKit Go.ChangeShapes Go.WideShapes Go.Deep RX
set_option maxRecDepth 100000
set_option linter.unusedVariables false
set_option linter.unusedSimpArgs false
structure CallE where
 kind : Int
 path : List UInt8
 other : List UInt8
 off : Int
 n : Int
 data : List UInt8
 da : Option Addr
 dc : Nat
abbrev CallE.vals (x : CallE) : List Value := [.int .i64 x.kind,.string ⟨x.path.toArray⟩,.string ⟨x.other.toArray⟩,.int .i64 x.off,.int .i64 x.n,.slice x.da x.data.length x.dc]
def CallE.hp (x : CallE) : HP := HP.both (HP.pure (okI x.kind)) (HP.both (HP.pure (x.path.length ≤ 9223372036854775807)) (HP.both (HP.pure (x.other.length ≤ 9223372036854775807)) (HP.both (HP.pure (okI x.off)) (HP.both (HP.pure (okI x.n)) (HP.and (x.data.length ≤ 140737488355328) (RoB x.da x.data.length x.data))))))
theorem CallE.pers (x : CallE) (R h h' : PH) (H : (x.hp).p R h) : (x.hp).p R h' := ⟨H.1,⟨H.2.1,⟨H.2.2.1,⟨H.2.2.2.1,⟨H.2.2.2.2.1,H.2.2.2.2.2⟩⟩⟩⟩⟩
instance : Inhabited CallE := ⟨⟨0,[],[],0,0,[],none,0⟩⟩
def kCallE : Kind CallE := ⟨6,by decide,CallE.vals,fun _ => rfl,CallE.hp,CallE.pers⟩
theorem CallE.of_trod {H : Type} {enc : TypeId × Value → H} {w : World} {cs : List Value} {n : Nat} {x : DataW H × List MemPlace} (h : DataW.trod enc Tryz.prog w 0 (fun _ => true) true n 34 cs = some x) (hs : Small Tryz.prog 34 x.1) : ∃ m : CallE,cs = kCallE.vals m ∧ ∀ h,(kCallE.hp m).p (allOf w) h := by
 obtain ⟨xs0,n0,_,hx0,hl0,hxl0,hf0⟩ := DataW.trod_struct Tryz.underlying34 h
 replace hxl0 : xs0.length = 6 := hxl0
 have hs0 : Small Tryz.prog 34 (.agg (xs0.map (·.1))) := by
  have e := hx0
  first | (subst e; exact hs) | (rw [e] at hs; exact hs) | (have e2 := congrArg Prod.fst e; rw [← e2]; exact hs) | (rw [← e]; exact hs)
 obtain ⟨c0,e0,w0⟩ := field_int Tryz.underlying3 (show 0 < xs0.length by omega) (by kernel_rfl) (hf0 0 _ rfl)
 obtain ⟨c1,e1,w1⟩ := field_str Tryz.underlying9 (show 1 < xs0.length by omega) (by kernel_rfl) (hf0 1 _ rfl)
 obtain ⟨c2,e2,w2⟩ := field_str Tryz.underlying9 (show 2 < xs0.length by omega) (by kernel_rfl) (hf0 2 _ rfl)
 obtain ⟨c3,e3,w3⟩ := field_int Tryz.underlying3 (show 3 < xs0.length by omega) (by kernel_rfl) (hf0 3 _ rfl)
 obtain ⟨c4,e4,w4⟩ := field_int Tryz.underlying3 (show 4 < xs0.length by omega) (by kernel_rfl) (hf0 4 _ rfl)
 obtain ⟨a5,l5,k5,e5⟩ := field_slice Tryz.underlying28 (show 5 < xs0.length by omega) (by kernel_rfl) (hf0 5 _ rfl)
 have q5 := hf0 5 _ rfl
 rw [List.getElem?_eq_getElem (show 5 < xs0.length by omega)] at q5
 have g5 : DataW.trod enc Tryz.prog w 0 (fun _ => true) true n0 28 [.slice a5 l5 k5] = some xs0[5] := by
  rw [← take1' e5]
  exact q5
 have s5 : Small Tryz.prog 28 xs0[5].1 := Small.part (i := 5) hs0 Tryz.underlying34 rfl (by rw [List.getElem?_map,List.getElem?_eq_getElem (show 5 < xs0.length by omega)]; rfl)
 obtain ⟨b5,d5,m5,r5,y5,z5⟩ := bytes_of_trod g5 s5
 simp only [Value.slice.injEq] at r5
 obtain ⟨rfl,rfl,rfl⟩ := r5
 have hlen : cs.length = 6 := hl0.trans (by kernel_rfl)
 refine ⟨⟨c0,c1,c2,c3,c4,d5,a5,k5⟩,?_,fun hh => ⟨int_wf w0,⟨w1,⟨w2,⟨int_wf w3,⟨int_wf w4,⟨y5,z5 hh⟩⟩⟩⟩⟩⟩⟩
 clear h hl0 hf0 q5 g5 s5
 revert e0 e1 e2 e3 e4 e5
 match cs,hlen with
 | [u0,u1,u2,u3,u4,u5],_ =>
  intro e0
  obtain rfl : u0 = .int _ c0 := Option.some.inj e0
  intro e1
  obtain rfl : u1 = .string ⟨c1.toArray⟩ := Option.some.inj e1
  intro e2
  obtain rfl : u2 = .string ⟨c2.toArray⟩ := Option.some.inj e2
  intro e3
  obtain rfl : u3 = .int _ c3 := Option.some.inj e3
  intro e4
  obtain rfl : u4 = .int _ c4 := Option.some.inj e4
  intro e5
  obtain rfl : u5 = .slice a5 d5.length k5 := Option.some.inj e5
  rfl
end Go.Proofs.YtdieogcemmnaaaaGreatDoor

namespace Go.Proofs.YtdieogcemmnaaaaGreatDoor
set_option linter.unusedSimpArgs false
set_option linter.unusedVariables false
open Go.Proofs.YtdieogcemmnaaaaGreatDoor RX
set_option maxRecDepth 100000
abbrev kCall : Kind CallE := kCallE
abbrev callVs (x : CallE) : List Value := x.vals
def CallE.m (x : CallE) : CallM := ⟨x.kind,x.path,x.other,x.off,x.n,x.da,x.data.length,x.dc⟩
def dataAt (L : List CallE) : Prop := ∀ x ∈ L,x.data.length ≠ 0 → x.da.isSome = true
theorem dataAt_of {a : Option Addr} {n : Nat} {L : List CallE} {R h : PH} (H : (Ls kCall a n L).p R h) : dataAt L := fun x hx hd => RoC.some (H.2.2 x hx).2.2.2.2.2.2 (by omega)
theorem callD_of {a : Option Addr} {n : Nat} {L : List CallE} (hL : dataAt L) {x : CallE} (hx : x ∈ L) : CallD x.m (Ls kCall a n L) x.data where
 rd := ⟨Rd.impR (RdL.ro 1 x.da x.data.length (x.data.map u8v)).rd fun R h H => (H.2.2 x hx).2.2.2.2.2.2,fun R h H e => (RdL.ro 1 x.da x.data.length (x.data.map u8v)).none R h (H.2.2 x hx).2.2.2.2.2.2 e⟩
 len := rfl
 some' := hL x hx
variable {b : Nat} {t : TS}
def doC (T : List Nd) (c : CallM) (d : List UInt8) : List Nd × AnsM := doS T c.kind c.path c.other c.off c.n d
theorem undCall : ∃ d,Tryz.prog.underlying 34 = some d := Option.isSome_iff_exists.1 (by kernel_rfl)
theorem undNode : ∃ d,Tryz.prog.underlying 43 = some d := Option.isSome_iff_exists.1 (by kernel_rfl)
theorem aggNode : aggT Tryz.prog 43 = true := by kernel_rfl
theorem szNode : szT Tryz.prog 43 = 5 := by kernel_rfl
theorem aggCall : aggT Tryz.prog 34 = true := by kernel_rfl
theorem szCall : szT Tryz.prog 34 = 6 := by kernel_rfl
theorem Ls.some {α : Type} {K : Kind α} {a : Option Addr} {n : Nat} {l : List α} {R h : PH} (H : (Ls K a n l).p R h) (hn : n ≠ 0) : a.isSome = true := by
 exact RoC.some H.2.1 (Nat.pos_of_ne_zero hn)
theorem loadCall {a : Option Addr} {n : Nat} {l : List CallE} {k : Nat} {x : CallE} (hk : l[k]? = some x) : ORead Tryz.prog (loadS 34 (.pointer (a.map fun y => (y.add (k * 6)).add 0))) (Ls kCall a n l) (.agg (callVs x).toArray) := by
 obtain ⟨d,hd⟩ := undCall
 exact Ls.load (K := kCall) hd aggCall szCall hk
def greatB (L : List CallE) : Bool := decide (120 < L.length) || L.any fun x => decide (300 < x.path.length) || decide (300 < x.other.length) || decide (600 < x.data.length)
set_option maxHeartbeats 1000000 in
theorem great04_ok (a : Option Addr) (n c : Nat) (L : List CallE) : Tri Tryz.prog 16 #[.slice a n c] (Ls kCall a n L) (fun v => HP.and (v = .bool (greatB L)) (Ls kCall a n L)) := by
 refine Tri.fact (φ := L.length = n ∧ (n ≠ 0 → a.isSome = true)) (fun R h H => ⟨H.1,fun hn => Ls.some H hn⟩) fun ⟨hl,ha⟩ => ?_
 refine tri_of_tree (ρ := [.a a,.n n,.n c,.p (Ls kCall a n L)]) mixed Tryz.func16 tree_great04 ?_
 unfold t_great04
 simp only [T.den,E.prop,E.den,RX.look,F1.app,F2.app,Uni.int_i,Uni.nat_n,Uni.bool_c,Uni.str_s,Uni.adr_a,Uni.val_v,Uni.hp_p,hden,cden,V.den,W.den,A.den,BR.den,SA.den,FV.den,capV,exs,exP,allP,Cur.app,List.map_cons,List.map_nil,List.cons_append,List.nil_append,List.drop_succ_cons,List.drop_zero,List.length_cons,List.length_nil,Nat.zero_add,Nat.reduceAdd,Int.neg_neg,Bool.not_not,List.append_nil,Nat.add_zero,List.getElem?_cons_zero,List.getElem?_cons_succ,Decidable.not_not,semW_eq,semW_load,ne_eq,Nat.reduceEqDiff,not_false_eq_true]
 refine ⟨fun h => .of fun R h' H => ⟨?_,H⟩,fun h => ?_⟩
 ·have : 120 < L.length := by omega
  simp [greatB,this]
 refine ⟨fun _ i => ∃ k : Nat,i = k ∧ k ≤ n ∧ ∀ j x,j < k → L[j]? = some x → x.path.length ≤ 300 ∧ x.other.length ≤ 300 ∧ x.data.length ≤ 600,fun _ i => n - i.toNat,⟨0,rfl,Nat.zero_le _,fun j x hj => absurd hj (by omega)⟩,?_⟩
 rintro _ _ ⟨k,rfl,hk,hb⟩
 refine ⟨fun hlt => ⟨by omega,fun _ => ⟨ha (by omega),fun _ => ?_⟩⟩,fun hge => .of fun R h' H => ⟨?_,H⟩⟩
 ·obtain ⟨x,hx⟩ : ∃ x,L[k]? = some x := ⟨_,List.getElem?_eq_getElem (by omega)⟩
  have hxm := List.mem_of_getElem? hx
  refine ⟨x.kind,x.path,x.other,x.off,x.n,x.da,x.data.length,x.dc,loadCall hx,fun q => ?_⟩
  have key : 300 < x.path.length ∨ 300 < x.other.length ∨ 600 < x.data.length → greatB L = true := fun h => by
   unfold greatB
   rw [Bool.or_eq_true,List.any_eq_true]
   refine .inr ⟨x,hxm,?_⟩
   simp only [Bool.or_eq_true,decide_eq_true_eq]
   omega
  have sz : ∀ l : List UInt8,(⟨l.toArray⟩ : ByteArray).size = l.length := fun l => by simp [ByteArray.size]
  refine ⟨fun h => .of fun R h' H => ⟨?_,H⟩,fun h1 => ⟨fun h => .of fun R h' H => ⟨?_,H⟩,fun h2 => ⟨fun h => .of fun R h' H => ⟨?_,H⟩,fun h3 => ⟨inI64' _ (by omega) (by omega),fun _ => ⟨⟨k + 1,by omega,by omega,fun j y hj hy => ?_⟩,by dsimp only; omega⟩⟩⟩⟩⟩
  ·rw [key (by omega)]
  ·rw [key (by omega)]
  ·rw [key (by omega)]
  ·rcases Nat.lt_or_eq_of_le (Nat.le_of_lt_succ hj) with h | h
   ·exact hb j y h hy
   ·subst h; rw [hx] at hy; cases hy; omega
 ·have : greatB L = false := by
   unfold greatB
   rw [Bool.or_eq_false_iff]
   refine ⟨by simp; omega,?_⟩
   rw [List.any_eq_false]
   intro x hx
   obtain ⟨j,hj⟩ := List.mem_iff_getElem?.1 hx
   have hjl := (List.getElem?_eq_some_iff.1 hj).1
   have := hb j x (by omega) hj
   simp; omega
  rw [this]
end Go.Proofs.YtdieogcemmnaaaaGreatDoor

namespace Go.Proofs.YtdieogcemmnaaaaGreatDoor
open Go.Proofs.YtdieogcemmnaaaaGreatDoor RX
set_option maxRecDepth 100000
def idxS (t : TypeId) (u v : Value) : Sem Next := do pure (.value (← Instr.indexAt t u v))
theorem semW_ix {t ty : TypeId} {i j : Nat} {u v : Value} (h : i ≠ j) : semW (.indexAddr t (.tmp i) (.tmp j)) ty [(i,u),(j,v)] = idxS t u v := by
 have h' : (i == j) = false := by simpa using h
 simp [semW,execOp,arW,h',idxS]
theorem strIx {t ty : TypeId} {i j : Nat} (h : i ≠ j) (ht : Tryz.prog.underlying t = some .string) {s : List UInt8} {k : Nat} {x : Int} {c : UInt8} (hx : x = k) (hk : s[k]? = some c) {A : HP} :
  ORead Tryz.prog (semW (.index t (.tmp i) (.tmp j)) ty [(i,.string ⟨s.toArray⟩),(j,.int .i64 x)]) A (.int .u8 c.toNat) := fun w R hh F st _ => by
 have h' : (i == j) = false := by simpa using h
 subst hx
 have hkl : k < s.length := (List.getElem?_eq_some_iff.1 hk).1
 have e : (Instr.index t (.string ⟨s.toArray⟩) (.int .i64 k)).run Tryz.prog w = .ok (.int .u8 c.toNat) w := by
  have hb : (⟨s.toArray⟩ : ByteArray)[k]? = some c := by
   have hz : k < (⟨s.toArray⟩ : ByteArray).size := by simp [ByteArray.size]; exact hkl
   rw [getElem?_pos (⟨s.toArray⟩ : ByteArray) k hz]
   rw [List.getElem?_eq_getElem hkl] at hk
   exact hk
  unfold Instr.index
  simp [asIntOf,Sem.run_bind,RX.run_underlying ht,hb]
 simp only [semW,execOp,arW,List.find?_cons,beq_self_eq_true,h']
 rw [Sem.run_bind,e]
 rfl
end Go.Proofs.YtdieogcemmnaaaaGreatDoor

namespace Go.Proofs.YtdieogcemmnaaaaGreatDoor
set_option linter.unusedSimpArgs false
set_option linter.unusedVariables false
open Go.Proofs.YtdieogcemmnaaaaGreatDoor RX
set_option maxRecDepth 100000
end Go.Proofs.YtdieogcemmnaaaaGreatDoor

namespace Go.Proofs.YtdieogcemmnaaaaGreatDoor
set_option linter.unusedSimpArgs false
set_option linter.unusedVariables false
open Go.Proofs.YtdieogcemmnaaaaGreatDoor RX
set_option maxRecDepth 100000
end Go.Proofs.YtdieogcemmnaaaaGreatDoor

namespace Go.Proofs.YtdieogcemmnaaaaGreatDoor
open Go.Proofs.YtdieogcemmnaaaaGreatDoor RX
set_option maxRecDepth 100000
def Step (T : List Nd) (d : Nat) (nm : Nm) (k : Nat) : Prop := ∃ n,nodeAt T d = some n ∧ n.kind = 1 ∧ lk n.ents nm = some k
inductive Rch (T : List Nd) : Nat → Prop where
 | root : Rch T 0
 | step {d k : Nat} {w : Nm} : Rch T d → Step T d w k → Rch T k
theorem rename_err {T : List Nd} {p q : Nm} (h : (renameS T p q).2 ≠ 0 ∨ q = p) : (renameS T p q).1 = T := by
 unfold renameS at h ⊢
 split
 ·rfl
 ·split
  ·rfl
  ·split
   ·rfl
   ·split
    ·rfl
    ·rename_i h1 h2 h3 h4
     rw [if_neg h1,if_neg h2,if_neg h3,if_neg h4] at h
     rcases h with h | h
     ·exact absurd rfl h
     ·exact absurd h h2
end Go.Proofs.YtdieogcemmnaaaaGreatDoor

namespace Go.Proofs.YtdieogcemmnaaaaGreatDoor
open Go.Proofs.YtdieogcemmnaaaaGreatDoor RX
set_option maxRecDepth 100000
def Reach (T : List Nd) : Prop := ∀ n ∈ T,Rch T n.num
theorem nodup_sub {α : Type} [DecidableEq α] : ∀ {l m : List α},l.Nodup → (∀ x ∈ l,x ∈ m) → l.length ≤ m.length
 | [],_,_,_ => Nat.zero_le _
 | x :: l,m,h,hs => by
  rw [List.nodup_cons] at h
  have hx := hs x (by simp)
  have ih := nodup_sub (m := m.erase x) h.2 fun y hy => by
   have : y ≠ x := fun e => h.1 (by rw [← e]; exact hy)
   exact (List.mem_erase_of_ne this).2 (hs y (by simp [hy]))
  rw [List.length_erase_of_mem hx] at ih
  have := List.length_pos_of_mem hx
  rw [List.length_cons]; omega
end Go.Proofs.YtdieogcemmnaaaaGreatDoor

namespace Go.Proofs.YtdieogcemmnaaaaGreatDoor
open Go.Proofs.YtdieogcemmnaaaaGreatDoor RX
set_option maxRecDepth 100000
variable {T : List Nd}
end Go.Proofs.YtdieogcemmnaaaaGreatDoor

namespace Go.Proofs.YtdieogcemmnaaaaGreatDoor.RX
set_option maxRecDepth 100000
-- (*tideline/tree.Tree).whole: ρ := [.n t,.p tP]
end Go.Proofs.YtdieogcemmnaaaaGreatDoor.RX

namespace Go.Proofs.YtdieogcemmnaaaaGreatDoor
set_option linter.unusedSimpArgs false
set_option linter.unusedVariables false
open Go.Proofs.YtdieogcemmnaaaaGreatDoor RX
set_option maxRecDepth 100000
end Go.Proofs.YtdieogcemmnaaaaGreatDoor

namespace Go.Proofs.YtdieogcemmnaaaaGreatDoor.RX
set_option maxRecDepth 100000
-- tideline/snap.Decode: ρ := [.a ba,.n bl,.n bc,.p bP]
end Go.Proofs.YtdieogcemmnaaaaGreatDoor.RX

namespace Go.Proofs.YtdieogcemmnaaaaGreatDoor
set_option linter.unusedSimpArgs false
set_option linter.unusedVariables false
open Go.Proofs.YtdieogcemmnaaaaGreatDoor RX
set_option maxRecDepth 100000
end Go.Proofs.YtdieogcemmnaaaaGreatDoor

namespace Go.Proofs.YtdieogcemmnaaaaGreatDoor.RX
set_option maxRecDepth 100000
-- tideline/replay.New: ρ := []
end Go.Proofs.YtdieogcemmnaaaaGreatDoor.RX

namespace Go.Proofs.YtdieogcemmnaaaaGreatDoor
set_option linter.unusedSimpArgs false
set_option linter.unusedVariables false
open Go.Proofs.YtdieogcemmnaaaaGreatDoor RX
set_option maxRecDepth 100000
def ans0 : Value := .agg #[.int .i64 0,.int .i64 0,.int .i64 0,.int .i64 0,.slice none 0 0,.slice none 0 0]
structure RpS where
 nx : Int
 tb : Nat
 t : TS
 am : Nat
 f : IdM → Option AnsM
 up : Int
 at' : Int
 la : Int
variable {b : Nat} {s : RpS}
theorem rdImp {S : HP} {a : Option Addr} {n : Nat} {xs : List Value} (h : ∀ R x,S.p R x → (RoC 1 a n xs).p R x) : RdL S a n xs := ⟨Rd.impR (RdL.ro 1 a n xs).rd h,fun R x H e => (RdL.ro 1 a n xs).none R x (h R x H) e⟩
def CallP.m (x : CallP) (a : Option Addr) (c : Nat) : CallM := ⟨x.kind,x.path,x.other,x.off,x.n,a,x.data.length,c⟩
end Go.Proofs.YtdieogcemmnaaaaGreatDoor

namespace Go.Proofs.YtdieogcemmnaaaaGreatDoor
open Go.Proofs.YtdieogcemmnaaaaGreatDoor RX
set_option maxRecDepth 100000
theorem beN_snoc (v n : Nat) : beN v (n + 1) = beN (v / 256) n ++ [UInt8.ofNat v] := by
 unfold beN
 rw [List.range_succ,List.map_append]
 congr 1
 ·refine List.map_congr_left fun j hj => ?_
  have hj := List.mem_range.1 hj
  unfold byteAt
  have e : 2 ^ (8 * (n + 1 - 1 - j)) = 256 * 2 ^ (8 * (n - 1 - j)) := by
   rw [show 8 * (n + 1 - 1 - j) = 8 * (n - 1 - j) + 8 by omega,Nat.pow_add]; omega
  rw [e,Nat.div_div_eq_div_mul]
 ·simp [byteAt]
theorem beV_beN : ∀ (n v : Nat),v < 256 ^ n → beV (beN v n) = v
 | 0,v,h => by simp at h; subst h; rfl
 | n + 1,v,h => by
  rw [beN_snoc,beV_snoc,beV_beN n (v / 256) (by rw [Nat.pow_succ] at h; omega),UInt8.toNat_ofNat']
  omega
theorem unwrap_wrap (l : List UInt8) : unwrapS (wrapS l) = some l := by
 have h4 : (256 : Nat) ^ 4 = 4294967296 := by decide
 unfold unwrapS
 rw [wrapS_len,if_neg (by omega),Nat.add_sub_cancel]
 unfold wrapS
 rw [List.drop_left,List.take_left,beV_beN 4 _ (by have := sumS_lt l; omega),if_pos rfl]
end Go.Proofs.YtdieogcemmnaaaaGreatDoor

namespace Go.Proofs.YtdieogcemmnaaaaGreatDoor.RX
set_option maxRecDepth 100000
-- tideline/tidelineref01.Put: ρ := [.a outa,.n outl,.n outc,.p outP,.i v,.i n]
def t_r1Put : T :=
(.br (.o2 .lt (.i 8) (.v 5))
(.loop [.a,.n,.n,.i,.p] [.a (.v 0),.e (.o2 .nadd (.v 1) (.n 0)),.e (.o2 .nadd (.v 2) (.n 0)),.e (.o1 .neg (.o1 .neg (.i 7))),.p [(.a 0,.prop 3)]]
(.br (.o2 .le (.i 0) (.v 9))
(.loop [.i,.i] [.e (.o1 .neg (.o1 .neg (.v 4))),.e (.o1 .neg (.o1 .neg (.i 0)))]
(.br (.o2 .lt (.v 12) (.v 9))
(.need (.o1 (.inr .u64) (.o2 .quo (.v 11) (.i 256)))
(.need (.o1 (.inr .i64) (.o2 .add (.v 12) (.i 1)))
(.again 0 [.e (.o1 .neg (.o1 .neg (.o2 .quo (.v 11) (.i 256)))),.e (.o1 .neg (.o1 .neg (.o2 .add (.v 12) (.i 1))))])))
(.new
(.op (.call ⟨.builtin .append,#[.tmp 26,.tmp 30],#[28,28]⟩) 28 [(26,.w (.a (.sl (.v 6) (.v 7) (.v 8)))),(30,.w (.a (.sl (.b (.v 13) 0) (.n 1) (.n 1))))] [(.a 6,.prop 10),(.b (.v 13),.cells [.int .u8 (.o1 (.wrap .u8) (.o2 .rem (.v 11) (.i 256)))] 5)] [.a,.n,.n,.p] (.w (.a (.sl (.v 14) (.v 15) (.v 16)))) [(.a 14,.prop 17),(.b (.v 13),.cells [.int .u8 (.o1 (.wrap .u8) (.o2 .rem (.v 11) (.i 256)))] 5)]
(.need (.o1 (.inr .i64) (.o2 .sub (.v 9) (.i 1)))
(.again 1 [.a (.v 14),.e (.o2 .nadd (.v 15) (.n 0)),.e (.o2 .nadd (.v 16) (.n 0)),.e (.o1 .neg (.o1 .neg (.o2 .sub (.v 9) (.i 1)))),.p [(.a 14,.prop 17)]]))))))
(.ret (.w (.a (.sl (.v 6) (.v 7) (.v 8)))) [(.a 6,.prop 10)])))
(.need (.o1 (.inr .i64) (.o2 .sub (.v 5) (.i 1)))
(.loop [.a,.n,.n,.i,.p] [.a (.v 0),.e (.o2 .nadd (.v 1) (.n 0)),.e (.o2 .nadd (.v 2) (.n 0)),.e (.o1 .neg (.o1 .neg (.o2 .sub (.v 5) (.i 1)))),.p [(.a 0,.prop 3)]]
(.br (.o2 .le (.i 0) (.v 9))
(.loop [.i,.i] [.e (.o1 .neg (.o1 .neg (.v 4))),.e (.o1 .neg (.o1 .neg (.i 0)))]
(.br (.o2 .lt (.v 12) (.v 9))
(.need (.o1 (.inr .u64) (.o2 .quo (.v 11) (.i 256)))
(.need (.o1 (.inr .i64) (.o2 .add (.v 12) (.i 1)))
(.again 0 [.e (.o1 .neg (.o1 .neg (.o2 .quo (.v 11) (.i 256)))),.e (.o1 .neg (.o1 .neg (.o2 .add (.v 12) (.i 1))))])))
(.new
(.op (.call ⟨.builtin .append,#[.tmp 26,.tmp 30],#[28,28]⟩) 28 [(26,.w (.a (.sl (.v 6) (.v 7) (.v 8)))),(30,.w (.a (.sl (.b (.v 13) 0) (.n 1) (.n 1))))] [(.a 6,.prop 10),(.b (.v 13),.cells [.int .u8 (.o1 (.wrap .u8) (.o2 .rem (.v 11) (.i 256)))] 5)] [.a,.n,.n,.p] (.w (.a (.sl (.v 14) (.v 15) (.v 16)))) [(.a 14,.prop 17),(.b (.v 13),.cells [.int .u8 (.o1 (.wrap .u8) (.o2 .rem (.v 11) (.i 256)))] 5)]
(.need (.o1 (.inr .i64) (.o2 .sub (.v 9) (.i 1)))
(.again 1 [.a (.v 14),.e (.o2 .nadd (.v 15) (.n 0)),.e (.o2 .nadd (.v 16) (.n 0)),.e (.o1 .neg (.o1 .neg (.o2 .sub (.v 9) (.i 1)))),.p [(.a 14,.prop 17)]]))))))
(.ret (.w (.a (.sl (.v 6) (.v 7) (.v 8)))) [(.a 6,.prop 10)])))))
theorem tree_r1Put : tree Tryz.prog { absT := [5],hv := [(0,[.a 0]),(1,[.a 0]),(2,[.a 0]),(3,[.a 0])],keep := [30],rdf := true } Tryz.f102 [.a (.sl (.v 0) (.v 1) (.v 2)),.a (.int .u64 (.v 4)),.a (.int .i64 (.v 5))] [(.a 0,.prop 3)] 6 = t_r1Put := by kernel_rfl
def t_r1Bytes : T :=
(.call 102 [.a (.sl (.v 0) (.v 1) (.v 2)),.a (.int .u64 (.o1 (.wrap .u64) (.o1 .ofNat (.v 5)))),.a (.int .i64 (.i 4))] [(.a 0,.prop 3)] [.a,.n,.n,.p,.p] (.w (.a (.sl (.v 8) (.v 9) (.v 10)))) [(.a 8,.prop 11),(.a 0,.prop 12)]
(.op (.call ⟨.builtin .append,#[.tmp 10,.tmp 11],#[28,28]⟩) 28 [(10,.w (.a (.sl (.v 8) (.v 9) (.v 10)))),(11,.w (.a (.sl (.v 4) (.v 5) (.v 6))))] [(.a 8,.prop 11),(.a 4,.prop 7)] [.a,.n,.n,.p] (.w (.a (.sl (.v 13) (.v 14) (.v 15)))) [(.a 13,.prop 16),(.a 4,.prop 7)]
(.ret (.w (.a (.sl (.v 13) (.v 14) (.v 15)))) [(.a 0,.prop 12),(.a 4,.prop 7),(.a 13,.prop 16)])))
theorem tree_r1Bytes : tree Tryz.prog { absT := [5],keep := [30],turn := [(102,[0])],rdf := true } Tryz.f104 [.a (.sl (.v 0) (.v 1) (.v 2)),.a (.sl (.v 4) (.v 5) (.v 6))] [(.a 0,.prop 3),(.a 4,.prop 7)] 8 = t_r1Bytes := by kernel_rfl
def t_r1Text : T :=
(.op (.convert 9 28 (.tmp 6)) 28 [(6,.w (.a (.str (.v 4))))] [] [.a,.n,.n,.p] (.w (.a (.sl (.v 5) (.v 6) (.v 7)))) [(.a 5,.prop 8)]
(.call 104 [.a (.sl (.v 0) (.v 1) (.v 2)),.a (.sl (.v 5) (.v 6) (.v 7))] [(.a 0,.prop 3),(.a 5,.prop 8)] [.a,.n,.n,.p,.p] (.w (.a (.sl (.v 9) (.v 10) (.v 11)))) [(.a 9,.prop 12),(.a 0,.prop 13),(.a 5,.prop 8)]
(.ret (.w (.a (.sl (.v 9) (.v 10) (.v 11)))) [(.a 0,.prop 13),(.a 9,.prop 12)])))
theorem tree_r1Text : tree Tryz.prog { absT := [5],keep := [30],turn := [(104,[0])],rdf := true } Tryz.f109 [.a (.sl (.v 0) (.v 1) (.v 2)),.a (.str (.v 4))] [(.a 0,.prop 3)] 5 = t_r1Text := by kernel_rfl
def t_r5Int : T :=
(.call 102 [.a (.sl (.v 0) (.v 1) (.v 2)),.a (.int .u64 (.o1 (.wrap .u64) (.v 4))),.a (.int .i64 (.i 8))] [(.a 0,.prop 3)] [.a,.n,.n,.p,.p] (.w (.a (.sl (.v 5) (.v 6) (.v 7)))) [(.a 5,.prop 8),(.a 0,.prop 9)]
(.ret (.w (.a (.sl (.v 5) (.v 6) (.v 7)))) [(.a 0,.prop 9),(.a 5,.prop 8)]))
theorem tree_r5Int : tree Tryz.prog { absT := [5],keep := [30],rdf := true } Tryz.f103 [.a (.sl (.v 0) (.v 1) (.v 2)),.a (.int .i64 (.v 4))] [(.a 0,.prop 3)] 5 = t_r5Int := by kernel_rfl
def t_r2Sum : T :=
(.loop [.i,.i] [.e (.o1 .neg (.o1 .neg (.i 4294967295))),.e (.o1 .neg (.o1 .neg (.i 0)))]
(.br (.o2 .lt (.v 5) (.o1 .ofNat (.v 1)))
(.need (.o2 .le (.i 0) (.v 5))
(.need (.o1 .isSome (.v 0))
(.read (.load 5 (.tmp 16)) 5 [(16,.w (.a (.eptr 0 (.v 5) 1 0)))] [(.a 0,.prop 3)] [.i] (.w (.a (.int .u8 (.v 6))))
(.need (.o1 (.inr .u32) (.v 6))
(.loop [.i,.i] [.e (.o1 .neg (.o1 .neg (.o2 (.bit .xor .u32) (.v 4) (.v 6)))),.e (.o1 .neg (.o1 .neg (.i 0)))]
(.br (.o2 .lt (.v 8) (.i 8))
(.need (.o1 (.inr .u32) (.o2 .quo (.v 7) (.i 2)))
(.br (.o2 .eq (.o2 .rem (.v 7) (.i 2)) (.i 1))
(.need (.o1 (.inr .i64) (.o2 .add (.v 8) (.i 1)))
(.again 0 [.e (.o1 .neg (.o1 .neg (.o2 (.bit .xor .u32) (.o2 .quo (.v 7) (.i 2)) (.i 3988292384)))),.e (.o1 .neg (.o1 .neg (.o2 .add (.v 8) (.i 1))))]))
(.need (.o1 (.inr .i64) (.o2 .add (.v 8) (.i 1)))
(.again 0 [.e (.o1 .neg (.o1 .neg (.o2 .quo (.v 7) (.i 2)))),.e (.o1 .neg (.o1 .neg (.o2 .add (.v 8) (.i 1))))]))))
(.need (.o1 (.inr .i64) (.o2 .add (.v 5) (.i 1)))
(.again 1 [.e (.o1 .neg (.o1 .neg (.v 7))),.e (.o1 .neg (.o1 .neg (.o2 .add (.v 5) (.i 1))))]))))))))
(.ret (.w (.a (.int .u32 (.o1 (.wrap .u32) (.o2 .sub (.i 4294967295) (.v 4)))))) [(.a 0,.prop 3)])))
theorem tree_r2Sum : tree Tryz.prog { absT := [5],keep := [30],rdf := true } Tryz.f166 [.a (.sl (.v 0) (.v 1) (.v 2))] [(.a 0,.prop 3)] 4 = t_r2Sum := by kernel_rfl
def t_r2Wrap : T :=
(.new
(.op (.call ⟨.builtin .append,#[.tmp 4,.tmp 5],#[28,28]⟩) 28 [(4,.w (.a (.sl (.b (.v 4) 0) (.n 0) (.n 0)))),(5,.w (.a (.sl (.v 0) (.v 1) (.v 2))))] [(.b (.v 4),.cells [] 5),(.a 0,.prop 3)] [.a,.n,.n,.p] (.w (.a (.sl (.v 5) (.v 6) (.v 7)))) [(.a 5,.prop 8),(.a 0,.prop 3)]
(.call 166 [.a (.sl (.v 0) (.v 1) (.v 2))] [(.a 0,.prop 3)] [.i] (.w (.a (.int .u32 (.v 9)))) [(.a 0,.prop 3)]
(.need (.o1 (.inr .u64) (.v 9))
(.call 102 [.a (.sl (.v 5) (.v 6) (.v 7)),.a (.int .u64 (.v 9)),.a (.int .i64 (.i 4))] [(.a 5,.prop 8)] [.a,.n,.n,.p,.p] (.w (.a (.sl (.v 10) (.v 11) (.v 12)))) [(.a 10,.prop 13),(.a 5,.prop 14)]
(.ret (.w (.a (.sl (.v 10) (.v 11) (.v 12)))) [(.a 0,.prop 3),(.a 10,.prop 13)]))))))
theorem tree_r2Wrap : tree Tryz.prog { absT := [5],keep := [166,30],rdf := true } Tryz.f105 [.a (.sl (.v 0) (.v 1) (.v 2))] [(.a 0,.prop 3)] 4 = t_r2Wrap := by kernel_rfl
def t_r5Encode : T :=
(.new
(.new
(.call 109 [.a (.sl (.b (.v 10) 0) (.n 1) (.n 1)),.a (.str (.v 1))] [(.b (.v 10),.cells [.int .u8 (.o1 (.wrap .u8) (.v 0))] 5)] [.a,.n,.n,.p,.p] (.w (.a (.sl (.v 11) (.v 12) (.v 13)))) [(.a 11,.prop 14),(.b (.v 10),.prop 15)]
(.call 109 [.a (.sl (.v 11) (.v 12) (.v 13)),.a (.str (.v 2))] [(.a 11,.prop 14)] [.a,.n,.n,.p,.p] (.w (.a (.sl (.v 16) (.v 17) (.v 18)))) [(.a 16,.prop 19),(.a 11,.prop 20)]
(.call 103 [.a (.sl (.v 16) (.v 17) (.v 18)),.a (.int .i64 (.v 3))] [(.a 16,.prop 19)] [.a,.n,.n,.p,.p] (.w (.a (.sl (.v 21) (.v 22) (.v 23)))) [(.a 21,.prop 24),(.a 16,.prop 25)]
(.call 103 [.a (.sl (.v 21) (.v 22) (.v 23)),.a (.int .i64 (.v 4))] [(.a 21,.prop 24)] [.a,.n,.n,.p,.p] (.w (.a (.sl (.v 26) (.v 27) (.v 28)))) [(.a 26,.prop 29),(.a 21,.prop 30)]
(.call 104 [.a (.sl (.v 26) (.v 27) (.v 28)),.a (.sl (.v 5) (.v 6) (.v 7))] [(.a 26,.prop 29),(.a 5,.prop 8)] [.a,.n,.n,.p,.p] (.w (.a (.sl (.v 31) (.v 32) (.v 33)))) [(.a 31,.prop 34),(.a 26,.prop 35),(.a 5,.prop 8)]
(.call 105 [.a (.sl (.v 31) (.v 32) (.v 33))] [(.a 31,.prop 34)] [.a,.n,.n,.p,.p] (.w (.a (.sl (.v 36) (.v 37) (.v 38)))) [(.a 36,.prop 39),(.a 31,.prop 40)]
(.ret (.w (.a (.sl (.v 36) (.v 37) (.v 38)))) [(.a 5,.prop 8),(.a 36,.prop 39)])))))))))
theorem tree_r5Encode : tree Tryz.prog { absT := [5],keep := [30],turn := [(104,[0])],rdf := true } Tryz.f46 [.agg [.int .i64 (.v 0),.str (.v 1),.str (.v 2),.int .i64 (.v 3),.int .i64 (.v 4),.sl (.v 5) (.v 6) (.v 7)]] [(.a 5,.prop 8)] 9 = t_r5Encode := by kernel_rfl
def t_r7Bytes : T :=
(.new
(.new
(.call 102 [.a (.sl (.b (.v 11) 0) (.n 1) (.n 1)),.a (.int .u64 (.o1 (.wrap .u64) (.v 1))),.a (.int .i64 (.i 4))] [(.b (.v 11),.cells [.int .u8 (.o1 (.wrap .u8) (.v 0))] 5)] [.a,.n,.n,.p,.p] (.w (.a (.sl (.v 12) (.v 13) (.v 14)))) [(.a 12,.prop 15),(.b (.v 11),.prop 16)]
(.call 102 [.a (.sl (.v 12) (.v 13) (.v 14)),.a (.int .u64 (.o1 (.wrap .u64) (.v 2))),.a (.int .i64 (.i 4))] [(.a 12,.prop 15)] [.a,.n,.n,.p,.p] (.w (.a (.sl (.v 17) (.v 18) (.v 19)))) [(.a 17,.prop 20),(.a 12,.prop 21)]
(.call 102 [.a (.sl (.v 17) (.v 18) (.v 19)),.a (.int .u64 (.o1 (.wrap .u64) (.v 3))),.a (.int .i64 (.i 4))] [(.a 17,.prop 20)] [.a,.n,.n,.p,.p] (.w (.a (.sl (.v 22) (.v 23) (.v 24)))) [(.a 22,.prop 25),(.a 17,.prop 26)]
(.new
(.op (.call ⟨.builtin .append,#[.tmp 26,.tmp 30],#[28,28]⟩) 28 [(26,.w (.a (.sl (.v 22) (.v 23) (.v 24)))),(30,.w (.a (.sl (.b (.v 27) 0) (.n 1) (.n 1))))] [(.a 22,.prop 25),(.b (.v 27),.cells [.int .u8 (.o1 (.wrap .u8) (.v 4))] 5)] [.a,.n,.n,.p] (.w (.a (.sl (.v 28) (.v 29) (.v 30)))) [(.a 28,.prop 31),(.b (.v 27),.cells [.int .u8 (.o1 (.wrap .u8) (.v 4))] 5)]
(.call 103 [.a (.sl (.v 28) (.v 29) (.v 30)),.a (.int .i64 (.v 5))] [(.a 28,.prop 31)] [.a,.n,.n,.p,.p] (.w (.a (.sl (.v 32) (.v 33) (.v 34)))) [(.a 32,.prop 35),(.a 28,.prop 36)]
(.call 104 [.a (.sl (.v 32) (.v 33) (.v 34)),.a (.sl (.v 6) (.v 7) (.v 8))] [(.a 32,.prop 35),(.a 6,.prop 9)] [.a,.n,.n,.p,.p] (.w (.a (.sl (.v 37) (.v 38) (.v 39)))) [(.a 37,.prop 40),(.a 32,.prop 41),(.a 6,.prop 9)]
(.call 105 [.a (.sl (.v 37) (.v 38) (.v 39))] [(.a 37,.prop 40)] [.a,.n,.n,.p,.p] (.w (.a (.sl (.v 42) (.v 43) (.v 44)))) [(.a 42,.prop 45),(.a 37,.prop 46)]
(.ret (.w (.a (.sl (.v 42) (.v 43) (.v 44)))) [(.a 6,.prop 9),(.a 42,.prop 45)])))))))))))
theorem tree_r7Bytes : tree Tryz.prog { absT := [5],keep := [30],turn := [(104,[0])],rdf := true } Tryz.f39 [.agg [.int .i64 (.v 0),.int .i64 (.v 1),.int .i64 (.v 2),.int .i64 (.v 3),.int .i64 (.v 4),.int .i64 (.v 5),.sl (.v 6) (.v 7) (.v 8)]] [(.a 6,.prop 9)] 10 = t_r7Bytes := by kernel_rfl
end Go.Proofs.YtdieogcemmnaaaaGreatDoor.RX

namespace Go.Proofs.YtdieogcemmnaaaaGreatDoor
set_option linter.unusedSimpArgs false
set_option linter.unusedVariables false
open Go.Proofs.YtdieogcemmnaaaaGreatDoor RX
set_option maxRecDepth 100000
theorem quo256 (v m : Nat) : (((v / 256 ^ m : Nat) : Int)).tdiv 256 = ((v / 256 ^ (m + 1) : Nat) : Int) := by
 rw [Nat.pow_succ,← Nat.div_div_eq_div_mul]
 exact (Int.ofNat_tdiv _ _).symm
theorem byteAt_rem (v k j : Nat) (hj : j < k) : IntKind.u8.wrap ((((v / 256 ^ (k - 1 - j) : Nat) : Int)).tmod 256) = ((byteAt v k j).toNat : Int) := by
 have e1 : (((v / 256 ^ (k - 1 - j) : Nat) : Int)).tmod 256 = ((v / 256 ^ (k - 1 - j) % 256 : Nat) : Int) := (Int.ofNat_tmod _ _).symm
 have e2 : (256 : Nat) ^ (k - 1 - j) = 2 ^ (8 * (k - 1 - j)) := by rw [Nat.pow_mul]
 rw [e1,e2]
 simp only [IntKind.wrap,IntKind.bits,IntKind.signed,byteAt,UInt8.toNat_ofNat',Bool.false_and,Bool.false_eq_true,if_false]
 omega
set_option maxHeartbeats 1000000 in
theorem r1Put_ok (a : Option Addr) (c : Nat) (l : List UInt8) (v k : Nat) (hk : k ≤ 8) (hv : v < 18446744073709551616) (hb : l.length + 8 ≤ 140737488355328) :
  Tri Tryz.prog 102 #[.slice a l.length c,.int .u64 v,.int .i64 k] (OwB a l.length c l) (fun x => HP.ex fun a' => HP.ex fun c' => HP.and (x = .slice a' (l.length + k) c') (OwB a' (l.length + k) c' (l ++ beN v k))) := by
 refine tri_of_tree (ρ := [.a a,.n l.length,.n c,.p (OwB a l.length c l),.i v,.i k]) mixed Tryz.func102 tree_r1Put ?_
 unfold t_r1Put
 simp only [T.den,E.prop,E.den,RX.look,F1.app,F2.app,Uni.int_i,Uni.nat_n,Uni.bool_c,Uni.str_s,Uni.adr_a,Uni.val_v,Uni.hp_p,hden,cden,V.den,W.den,A.den,BR.den,SA.den,FV.den,capV,exs,exP,allP,Cur.app,List.map_cons,List.map_nil,List.cons_append,List.nil_append,List.drop_succ_cons,List.drop_zero,List.length_cons,List.length_nil,Nat.zero_add,Nat.reduceAdd,Int.neg_neg,Bool.not_not,List.append_nil,Nat.add_zero,List.getElem?_cons_zero,List.getElem?_cons_succ,Decidable.not_not,semW_eq,semW_append,ne_eq,Nat.reduceEqDiff,not_false_eq_true]
 refine ⟨fun h => by omega,fun _ => ⟨inI64 _ (by omega) (by omega),fun _ => ?_⟩⟩
 refine ⟨fun a n c i P => ∃ j : Nat,j ≤ k ∧ n = l.length + j ∧ i = (k : Int) - 1 - j ∧ HP.ent P (OwB a (l.length + j) c (l ++ (beN v k).take j)),fun _ _ _ i _ => (i + 1).toNat,⟨0,Nat.zero_le _,rfl,by simp,by simpa using HP.ent.refl _⟩,?_⟩
 rintro a n c i P ⟨j,hj,rfl,rfl,hP⟩
 refine ⟨fun hge => ?_,fun hlt => ?_⟩
 ·have hjk : j < k := by omega
  refine ⟨fun x q => ∃ m : Nat,m ≤ k - 1 - j ∧ q = m ∧ x = ((v / 256 ^ m : Nat) : Int),fun _ q => (k - 1 - j) - q.toNat,⟨0,Nat.zero_le _,rfl,by simp⟩,?_⟩
  rintro x q ⟨m,hm,rfl,rfl⟩
  refine ⟨fun hlt => ?_,fun hge2 => ?_⟩
  ·rw [quo256]
   have h1 : v / 256 ^ (m + 1) ≤ v := Nat.div_le_self _ _
   have h2 : ∃ w : Nat,v / 256 ^ (m + 1) = w := ⟨_,rfl⟩
   refine ⟨inU64 _ (Int.natCast_nonneg _) (by obtain ⟨w,hw⟩ := h2; rw [hw] at h1 ⊢; omega),fun _ => ⟨inI64 _ (by omega) (by omega),fun _ => ⟨⟨m + 1,by omega,by omega,rfl⟩,by dsimp only; omega⟩⟩⟩
  ·obtain rfl : m = k - 1 - j := by omega
   intro y
   rw [byteAt_rem v k j hjk]
   refine OTri.pre3 ((append8 a (l.length + j) c (l ++ (beN v k).take j) _ (some ⟨y,0,none⟩) 1 1 [byteAt v k j] ⟨one_rd y #[u8v (byteAt v k j)] _,fun _ _ _ e => by cases e⟩ rfl (fun _ => rfl) (by omega)).weak (fun _ _ h => h) ?_) (HP.ent.sep hP _)
   rintro r R h ⟨a',c',rfl,H⟩
   refine ⟨a',l.length + j + 1,c',_,rfl,⟨inI64 _ (by omega) (by omega),fun _ => ⟨⟨j + 1,hjk,rfl,by omega,?_⟩,by dsimp only; omega⟩⟩,H⟩
   rw [beN_take v k j hjk,← List.append_assoc]
   exact HP.ent.refl _
 ·obtain rfl : j = k := by omega
  refine hP.trans (.of fun R h H => ⟨a,c,rfl,?_⟩)
  rw [List.take_of_length_le (by rw [beN_len]; exact Nat.le_refl _)] at H
  exact H
def lenB' (q : List UInt8) : List UInt8 := beN q.length 4 ++ q
theorem lenB'_len (q : List UInt8) : (lenB' q).length = q.length + 4 := by unfold lenB'; simp [beN_len]; omega
theorem wrapU {x : Nat} (h : x < 18446744073709551616) : IntKind.u64.wrap (x : Int) = x := wrap_in ⟨by show (0 : Int) ≤ _; omega,by show _ ≤ (18446744073709551615 : Int); omega⟩
theorem linksN_lt' (u : Int) : linksN u < 18446744073709551616 := by
 have h1 := linksN_val u
 simp only [IntKind.wrap,IntKind.bits,IntKind.signed,Bool.false_and,Bool.false_eq_true,if_false] at h1
 omega
def Enc (S : HP) (q : List UInt8) (v : Value) : HP := HP.ex fun a' : Option Addr => HP.ex fun c' : Nat => HP.and (v = .slice a' q.length c') (HP.sep (OwB a' q.length c' q) S)
theorem r1PutE (a : Option Addr) (c : Nat) (l : List UInt8) (v k : Nat) (hk : k ≤ 8) (hv : v < 18446744073709551616) (hb : l.length + 8 ≤ 140737488355328) :
  Tri Tryz.prog 102 #[.slice a l.length c,.int .u64 v,.int .i64 k] (OwB a l.length c l) (Enc HP.tt (l ++ beN v k)) := by
 refine (r1Put_ok a c l v k hk hv hb).weak (fun _ _ h => h) ?_
 rintro r R h ⟨a',c',rfl,H⟩
 refine ⟨a',c',?_,?_⟩
 ·rw [List.length_append,beN_len]
 ·rw [List.length_append,beN_len]; exact HP.sep_tt H
theorem r1Bytes_ok (a : Option Addr) (c : Nat) (l : List UInt8) (b : Option Addr) (d : Nat) (q : List UInt8) (S : HP) (hr : RdL S b q.length (q.map u8v)) (hs : q.length ≠ 0 → b.isSome = true) (hb : l.length + q.length + 100 ≤ 140737488355328) :
  Tri Tryz.prog 104 #[.slice a l.length c,.slice b q.length d] (HP.sep (OwB a l.length c l) S) (Enc S (l ++ lenB' q)) := by
 refine tri_of_tree (ρ := [.a a,.n l.length,.n c,.p (OwB a l.length c l),.a b,.n q.length,.n d,.p S]) mixed Tryz.func104 tree_r1Bytes ?_
 unfold t_r1Bytes
 simp only [T.den,E.prop,E.den,RX.look,F1.app,F2.app,Uni.int_i,Uni.nat_n,Uni.bool_c,Uni.str_s,Uni.adr_a,Uni.val_v,Uni.hp_p,hden,cden,V.den,W.den,A.den,BR.den,SA.den,FV.den,capV,exs,exP,allP,Cur.app,List.map_cons,List.map_nil,List.cons_append,List.nil_append,List.drop_succ_cons,List.drop_zero,List.length_cons,List.length_nil,Nat.zero_add,Nat.reduceAdd,Int.neg_neg,Bool.not_not,List.append_nil,Nat.add_zero,List.getElem?_cons_zero,List.getElem?_cons_succ,Decidable.not_not,semW_eq,semW_append,ne_eq,Nat.reduceEqDiff,not_false_eq_true]
 rw [wrapU (by omega)]
 refine (r1Put_ok a c l q.length 4 (by omega) (by omega) (by omega)).weak (fun _ _ h => h) ?_
 rintro v R h ⟨a1,c1,rfl,H⟩
 refine ⟨a1,l.length + 4,c1,OwB a1 (l.length + 4) c1 (l ++ beN q.length 4),HP.tt,rfl,?_,HP.sep_tt H⟩
 clear H
 refine (append8 a1 (l.length + 4) c1 (l ++ beN q.length 4) S b q.length d q hr rfl hs (by omega)).weak (fun _ _ h => h) ?_
 rintro v R h ⟨a2,c2,rfl,H⟩
 refine ⟨a2,l.length + 4 + q.length,c2,OwB a2 (l.length + 4 + q.length) c2 (l ++ beN q.length 4 ++ q),rfl,.of fun R h H => ⟨a2,c2,?_,?_⟩,H⟩
 ·rw [List.length_append,lenB'_len,Nat.add_assoc,Nat.add_comm 4]
 ·have H2 := HP.sep_right H
  rw [List.length_append,lenB'_len,show l ++ lenB' q = l ++ beN q.length 4 ++ q by unfold lenB'; rw [List.append_assoc],show l.length + (q.length + 4) = l.length + 4 + q.length by omega]
  exact HP.sep_comm H2
theorem r1Text_ok (a : Option Addr) (c : Nat) (l : List UInt8) (s : Nm) (hb : l.length + s.length + 100 ≤ 140737488355328) :
  Tri Tryz.prog 109 #[.slice a l.length c,sE s] (OwB a l.length c l) (Enc HP.tt (l ++ lenB' s)) := by
 refine tri_of_tree (ρ := [.a a,.n l.length,.n c,.p (OwB a l.length c l),.s s]) mixed Tryz.func109 tree_r1Text ?_
 unfold t_r1Text
 simp only [T.den,E.prop,E.den,RX.look,F1.app,F2.app,Uni.int_i,Uni.nat_n,Uni.bool_c,Uni.str_s,Uni.adr_a,Uni.val_v,Uni.hp_p,hden,cden,V.den,W.den,A.den,BR.den,SA.den,FV.den,capV,exs,exP,allP,Cur.app,List.map_cons,List.map_nil,List.cons_append,List.nil_append,List.drop_succ_cons,List.drop_zero,List.length_cons,List.length_nil,Nat.zero_add,Nat.reduceAdd,Int.neg_neg,Bool.not_not,List.append_nil,Nat.add_zero,List.getElem?_cons_zero,List.getElem?_cons_succ,Decidable.not_not,semW_eq,ne_eq,Nat.reduceEqDiff,not_false_eq_true]
 rw [semW_cnv]
 refine (strB_ok s HP.tt).weak (fun _ _ h => h) ?_
 rintro v R h ⟨z,c2,⟨rfl,hc⟩,H⟩
 refine ⟨some ⟨z,0,none⟩,_,c2,RoB (some ⟨z,0,none⟩) s.length s,rfl,?_,HP.sep_left H⟩
 clear H
 refine (r1Bytes_ok a c l (some ⟨z,0,none⟩) c2 s (RoB (some ⟨z,0,none⟩) s.length s) (RdL.ro _ _ _ _) (fun _ => rfl) hb).weak (fun _ _ h => h) ?_
 rintro v R h ⟨a2,c3,rfl,H⟩
 refine ⟨a2,_,c3,OwB a2 (l ++ lenB' s).length c3 (l ++ lenB' s),HP.tt,rfl,.of fun R h H => ⟨a2,c3,rfl,HP.sep_comm H⟩,HP.sep_mono H (fun _ h => h) fun x hx => HP.tt_sep hx⟩
theorem r5Int_ok (a : Option Addr) (c : Nat) (l : List UInt8) (n : Int) (hb : l.length + 100 ≤ 140737488355328) :
  Tri Tryz.prog 103 #[.slice a l.length c,.int .i64 n] (OwB a l.length c l) (Enc HP.tt (l ++ beN (linksN n) 8)) := by
 refine tri_of_tree (ρ := [.a a,.n l.length,.n c,.p (OwB a l.length c l),.i n]) mixed Tryz.func103 tree_r5Int ?_
 unfold t_r5Int
 simp only [T.den,E.prop,E.den,RX.look,F1.app,F2.app,Uni.int_i,Uni.nat_n,Uni.bool_c,Uni.str_s,Uni.adr_a,Uni.val_v,Uni.hp_p,hden,cden,V.den,W.den,A.den,BR.den,SA.den,FV.den,capV,exs,exP,allP,Cur.app,List.map_cons,List.map_nil,List.cons_append,List.nil_append,List.drop_succ_cons,List.drop_zero,List.length_cons,List.length_nil,Nat.zero_add,Nat.reduceAdd,Int.neg_neg,Bool.not_not,List.append_nil,Nat.add_zero,List.getElem?_cons_zero,List.getElem?_cons_succ,Decidable.not_not,semW_eq,ne_eq,Nat.reduceEqDiff,not_false_eq_true]
 rw [← linksN_val]
 refine (r1Put_ok a c l (linksN n) 8 (by omega) (linksN_lt' n) (by omega)).weak (fun _ _ h => h) ?_
 rintro v R h ⟨a1,c1,rfl,H⟩
 refine ⟨a1,l.length + 8,c1,OwB a1 (l.length + 8) c1 (l ++ beN (linksN n) 8),HP.tt,rfl,.of fun R h H => ⟨a1,c1,?_,?_⟩,HP.sep_tt H⟩
 ·rw [List.length_append,beN_len]
 ·rw [List.length_append,beN_len]; exact HP.sep_comm H
def bit1 (s : Nat) : Nat := if s % 2 = 1 then s / 2 ^^^ 3988292384 else s / 2
def bits1 : Nat → Nat → Nat | 0,s => s | k + 1,s => bits1 k (bit1 s)
theorem bits1_succ (k s : Nat) : bits1 (k + 1) s = bit1 (bits1 k s) := by
 induction k generalizing s with
 | zero => rfl
 | succ k ih => show bits1 (k + 1) (bit1 s) = _; rw [ih]; rfl
theorem bit1_xor (a b : Nat) : bit1 (a ^^^ b) = bit1 a ^^^ bit1 b := by
 have h2 : (a ^^^ b) / 2 = a / 2 ^^^ b / 2 := Nat.xor_div_two
 have h1 : (a ^^^ b) % 2 = (a % 2) ^^^ (b % 2) := by
  have := Nat.xor_mod_two_pow (a := a) (b := b) (n := 1)
  simpa using this
 unfold bit1
 rw [h1,h2]
 rcases Nat.mod_two_eq_zero_or_one a with ha | ha <;> rcases Nat.mod_two_eq_zero_or_one b with hb | hb <;> rw [ha,hb]
 ·simp
 ·simp [Nat.xor_assoc]
 ·simp only [Nat.xor_zero,if_true,Nat.zero_ne_one,if_false]
  rw [Nat.xor_assoc,Nat.xor_comm (b / 2),← Nat.xor_assoc]
 ·have : ¬ ((1 : Nat) ^^^ 1 = 1) := by decide
  rw [if_neg this,if_pos rfl,if_pos rfl]
  rw [Nat.xor_assoc,Nat.xor_comm (b / 2),← Nat.xor_assoc 3988292384,Nat.xor_self,Nat.zero_xor]
theorem bit1_even (q : Nat) : bit1 (2 * q) = q := by
 unfold bit1
 rw [if_neg (by omega)]; omega
theorem split16 (s : Nat) : s = (2 ^ 4 * (s / 16)) ^^^ (s % 16) := by
 have h16 : s % 16 < 2 ^ 4 := by omega
 have e : s = 2 ^ 4 * (s / 16) + s % 16 := by omega
 conv => lhs; rw [e]
 apply Nat.eq_of_testBit_eq
 intro j
 rw [Nat.testBit_two_pow_mul_add _ h16,Nat.testBit_xor,Nat.testBit_two_pow_mul]
 by_cases hj : j < 4
 ·rw [if_pos hj]
  have : ¬ 4 ≤ j := by omega
  simp [this]
 ·rw [if_neg hj]
  have h4 : 4 ≤ j := by omega
  have : (s % 16).testBit j = false := Nat.testBit_lt_two_pow (Nat.lt_of_lt_of_le h16 (Nat.pow_le_pow_right (by decide) h4))
  simp [this,h4]
theorem bits4 (s : Nat) : bits1 4 s = nib s := by
 have hx : ∀ a b : Nat,bits1 4 (a ^^^ b) = bits1 4 a ^^^ bits1 4 b := fun a b => by
  simp only [bits1,bit1_xor]
 have hm : ∀ q : Nat,bits1 4 (2 ^ 4 * q) = q := fun q => by
  simp only [bits1]
  rw [show 2 ^ 4 * q = 2 * (2 * (2 * (2 * q))) by omega,bit1_even,bit1_even,bit1_even,bit1_even]
 have hr : ∀ r < 16,bits1 4 r = fours[r]?.getD 0 := by decide
 have e := split16 s
 conv => lhs; rw [e]
 rw [hx,hm,hr _ (by omega)]
 rfl
theorem bits8 (s : Nat) : bits1 8 s = nib (nib s) := by
 rw [← bits4 s,← bits4]; rfl
theorem bit1_lt {s : Nat} (h : s < 4294967296) : bit1 s < 4294967296 := by
 unfold bit1
 split
 ·exact xor32 (by omega) (by omega)
 ·omega
theorem bits1_lt {s : Nat} (h : s < 4294967296) : ∀ k,bits1 k s < 4294967296
 | 0 => h
 | k + 1 => by rw [bits1_succ]; exact bit1_lt (bits1_lt h k)
theorem compl32 {x : Nat} (h : x < 4294967296) : (4294967295 : Nat) ^^^ x = 4294967295 - x := by
 have e := congrArg BitVec.toNat (BitVec.allOnes_xor (x := BitVec.ofNat 32 x))
 rw [BitVec.toNat_xor,BitVec.toNat_not,BitVec.toNat_allOnes,BitVec.toNat_ofNat,Nat.mod_eq_of_lt (by simpa using h)] at e
 simpa using e
set_option maxHeartbeats 1000000 in
theorem r2Sum_ok (a : Option Addr) (n c : Nat) (l : List UInt8) (S : HP) (hr : RdL S a n (l.map u8v)) (hl : l.length = n) (ha : n ≠ 0 → a.isSome = true) (hb : n ≤ 140737488355328) :
  Tri Tryz.prog 166 #[.slice a n c] S (fun v => HP.and (v = .int .u32 (sumS l : Nat)) S) := by
 refine tri_of_tree (ρ := [.a a,.n n,.n c,.p S]) mixed Tryz.func166 tree_r2Sum ?_
 unfold t_r2Sum
 simp only [T.den,E.prop,E.den,RX.look,F1.app,F2.app,Uni.int_i,Uni.nat_n,Uni.bool_c,Uni.str_s,Uni.adr_a,Uni.val_v,Uni.hp_p,hden,cden,V.den,W.den,A.den,BR.den,SA.den,FV.den,capV,exs,exP,allP,Cur.app,List.map_cons,List.map_nil,List.cons_append,List.nil_append,List.drop_succ_cons,List.drop_zero,List.length_cons,List.length_nil,Nat.zero_add,Nat.reduceAdd,Int.neg_neg,Bool.not_not,List.append_nil,Nat.add_zero,List.getElem?_cons_zero,List.getElem?_cons_succ,Decidable.not_not,semW_eq,semW_load,ne_eq,Nat.reduceEqDiff,not_false_eq_true]
 refine ⟨fun s i => ∃ k : Nat,k ≤ n ∧ i = k ∧ s = ((crcS 4294967295 (l.take k) : Nat) : Int),fun _ i => n - i.toNat,⟨0,Nat.zero_le _,rfl,rfl⟩,?_⟩
 rintro _ _ ⟨k,hk,rfl,rfl⟩
 have hlt32 : crcS 4294967295 (l.take k) < 4294967296 := crcS_lt (by decide) _
 refine ⟨fun hlt => ?_,fun hge => ?_⟩
 ·have hkl : k < l.length := by omega
  obtain ⟨b,hbk⟩ : ∃ b,l[k]? = some b := ⟨_,List.getElem?_eq_getElem hkl⟩
  have hb8 := b.toNat_lt
  refine ⟨by omega,fun _ => ⟨ha (by omega),fun _ => ⟨b.toNat,load1_ok und8b agg8 sz8 hr.rd (k := k * 1) (off := 0) (by simp [u8v,hbk]),?_⟩⟩⟩
  refine ⟨⟨by show (0 : Int) ≤ _; omega,by show _ ≤ (4294967295 : Int); omega⟩,fun _ => ?_⟩
  have hx0 : crcS 4294967295 (l.take k) ^^^ b.toNat < 4294967296 := xor32 hlt32 (by omega)
  refine ⟨fun s i => ∃ m : Nat,m ≤ 8 ∧ i = m ∧ s = ((bits1 m (crcS 4294967295 (l.take k) ^^^ b.toNat) : Nat) : Int),fun _ i => 8 - i.toNat,⟨0,by omega,rfl,by rw [bxor32 hlt32 (by omega)]; rfl⟩,?_⟩
  rintro _ _ ⟨m,hm,rfl,rfl⟩
  have hm32 := bits1_lt hx0 m
  obtain ⟨y,hy⟩ : ∃ y,bits1 m (crcS 4294967295 (l.take k) ^^^ b.toNat) = y := ⟨_,rfl⟩
  have hnext := bits1_succ m (crcS 4294967295 (l.take k) ^^^ b.toNat)
  rw [hy] at hm32 hnext ⊢
  have e1 : ((y : Int)).tdiv 2 = ((y / 2 : Nat) : Int) := (Int.ofNat_tdiv _ _).symm
  have e2 : ((y : Int)).tmod 2 = ((y % 2 : Nat) : Int) := (Int.ofNat_tmod _ _).symm
  rw [e1,e2]
  refine ⟨fun hlt8 => ?_,fun hge8 => ?_⟩
  ·refine ⟨⟨by show (0 : Int) ≤ _; omega,by show _ ≤ (4294967295 : Int); omega⟩,fun _ => ⟨fun h1 => ?_,fun h1 => ?_⟩⟩
   ·refine ⟨inI64 _ (by omega) (by omega),fun _ => ⟨⟨m + 1,by omega,by omega,?_⟩,by dsimp only; omega⟩⟩
    rw [hnext]
    have := bxor32 (a := y / 2) (b := 3988292384) (by omega) (by omega)
    rw [show ((3988292384 : Nat) : Int) = 3988292384 from rfl] at this
    rw [this]
    unfold bit1; rw [if_pos (by omega)]
   ·refine ⟨inI64 _ (by omega) (by omega),fun _ => ⟨⟨m + 1,by omega,by omega,?_⟩,by dsimp only; omega⟩⟩
    rw [hnext]
    unfold bit1; rw [if_neg (by omega)]
  ·obtain rfl : m = 8 := by omega
   refine ⟨inI64 _ (by omega) (by omega),fun _ => ⟨⟨k + 1,by omega,by omega,?_⟩,by dsimp only; omega⟩⟩
   rw [List.take_add_one,hbk,Option.toList_some,crcS_snoc]
   unfold crcB
   rw [← bits8,hy]
 ·obtain rfl : k = n := by omega
  refine .of fun R h H => ⟨?_,H⟩
  rw [List.take_of_length_le (by omega)] at hlt32 ⊢
  have e : (4294967295 : Int) - ((crcS 4294967295 l : Nat) : Int) = ((4294967295 - crcS 4294967295 l : Nat) : Int) := by omega
  rw [e,wrap32 (by omega)]
  unfold sumS moreS
  have h0 : (4294967295 : Nat) ^^^ 0 = 4294967295 := by decide
  rw [h0]
  have := compl32 hlt32
  rw [this]
set_option maxHeartbeats 1000000 in
theorem r2Wrap_ok (a : Option Addr) (n c : Nat) (l : List UInt8) (S : HP) (hr : RdL S a n (l.map u8v)) (hl : l.length = n) (ha : n ≠ 0 → a.isSome = true) (hb : n ≤ 140737488355000) :
  Tri Tryz.prog 105 #[.slice a n c] S (Enc S (wrapS l)) := by
 refine tri_of_tree (ρ := [.a a,.n n,.n c,.p S]) mixed Tryz.func105 tree_r2Wrap ?_
 unfold t_r2Wrap
 simp only [T.den,E.prop,E.den,RX.look,F1.app,F2.app,Uni.int_i,Uni.nat_n,Uni.bool_c,Uni.str_s,Uni.adr_a,Uni.val_v,Uni.hp_p,hden,cden,V.den,W.den,A.den,BR.den,SA.den,FV.den,capV,exs,exP,allP,Cur.app,List.map_cons,List.map_nil,List.cons_append,List.nil_append,List.drop_succ_cons,List.drop_zero,List.length_cons,List.length_nil,Nat.zero_add,Nat.reduceAdd,Int.neg_neg,Bool.not_not,List.append_nil,Nat.add_zero,List.getElem?_cons_zero,List.getElem?_cons_succ,Decidable.not_not,semW_eq,semW_append,ne_eq,Nat.reduceEqDiff,not_false_eq_true]
 intro x
 refine (append8 (some ⟨x,0,none⟩) 0 0 [] S a n c l hr hl ha (by omega)).weak (fun R h H => HP.sep_mono H (fun y hy => ⟨rfl,.inr ⟨x,#[],rfl,hy,Nat.le_refl _,by unfold maxLen; omega,rfl,rfl⟩⟩) fun _ h => h) ?_
 rintro v R h ⟨a1,c1,rfl,H⟩
 rw [Nat.zero_add,List.nil_append] at H
 refine ⟨a1,n,c1,OwB a1 n c1 l,by rw [Nat.zero_add],?_,H⟩
 clear H
 refine (r2Sum_ok a n c l S hr hl ha (by omega)).weak (fun _ _ h => h) ?_
 rintro v R h ⟨rfl,H⟩
 have hs := sumS_lt l
 refine ⟨_,rfl,⟨inU64 _ (by omega) (by omega),fun _ => ?_⟩,H⟩
 clear H
 subst hl
 refine (r1Put_ok a1 c1 l (sumS l) 4 (by omega) (by omega) (by omega)).weak (fun _ _ h => h) ?_
 rintro v R h ⟨a2,c2,rfl,H⟩
 refine ⟨a2,l.length + 4,c2,OwB a2 (l.length + 4) c2 (l ++ beN (sumS l) 4),HP.tt,rfl,.of fun R h H => ⟨a2,c2,?_,?_⟩,HP.sep_tt H⟩
 ·rw [wrapS_len]
 ·rw [wrapS_len]; exact HP.sep_comm H
def callB (x : CallP) : List UInt8 := [byteI x.kind] ++ lenB' x.path ++ lenB' x.other ++ beN (linksN x.off) 8 ++ beN (linksN x.n) 8 ++ lenB' x.data
theorem one_ow {e : TypeId} {b : Nat} {v : Value} {R h : PH} (H : (HP.one b (.cells #[v] e (0,0))).p R h) : (OwC e 1 (some ⟨b,0,none⟩) 1 1 [v]).p R h := ⟨rfl,.inr ⟨b,#[v],rfl,H,Nat.le_refl _,by unfold maxLen; omega,rfl,rfl⟩⟩
set_option maxHeartbeats 2000000 in
theorem r5Encode_ok (x : CallP) (a : Option Addr) (c : Nat) (S : HP) (hr : RdL S a x.data.length (x.data.map u8v)) (ha : x.data.length ≠ 0 → a.isSome = true) (hb : x.path.length + x.other.length + x.data.length ≤ 100000000000000) :
  Tri Tryz.prog 46 #[x.val a c] S (Enc S (wrapS (callB x))) := by
 refine tri_of_tree (ρ := [.i x.kind,.s x.path,.s x.other,.i x.off,.i x.n,.a a,.n x.data.length,.n c,.p S]) mixed Tryz.func46 tree_r5Encode ?_
 unfold t_r5Encode
 simp only [T.den,E.prop,E.den,RX.look,F1.app,F2.app,Uni.int_i,Uni.nat_n,Uni.bool_c,Uni.str_s,Uni.adr_a,Uni.val_v,Uni.hp_p,hden,cden,V.den,W.den,A.den,BR.den,SA.den,FV.den,capV,exs,exP,allP,Cur.app,List.map_cons,List.map_nil,List.cons_append,List.nil_append,List.drop_succ_cons,List.drop_zero,List.length_cons,List.length_nil,Nat.zero_add,Nat.reduceAdd,Int.neg_neg,Bool.not_not,List.append_nil,Nat.add_zero,List.getElem?_cons_zero,List.getElem?_cons_succ,Decidable.not_not,semW_eq,ne_eq,Nat.reduceEqDiff,not_false_eq_true]
 intro y z
 rw [← byteI_val]
 refine (r1Text_ok (some ⟨z,0,none⟩) 1 [byteI x.kind] x.path (by simp; omega)).weak (fun R h H => one_ow H) ?_
 rintro v R h ⟨a1,c1,rfl,H⟩
 refine ⟨a1,_,c1,OwB a1 ([byteI x.kind] ++ lenB' x.path).length c1 ([byteI x.kind] ++ lenB' x.path),HP.tt,rfl,?_,H⟩
 clear H
 refine (r1Text_ok a1 c1 ([byteI x.kind] ++ lenB' x.path) x.other (by simp [lenB'_len]; omega)).weak (fun _ _ h => h) ?_
 rintro v R h ⟨a2,c2,rfl,H⟩
 refine ⟨a2,_,c2,_,HP.tt,rfl,?_,H⟩
 clear H
 refine (r5Int_ok a2 c2 ([byteI x.kind] ++ lenB' x.path ++ lenB' x.other) x.off (by simp [lenB'_len]; omega)).weak (fun _ _ h => h) ?_
 rintro v R h ⟨a3,c3,rfl,H⟩
 refine ⟨a3,_,c3,_,HP.tt,rfl,?_,H⟩
 clear H
 refine (r5Int_ok a3 c3 ([byteI x.kind] ++ lenB' x.path ++ lenB' x.other ++ beN (linksN x.off) 8) x.n (by simp [lenB'_len,beN_len]; omega)).weak (fun _ _ h => h) ?_
 rintro v R h ⟨a4,c4,rfl,H⟩
 refine ⟨a4,_,c4,_,HP.tt,rfl,?_,H⟩
 clear H
 refine (r1Bytes_ok a4 c4 ([byteI x.kind] ++ lenB' x.path ++ lenB' x.other ++ beN (linksN x.off) 8 ++ beN (linksN x.n) 8) a c x.data S hr ha (by simp [lenB'_len,beN_len]; omega)).weak (fun _ _ h => h) ?_
 rintro v R h ⟨a5,c5,rfl,H⟩
 refine ⟨a5,_,c5,OwB a5 (callB x).length c5 (callB x),HP.tt,rfl,?_,HP.sep_mono H (fun _ h => h) fun w hw => HP.tt_sep hw⟩
 have h5 : (callB x).length ≠ 0 → a5.isSome = true := fun hn => OwC.some (HP.sep_left H) (Nat.pos_of_ne_zero hn)
 clear H
 have hlen : (callB x).length ≤ 140737488355000 := by unfold callB; simp [lenB'_len,beN_len]; omega
 refine (r2Wrap_ok a5 (callB x).length c5 (callB x) _ (RdL.ow _ _ _ _ _ _) rfl h5 hlen).weak (fun _ _ h => h) ?_
 rintro v R h ⟨a6,c6,rfl,H⟩
 refine ⟨a6,_,c6,OwB a6 (wrapS (callB x)).length c6 (wrapS (callB x)),_,rfl,.of fun R h H => ⟨a6,c6,rfl,HP.sep_comm H⟩,H⟩
def logB (x : LogM) : List UInt8 := [byteI x.kind] ++ beN (linksN x.cl) 4 ++ beN (linksN x.bi) 4 ++ beN (linksN x.nu) 4 ++ [byteI x.st] ++ beN (linksN x.bk) 8 ++ lenB' x.pl
theorem logB_len (x : LogM) : (logB x).length = x.pl.length + 26 := by unfold logB; simp [lenB'_len,beN_len]; omega
set_option maxHeartbeats 2000000 in
theorem r7Bytes_ok (x : LogM) (a : Option Addr) (c : Nat) (S : HP) (hr : RdL S a x.pl.length (x.pl.map u8v)) (ha : x.pl.length ≠ 0 → a.isSome = true) (hb : x.pl.length ≤ 100000000000100) :
  Tri Tryz.prog 39 #[x.val a c] S (Enc S (wrapS (logB x))) := by
 refine tri_of_tree (ρ := [.i x.kind,.i x.cl,.i x.bi,.i x.nu,.i x.st,.i x.bk,.a a,.n x.pl.length,.n c,.p S]) mixed Tryz.func39 tree_r7Bytes ?_
 unfold t_r7Bytes
 simp only [T.den,E.prop,E.den,RX.look,F1.app,F2.app,Uni.int_i,Uni.nat_n,Uni.bool_c,Uni.str_s,Uni.adr_a,Uni.val_v,Uni.hp_p,hden,cden,V.den,W.den,A.den,BR.den,SA.den,FV.den,capV,exs,exP,allP,Cur.app,List.map_cons,List.map_nil,List.cons_append,List.nil_append,List.drop_succ_cons,List.drop_zero,List.length_cons,List.length_nil,Nat.zero_add,Nat.reduceAdd,Int.neg_neg,Bool.not_not,List.append_nil,Nat.add_zero,List.getElem?_cons_zero,List.getElem?_cons_succ,Decidable.not_not,semW_eq,semW_append,ne_eq,Nat.reduceEqDiff,not_false_eq_true]
 intro y z
 rw [← byteI_val,← byteI_val,← linksN_val,← linksN_val,← linksN_val]
 refine (r1PutE (some ⟨z,0,none⟩) 1 [byteI x.kind] (linksN x.cl) 4 (by omega) (linksN_lt' _) (by simp)).weak (fun R h H => one_ow H) ?_
 rintro v R h ⟨a1,c1,rfl,H⟩
 refine ⟨a1,_,c1,OwB a1 ([byteI x.kind] ++ beN (linksN x.cl) 4).length c1 ([byteI x.kind] ++ beN (linksN x.cl) 4),HP.tt,rfl,?_,H⟩
 clear H
 refine (r1PutE a1 c1 ([byteI x.kind] ++ beN (linksN x.cl) 4) (linksN x.bi) 4 (by omega) (linksN_lt' _) (by simp [beN_len])).weak (fun _ _ h => h) ?_
 rintro v R h ⟨a2,c2,rfl,H⟩
 refine ⟨a2,_,c2,_,HP.tt,rfl,?_,H⟩
 clear H
 refine (r1PutE a2 c2 ([byteI x.kind] ++ beN (linksN x.cl) 4 ++ beN (linksN x.bi) 4) (linksN x.nu) 4 (by omega) (linksN_lt' _) (by simp [beN_len])).weak (fun _ _ h => h) ?_
 rintro v R h ⟨a3,c3,rfl,H⟩
 refine ⟨a3,_,c3,_,HP.tt,rfl,fun w => ?_,H⟩
 clear H
 refine (append8 a3 ([byteI x.kind] ++ beN (linksN x.cl) 4 ++ beN (linksN x.bi) 4 ++ beN (linksN x.nu) 4).length c3 ([byteI x.kind] ++ beN (linksN x.cl) 4 ++ beN (linksN x.bi) 4 ++ beN (linksN x.nu) 4) _ (some ⟨w,0,none⟩) 1 1 [byteI x.st] ⟨one_rd w #[u8v (byteI x.st)] _,fun _ _ _ e => by cases e⟩ rfl (fun _ => rfl) (by simp [beN_len])).weak (fun _ _ h => h) ?_
 rintro v R h ⟨a4,c4,rfl,H⟩
 refine ⟨a4,([byteI x.kind] ++ beN (linksN x.cl) 4 ++ beN (linksN x.bi) 4 ++ beN (linksN x.nu) 4).length + 1,c4,OwB a4 ([byteI x.kind] ++ beN (linksN x.cl) 4 ++ beN (linksN x.bi) 4 ++ beN (linksN x.nu) 4 ++ [byteI x.st]).length c4 ([byteI x.kind] ++ beN (linksN x.cl) 4 ++ beN (linksN x.bi) 4 ++ beN (linksN x.nu) 4 ++ [byteI x.st]),rfl,?_,by rw [List.length_append (bs := [byteI x.st])]; exact H⟩
 clear H
 refine (r5Int_ok a4 c4 ([byteI x.kind] ++ beN (linksN x.cl) 4 ++ beN (linksN x.bi) 4 ++ beN (linksN x.nu) 4 ++ [byteI x.st]) x.bk (by simp [beN_len])).weak (fun _ _ h => h) ?_
 rintro v R h ⟨a5,c5,rfl,H⟩
 refine ⟨a5,_,c5,_,HP.tt,rfl,?_,H⟩
 clear H
 refine (r1Bytes_ok a5 c5 ([byteI x.kind] ++ beN (linksN x.cl) 4 ++ beN (linksN x.bi) 4 ++ beN (linksN x.nu) 4 ++ [byteI x.st] ++ beN (linksN x.bk) 8) a c x.pl S hr ha (by simp [beN_len]; omega)).weak (fun _ _ h => h) ?_
 rintro v R h ⟨a6,c6,rfl,H⟩
 have h6 : (logB x).length ≠ 0 → a6.isSome = true := fun hn => OwC.some (HP.sep_left H) (Nat.pos_of_ne_zero hn)
 refine ⟨a6,_,c6,OwB a6 (logB x).length c6 (logB x),HP.tt,rfl,?_,HP.sep_mono H (fun _ h => h) fun w hw => HP.tt_sep hw⟩
 clear H
 have hlen := logB_len x
 refine (r2Wrap_ok a6 (logB x).length c6 (logB x) _ (RdL.ow _ _ _ _ _ _) rfl h6 (by omega)).weak (fun _ _ h => h) ?_
 rintro v R h ⟨a7,c7,rfl,H⟩
 refine ⟨a7,_,c7,OwB a7 (wrapS (logB x)).length c7 (wrapS (logB x)),_,rfl,.of fun R h H => ⟨a7,c7,rfl,HP.sep_comm H⟩,H⟩
end Go.Proofs.YtdieogcemmnaaaaGreatDoor

namespace Go.Proofs.YtdieogcemmnaaaaGreatDoor
open Go.RowKit Go.ChangeShapes Go.WideShapes Go.Deep RX
set_option maxRecDepth 100000
section
variable {H : Type} {P : Program} {t e : TypeId}
end
section
variable {H : Type} {enc : TypeId × Value → H} {w : World} {base : Nat}
variable {α : Type}
end
end Go.Proofs.YtdieogcemmnaaaaGreatDoor

namespace Go.Proofs.YtdieogcemmnaaaaGreatDoor
open Go.RowKit Go.ChangeShapes Go.WideShapes Go.Deep RX
set_option maxRecDepth 100000
set_option linter.unusedVariables false
set_option linter.unusedSimpArgs false
structure Step16 where
 what : Int
 low : Int
 id_cl : Int
 id_bi : Int
 id_nu : Int
 call_kind : Int
 call_path : List UInt8
 call_other : List UInt8
 call_off : Int
 call_n : Int
 call_data : List UInt8
 call_dataa : Option Addr
 call_datac : Nat
 raw : List UInt8
 rawa : Option Addr
 rawc : Nat
instance : Inhabited Step16 := ⟨⟨0,0,0,0,0,0,[],[],0,0,[],none,0,[],none,0⟩⟩
end Go.Proofs.YtdieogcemmnaaaaGreatDoor

namespace Go.Proofs.YtdieogcemmnaaaaGreatDoor.RX
set_option maxRecDepth 100000
-- tideline/tidelineref01.Same: ρ := [.a aa,.n al,.n ac,.p aP,.a ba,.n bl,.n bc,.p bP]
def t_name03 : T :=
(.loop [.c,.i] [.e (.o1 .not (.o1 .not (.c false))),.e (.o1 .neg (.o1 .neg (.i 0)))]
(.br (.o2 .lt (.v 2) (.o1 .ofNat (.o1 .size (.v 0))))
(.read (.index 9 (.tmp 10) (.tmp 11)) 5 [(10,.w (.a (.str (.v 0)))),(11,.w (.a (.int .i64 (.v 2))))] [] [.i] (.w (.a (.int .u8 (.v 3))))
(.br (.o2 .eq (.v 3) (.i 47))
(.ret (.w (.a (.bool (.c false)))) [])
(.read (.index 9 (.tmp 15) (.tmp 16)) 5 [(15,.w (.a (.str (.v 0)))),(16,.w (.a (.int .i64 (.v 2))))] [] [.i] (.w (.a (.int .u8 (.v 4))))
(.br (.o2 .eq (.v 4) (.i 0))
(.ret (.w (.a (.bool (.c false)))) [])
(.need (.o1 (.inr .i64) (.o2 .add (.v 2) (.i 1)))
(.again 0 [.e (.o1 .not (.o1 .not (.v 1))),.e (.o1 .neg (.o1 .neg (.o2 .add (.v 2) (.i 1))))]))))))
(.br (.o2 .le (.i 1) (.o1 .ofNat (.o1 .size (.v 0))))
(.br (.o2 .le (.o1 .ofNat (.o1 .size (.v 0))) (.i 16))
(.br (.o1 .not (.o2 .seq (.v 0) (.s [46])))
(.ret (.w (.a (.bool (.o1 .not (.o2 .seq (.v 0) (.s [46,46])))))) [])
(.ret (.w (.a (.bool (.c false)))) []))
(.ret (.w (.a (.bool (.c false)))) []))
(.ret (.w (.a (.bool (.c false)))) []))))
theorem tree_name03 : tree Tryz.prog { keep := [30,76,78],rdf := true } Tryz.f78 [.a (.str (.v 0))] [] 1 = t_name03 := by kernel_rfl
end Go.Proofs.YtdieogcemmnaaaaGreatDoor.RX

namespace Go.Proofs.YtdieogcemmnaaaaGreatDoor
set_option linter.unusedSimpArgs false
set_option linter.unusedVariables false
open Go.Proofs.YtdieogcemmnaaaaGreatDoor RX
set_option maxRecDepth 100000
instance instAns : DecidableEq AnsM := fun r s => decidable_of_iff (r.err = s.err ∧ r.kind = s.kind ∧ r.size = s.size ∧ r.links = s.links ∧ r.data = s.data ∧ r.names = s.names) ⟨fun ⟨h1,h2,h3,h4,h5,h6⟩ => by cases r; cases s; simp only at h1 h2 h3 h4 h5 h6; subst h1 h2 h3 h4 h5 h6; rfl,fun h => by subst h; exact ⟨rfl,rfl,rfl,rfl,rfl,rfl⟩⟩
theorem RdL.isSome {S : HP} {a : Option Addr} {n : Nat} {xs : List Value} (r : RdL S a n xs) {R h : PH} (H : S.p R h) (hn : n ≠ 0) : a.isSome = true := by
 cases a with
 | some x => rfl
 | none => exact absurd (r.none R h H rfl) hn
theorem take_eq {α : Type} {l m : List α} {k : Nat} {x y : α} (hx : l[k]? = some x) (hy : m[k]? = some y) (h : l.take k = m.take k) (e : x = y) : l.take (k + 1) = m.take (k + 1) := by
 rw [List.take_add_one,List.take_add_one,hx,hy,h,e]
theorem getN {α : Type} {l : List α} {k : Nat} (h : k < l.length) : ∃ x,l[k]? = some x := ⟨_,List.getElem?_eq_getElem h⟩
theorem get_ne {α : Type} {l m : List α} {k : Nat} {x y : α} (hx : l[k]? = some x) (hy : m[k]? = some y) (h : x ≠ y) : l ≠ m := fun e => by
 subst e
 rw [hx] at hy
 exact h (Option.some.inj hy)
instance instNd : DecidableEq Nd := fun r s => decidable_of_iff (r.num = s.num ∧ r.kind = s.kind ∧ r.links = s.links ∧ r.data = s.data ∧ r.ents = s.ents) ⟨fun ⟨h1,h2,h3,h4,h5⟩ => by cases r; cases s; simp only at h1 h2 h3 h4 h5; subst h1 h2 h3 h4 h5; rfl,fun h => by subst h; exact ⟨rfl,rfl,rfl,rfl,rfl⟩⟩
theorem undEnt : ∃ d,Tryz.prog.underlying 140 = some d := Option.isSome_iff_exists.1 (by kernel_rfl)
theorem aggEnt : aggT Tryz.prog 140 = true := by kernel_rfl
theorem szEnt : szT Tryz.prog 140 = 2 := by kernel_rfl
end Go.Proofs.YtdieogcemmnaaaaGreatDoor

namespace Go.Proofs.YtdieogcemmnaaaaGreatDoor
open Go.Proofs.YtdieogcemmnaaaaGreatDoor RX
set_option maxRecDepth 100000
def bare (n : Nd) : Nd := { n with links := 0 }
end Go.Proofs.YtdieogcemmnaaaaGreatDoor

namespace Go.Proofs.YtdieogcemmnaaaaGreatDoor
open Go.Proofs.YtdieogcemmnaaaaGreatDoor RX
set_option maxRecDepth 100000
end Go.Proofs.YtdieogcemmnaaaaGreatDoor

namespace Go.Proofs.YtdieogcemmnaaaaGreatDoor
open Go.Proofs.YtdieogcemmnaaaaGreatDoor RX
set_option maxRecDepth 100000
end Go.Proofs.YtdieogcemmnaaaaGreatDoor

namespace Go.Proofs.YtdieogcemmnaaaaGreatDoor.RX
set_option maxRecDepth 100000
-- tideline/tidelinelaw16.speaks: ρ := []
end Go.Proofs.YtdieogcemmnaaaaGreatDoor.RX

namespace Go.Proofs.YtdieogcemmnaaaaGreatDoor
set_option linter.unusedSimpArgs false
set_option linter.unusedVariables false
open Go.Proofs.YtdieogcemmnaaaaGreatDoor RX
set_option maxRecDepth 100000
end Go.Proofs.YtdieogcemmnaaaaGreatDoor

namespace Go.Proofs.YtdieogcemmnaaaaGreatDoor
set_option linter.unusedSimpArgs false
set_option linter.unusedVariables false
open Go.Proofs.YtdieogcemmnaaaaGreatDoor RX
set_option maxRecDepth 100000
structure CellE where
 what : Int
 data : List UInt8
 da : Option Addr
 dc : Nat
instance : Inhabited CellE := ⟨⟨0,[],none,0⟩⟩
def cellVs (x : CellE) : List Value := [.int .i64 x.what,.slice x.da x.data.length x.dc]
def cellHp (x : CellE) : HP := HP.and (x.data.length ≤ x.dc ∧ (x.data.length ≠ 0 → x.da.isSome = true)) (RoB x.da x.data.length x.data)
theorem cellHp_pers (x : CellE) (R h h' : PH) (H : (cellHp x).p R h) : (cellHp x).p R h' := ⟨H.1,H.2⟩
def kCellP : PK CellE where
 e := 68
 n := 2
 pos := by decide
 vals := cellVs
 len _ := rfl
 one x u hu := by
  simp only [cellVs,List.mem_cons,List.not_mem_nil,or_false] at hu
  rcases hu with rfl | rfl <;> rfl
 rep := cellHp
theorem infoCe : (Tryz.prog.info? 68).map (fun i => (i.zero.map (·.cells.size),i.size,i.bytes)) = some (some 2,2,32) := by kernel_rfl
theorem undCs : Tryz.prog.underlying 79 = some (.slice 68) := by kernel_rfl
theorem PL.appK {α : Type} {K : PK α} (t ty : TypeId) {i : TypeInfo} {z : Value} (ht : Tryz.prog.underlying t = some (.slice K.e)) (hi : Tryz.prog.info? K.e = some i) (hz : i.zero = some z) (hzs : z.cells.size = i.size) (hs : i.size = K.n) (hby : i.bytes ≤ 1000)
  (a : Option Addr) (n c : Nat) (l : List α) (b : Nat) (x : α) (Q : HP) (hb : n ≤ 1000000000) :
  OTri Tryz.prog (appS t ty (.slice a n c) (.slice (some ⟨b,0,none⟩) 1 1)) (HP.sep (PL K a n c l) (HP.sep (HP.one b (.cells (K.vals x).toArray K.e (0,0))) (HP.sep (K.rep x) Q)))
   (fun v => HP.ex fun a' => HP.ex fun c' => HP.and (v = .slice a' (n + 1) c') (HP.sep (PL K a' (n + 1) c' (l ++ [x])) (HP.sep (HP.one b (.cells (K.vals x).toArray K.e (0,0))) Q))) := by
 have hr := one_rd b (K.vals x).toArray K.e
 have hbn : (n + 1) * i.bytes ≤ 140737488355328 := by
  have := Nat.mul_le_mul (show n + 1 ≤ 1000000001 by omega) hby
  omega
 have := append_ok t ty K.e i z ht hi hz hzs (by rw [hs]; exact K.pos) a n c (l.flatMap K.vals) (HP.one b (.cells (K.vals x).toArray K.e (0,0))) ⟨b,0,none⟩ 1 1 (K.vals x) (by simpa using hr) (by rw [K.len,hs,Nat.one_mul]) (K.one x) (by unfold maxLen; omega) hbn
 rw [hs] at this
 refine OTri.fact (φ := l.length = n) (fun R h H => (HP.sep_left H).1) fun hl => ?_
 refine (this.frame (HP.sep (sepN (l.map K.rep)) (HP.sep (K.rep x) Q))).weak (fun R h H => ?_) ?_
 ·have H1 := HP.sep_assoc (HP.sep_mono H (fun _ h => h.2) fun _ h => h)
  exact HP.sep_assoc' (HP.pick [_,_,_,_,_] [0,2,1,3,4] (by decide) rfl H1)
 ·rintro v R h ⟨h1,h2,d,l1,l2,⟨a',c',rfl,H⟩,HU⟩
  refine ⟨a',c',rfl,?_⟩
  have H1 := HP.sep_assoc ⟨h1,h2,d,l1,l2,H,HU⟩
  have H2 : (HP.sep (OwC K.e K.n a' (n + 1) c' (l.flatMap K.vals ++ K.vals x)) (HP.sep (sepN (l.map K.rep)) (HP.sep (K.rep x) (HP.sep (HP.one b (.cells (K.vals x).toArray K.e (0,0))) Q)))).p R h := HP.pick [_,_,_,_,_] [0,2,3,1,4] (by decide) rfl H1
  have e : (l ++ [x]).map K.rep = l.map K.rep ++ [K.rep x] := by simp
  have H3 : (HP.sep (OwC K.e K.n a' (n + 1) c' (l.flatMap K.vals ++ K.vals x)) (HP.sep (sepN ((l ++ [x]).map K.rep)) (HP.sep (HP.one b (.cells (K.vals x).toArray K.e (0,0))) Q))).p R h := HP.sep_mono H2 (fun _ h => h) fun y hy => by
   have := HP.sep_assoc' hy
   rw [e]
   exact HP.sep_mono this (fun z hz => (sepN_app (l := l.map K.rep) (m := [K.rep x])).2 hz) fun _ h => h
  have H4 := HP.sep_assoc' H3
  refine HP.sep_mono H4 (fun y hy => ⟨by simp [hl],?_⟩) fun _ h => h
  have e2 : (l ++ [x]).flatMap K.vals = l.flatMap K.vals ++ K.vals x := by simp
  rw [e2]
  exact hy
theorem appCell (a : Option Addr) (n c : Nat) (l : List CellE) (q : Nat) (x : CellE) (Q : HP) (hb : n ≤ 1000000000) :
  OTri Tryz.prog (appS 79 79 (.slice a n c) (.slice (some ⟨q,0,none⟩) 1 1)) (HP.sep (PL kCellP a n c l) (HP.sep (HP.one q (.cells (cellVs x).toArray 68 (0,0))) (HP.sep (cellHp x) Q)))
   (fun v => HP.ex fun a' => HP.ex fun c' => HP.and (v = .slice a' (n + 1) c') (HP.sep (PL kCellP a' (n + 1) c' (l ++ [x])) (HP.sep (HP.one q (.cells (cellVs x).toArray 68 (0,0))) Q))) := by
 obtain ⟨i,z,hi,h1,h2,h3,h4⟩ := info_pz infoCe
 exact PL.appK (K := kCellP) _ _ undCs hi h1 (by rw [h2,h3]) h3 (by rw [h4]; decide) a n c l q x Q hb
theorem aggCe : aggT Tryz.prog 68 = true := by kernel_rfl
theorem szCe : szT Tryz.prog 68 = 2 := by kernel_rfl
theorem undCe : ∃ d,Tryz.prog.underlying 68 = some d := Option.isSome_iff_exists.1 (by kernel_rfl)
theorem ldCellP {a : Option Addr} {n c k : Nat} {es : List CellE} {x : CellE} (hk : es[k]? = some x) : ORead Tryz.prog (loadS 68 (.pointer (a.map fun y => (y.add (k * 2)).add 0))) (PL kCellP a n c es) (.agg #[.int .i64 x.what,.slice x.da x.data.length x.dc]) := by
 obtain ⟨d,hd⟩ := undCe
 refine loadN_ok (vs := cellVs x) hd aggCe (PL.rd (K := kCellP) a n c es) (k := k * 2) (off := 0) szCe (Nat.succ_pos 1) fun j v hj => ?_
 have hlt : j < 2 := (List.getElem?_eq_some_iff.1 hj).1
 rw [Nat.add_zero]
 refine (flat_getL cellVs 2 (fun _ => rfl) es k j x hk hlt).trans ?_
 exact hj
theorem cellAt {a : Option Addr} {n c : Nat} {es : List CellE} {x : CellE} (hx : x ∈ es) {R h : PH} (H : (PL kCellP a n c es).p R h) : (cellHp x).p R h := sepN_mem (List.mem_map.2 ⟨x,hx,rfl⟩) (HP.sep_right H.2)
end Go.Proofs.YtdieogcemmnaaaaGreatDoor

namespace Go.Proofs.YtdieogcemmnaaaaGreatDoor.RX
set_option maxRecDepth 100000
-- (*tideline/tidelineref01.Reader).Number: ρ := [.n r,.a r_Ba,.n r_Bl,.n r_Bc,.p r_BP,.i r_At,.c r_Wrong,.i n]
end Go.Proofs.YtdieogcemmnaaaaGreatDoor.RX

namespace Go.Proofs.YtdieogcemmnaaaaGreatDoor
set_option linter.unusedSimpArgs false
set_option linter.unusedVariables false
open Go.Proofs.YtdieogcemmnaaaaGreatDoor RX
set_option maxRecDepth 100000
end Go.Proofs.YtdieogcemmnaaaaGreatDoor
