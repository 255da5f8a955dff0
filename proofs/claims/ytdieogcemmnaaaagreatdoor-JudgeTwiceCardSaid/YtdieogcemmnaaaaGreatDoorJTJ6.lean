/- Texts of this claim, joined. No condition. -/
import Derived.Test.YtdieogcemmnaaaaGreatDoorJTJ1
import Derived.Test.YtdieogcemmnaaaaGreatDoorJTJ2
import Derived.Test.YtdieogcemmnaaaaGreatDoorJTJ4
import Derived.Test.YtdieogcemmnaaaaGreatDoorJTJ5
import Derived.KernelRfl
set_option linter.unusedSimpArgs false
set_option linter.unusedVariables false
namespace Go.Proofs.YtdieogcemmnaaaaGreatDoor
set_option linter.unusedSimpArgs false
set_option linter.unusedVariables false
open Go.Proofs.YtdieogcemmnaaaaGreatDoor RX
set_option maxRecDepth 100000
def FM (r : Nat) (f : IdM → Option Nat) : HP := HP.ex fun l => HP.ex fun c => FMl r f l c
theorem FM.new (r : Nat) {R h : PH} (H : (HP.one r (.map #[] 0)).p R h) : (FM r fun _ => none).p R h := ⟨[],0,⟨MapI.nil 0,fun k => rfl⟩,H⟩
theorem lookFM {r : Nat} {f : IdM → Option Nat} (k : IdM) : ORead Tryz.prog (lookS 197 (.map (some r)) (idV k) true) (FM r f) (.tuple #[.int .i64 (fz f k),.bool (f k).isSome]) :=
 ORead.exI fun l => ORead.exI fun c => fun w R h F st a => lookF2 (c := c) a.1.2 k w R h F st a
theorem updF (r : Nat) (f : IdM → Option Nat) (k : IdM) (n : Nat) (x : Int) (hx : x = n) : OTri Tryz.prog (updS 197 (.map (some r)) (idV k) (.int .i64 x)) (FM r f) (fun v => HP.and (v = .tuple #[]) (FM r (fput f k (some n)))) := by
 subst hx
 refine OTri.exI fun l => OTri.exI fun c => OTri.pureI fun ⟨hI,hf⟩ => ?_
 refine (upd_ok (c := c) (l := l) (r := r) idK undFM k (.int .i64 (n : Int))).weak (fun _ _ h => h) ?_
 rintro v R h ⟨e,H⟩
 refine ⟨e,_,_,⟨hI.put k _,fun k' => ?_⟩,H⟩
 rw [alFind_put]
 unfold fput
 by_cases e : k' = k
 ·rw [if_pos e,if_pos e]; rfl
 ·rw [if_neg e,if_neg e]; exact hf k'
theorem lookFM0 {r : Nat} {f : IdM → Option Nat} (k : IdM) : ORead Tryz.prog (lookS 197 (.map (some r)) (idV k) false) (FM r f) (.int .i64 (fz f k)) :=
 ORead.exI fun l => ORead.exI fun c => fun w R h F st a => lookF (c := c) a.1.2 k w R h F st a
def tF (es : List DeedE) (k : IdM) : List AnsE := (es.filter fun x => okD x && decide (x.id = k)).map DeedE.a
def bG (es : List DeedE) (k : BegM) : Nat := (es.filter fun x => decide (begOf x.id x.call = k)).length
theorem tF_snoc (es : List DeedE) (x : DeedE) : tF (es ++ [x]) = if okD x then putL (tF es) x.id (tF es x.id ++ [x.a]) else tF es := by
 funext k
 unfold tF putL
 rw [List.filter_append,List.map_append]
 by_cases h : okD x = true
 ·rw [if_pos h]
  by_cases e : k = x.id
  ·subst e; simp [h]
  ·have e' : ¬ x.id = k := fun h => e h.symm
   simp [h,e,e']
 ·rw [if_neg h]
  have h' : okD x = false := by simpa using h
  simp [h']
theorem bG_snoc (es : List DeedE) (x : DeedE) : bG (es ++ [x]) = addB (bG es) (begOf x.id x.call) := by
 funext k
 unfold bG addB
 rw [List.filter_append,List.length_append]
 by_cases e : k = begOf x.id x.call
 ·subst e; simp
 ·have e' : ¬ begOf x.id x.call = k := fun h => e h.symm
  simp [e,e']
theorem bG_zero (es : List DeedE) (x : IdM × CallP) : bG es (begOf x.1 x.2) = 0 ↔ begun (es.map DeedE.p) x = false := by
 unfold bG begun
 rw [List.length_eq_zero_iff,List.filter_eq_nil_iff,List.any_map,List.any_eq_false]
 rfl
theorem tF_wrong (es : List DeedE) (k : IdM) (r : AnsM) : ((tF es k).any fun y => decide (y.m ≠ r)) = wrongS (es.map DeedE.p) k r := by
 unfold tF wrongS
 rw [List.any_map,List.any_map,List.any_filter]
 rfl
theorem tF_nil (es : List DeedE) (k : IdM) : tF es k = [] ↔ ∀ x ∈ es,¬ (okD x = true ∧ x.id = k) := by
 unfold tF
 rw [List.map_eq_nil_iff,List.filter_eq_nil_iff]
 simp only [Bool.and_eq_true,decide_eq_true_eq]
def flg (tw nob miss wr late : Bool) : List Bool := [false,tw,nob,miss,wr,late]
def flk (l : List Bool) (k : Nat) : List Int := ((List.range k).filter fun j => (l[j]?).getD false).map fun j : Nat => (j : Int)
theorem flk_succ (l : List Bool) (k : Nat) : flk l (k + 1) = flk l k ++ if (l[k]?).getD false then [(k : Int)] else [] := by
 unfold flk
 rw [List.range_succ,List.filter_append,List.map_append]
 congr 1
 by_cases h : (l[k]?).getD false = true <;> simp [h]
theorem flk_len (l : List Bool) (k : Nat) : (flk l k).length ≤ k := by
 unfold flk
 rw [List.length_map]
 exact Nat.le_trans (List.length_filter_le _ _) (by simp)
theorem flk_all (a b c d e : Bool) : flk (flg a b c d e) 6 = flagsL a b c d e := by
 cases a <;> cases b <;> cases c <;> cases d <;> cases e <;> rfl
set_option maxHeartbeats 8000000 in
theorem check_ok (ca : Option Addr) (cn cc : Nat) (ces : List CellE) (Sc : HP) (cr : CellRd Sc ca cn ces) (hcn : cn ≤ 1000) (a : Option Addr) (n c : Nat) (es : List DeedE) (S : HP) (dr : DeedRd S a n es) (hn : n ≤ 1000) :
  Tri Tryz.prog 47 #[.slice ca cn cc,.slice a n c] (HP.sep Sc S)
   (fun v => HP.ex fun a' => HP.ex fun c' => HP.and (v = .slice a' (faultsS (es.map DeedE.p) (callsS ces)).length c') (HP.sep Sc (HP.sep S (OwI a' (faultsS (es.map DeedE.p) (callsS ces)).length c' (faultsS (es.map DeedE.p) (callsS ces)))))) := by
 refine tri_of_tree (ρ := [.a ca,.n cn,.n cc,.p Sc,.a a,.n n,.n c,.p S]) mixed Tryz.func47 tree_jCheck ?_
 unfold t_jCheck
 simp (maxSteps := 3000000) only [T.den,E.prop,E.den,RX.look,F1.app,F2.app,Uni.int_i,Uni.nat_n,Uni.bool_c,Uni.str_s,Uni.adr_a,Uni.val_v,Uni.hp_p,hden,cden,V.den,W.den,A.den,BR.den,SA.den,FV.den,capV,exs,exP,allP,Cur.app,List.map_cons,List.map_nil,List.cons_append,List.nil_append,List.drop_succ_cons,List.drop_zero,List.length_cons,List.length_nil,Nat.zero_add,Nat.reduceAdd,Int.neg_neg,Bool.not_not,List.append_nil,Nat.add_zero,List.getElem?_cons_zero,List.getElem?_cons_succ,Decidable.not_not,semW_eq,semW_load,semW_store,semW_storeC,semW_append,semW_lookup,semW_lookupC,semW_update,semW_updateC,semW_updateK,semW_range,semW_next,semW_entry,ne_eq,Nat.reduceEqDiff,not_false_eq_true,semW_mapEntry,semW_entryStore]
 intro fo br _ tr _
 have hl := dr.len
 refine ⟨fun i P1 P2 => ∃ k : Nat,i = k ∧ k ≤ n ∧ TQ P1 tr (tF (es.take k)) ∧ HP.ent P2 (BM br (bG (es.take k))),fun i _ _ => n - i.toNat,⟨0,rfl,Nat.zero_le _,TQ.new tr,.of fun R h H => BM.new br H⟩,?_⟩
 rintro _ P1 P2 ⟨k,rfl,hk,tq,hB⟩
 refine ⟨fun hlt => ⟨by omega,fun _ => ⟨dr.is (by omega),fun _ => ?_⟩⟩,fun hge => ?_⟩
 ·obtain ⟨x,hx⟩ : ∃ x,es[k]? = some x := ⟨_,List.getElem?_eq_getElem (by omega)⟩
  have hxm := List.mem_of_getElem? hx
  have nxt : IntKind.i64.min ≤ (k : Int) + 1 ∧ (k : Int) + 1 ≤ IntKind.i64.max := inI64D _ (by omega) (by omega)
  have hlt' := (List.getElem?_eq_some_iff.1 hx).1
  have htk : es.take (k + 1) = es.take k ++ [x] := by
   rw [List.take_succ_eq_append_getElem hlt']
   rw [List.getElem?_eq_getElem hlt'] at hx
   rw [Option.some.inj hx]
  have hbl : bG (es.take k) (begOf x.id x.call) ≤ 1000 := by
   unfold bG
   exact Nat.le_trans (List.length_filter_le _ _) (by rw [List.length_take]; omega)
  have hbr : IntKind.i64.min ≤ ((bG (es.take k) (begOf x.id x.call) : Nat) : Int) + 1 ∧ ((bG (es.take k) (begOf x.id x.call) : Nat) : Int) + 1 ≤ IntKind.i64.max := inI64D _ (by omega) (by omega)
  refine ⟨x.id.1,x.id.2.1,x.id.2.2,x.call.kind,x.call.path,x.call.other,x.call.off,x.call.n,x.ca,x.call.data.length,x.cc,x.be,x.en,x.ans.err,x.ans.kind,x.ans.size,x.ans.links,x.da,x.ans.data.length,x.dc,x.na,x.ans.names.length,x.nc,ldD dr.rd hx,fun _ => ?_⟩
  refine ⟨fun P => HP.ent P (BM br (bG (es.take (k + 1)))),?_,?_⟩
  ·refine (beganOf_ok x.id x.call x.ca x.cc S (dr.cd x hxm)).weak (fun _ _ h => h) ?_
   rintro v R h ⟨rfl,H⟩
   refine ⟨x.id.1,x.id.2.1,x.id.2.2,x.call.kind,x.call.off,x.call.n,x.call.path,x.call.other,x.call.data,rfl,⟨⟨_,(lookB (begOf x.id x.call)).ent hB,hbr,fun _ => ?_⟩,?_⟩,H⟩
   ·clear H
    refine OTri.preL ((begun_entry br _ (begOf x.id x.call)).weak (fun _ _ h => h) ?_) hB
    rintro v R h ⟨b,rfl,H⟩
    refine ⟨_,(b : Int),_,rfl,?_,H⟩
    clear H
    refine (begun_store br _ (begOf x.id x.call) b _ rfl).weak (fun _ _ h => h) ?_
    rintro v R h ⟨rfl,H⟩
    refine ⟨_,rfl,?_,H⟩
    show HP.ent _ _
    rw [htk,bG_snoc]; exact .refl _
   ·clear H
    refine OTri.preL ((begun_entry br _ (begOf x.id x.call)).weak (fun _ _ h => h) ?_) hB
    rintro v R h ⟨b,rfl,H⟩
    refine ⟨_,(b : Int),_,rfl,?_,H⟩
    clear H
    refine ⟨_,lookBH (begOf x.id x.call),hbr,fun _ => ?_⟩
    refine (begun_store br _ (begOf x.id x.call) b _ rfl).weak (fun _ _ h => h) ?_
    rintro v R h ⟨rfl,H⟩
    refine ⟨_,rfl,?_,H⟩
    show HP.ent _ _
    rw [htk,bG_snoc]; exact .refl _
  rintro P3 hB3
  refine (answered_ok x S).weak (fun _ _ h => h) ?_
  rintro v R h ⟨rfl,H⟩
  refine ⟨_,rfl,⟨fun h1 => fun b => ?_,fun h1 => ⟨nxt,fun _ => ⟨⟨k + 1,by omega,by omega,?_,hB3⟩,by dsimp only; omega⟩⟩⟩,H⟩
  ·clear H
   have hok : okD x = true := h1
   refine OTri.preL ((told_entry tr _ x.id).weak (fun _ _ h => h) ?_) tq.ent
   rintro v R h ⟨ta,tc,tb,rfl,H⟩
   refine ⟨ta,_,tc,_,(tb : Int),_,rfl,?_,H⟩
   clear H
   have hro : ∀ R h,S.p R h → (HP.sep x.a.ro S).p R h := fun R h H => by
    have := dr.ar x hxm R h H
    refine ⟨PH.none',h,PH.none_dj _,PH.none_le _,PH.le.refl _,⟨dr.nb x hxm,this.1,this.2⟩,H⟩
   obtain ⟨i,hi,hz,hzs,hs,hby⟩ := infoAp
   have htl : (tF (es.take k) x.id).length ≤ 1000 := by
    unfold tF
    rw [List.length_map]
    exact Nat.le_trans (List.length_filter_le _ _) (by rw [List.length_take]; omega)
   refine (PL.appK (K := kAnsP) 196 196 undAs hi hz hzs hs (by omega) ta _ tc (tF (es.take k) x.id) b x.a S (by omega)).weak (fun R h H => HP.sep_mono H (fun _ h => h) fun z hz => HP.sep_mono hz (fun _ h => h) fun u hu => hro _ _ hu) ?_
   rintro v R h ⟨a',c',rfl,H⟩
   refine ⟨a',_,c',_,rfl,?_,H⟩
   ·clear H
    refine (told_store tr _ x.id tb a' _ c' (tF (es.take k) x.id ++ [x.a]) (by simp)).weak (fun _ _ h => h) ?_
    rintro v R h ⟨rfl,⟨l,lc,H⟩⟩
    refine ⟨_,rfl,⟨nxt,fun _ => ⟨⟨k + 1,by omega,by omega,?_,hB3⟩,by dsimp only; omega⟩⟩,H⟩
    have := TQ.of H
    rw [htk,tF_snoc,if_pos hok]
    exact this
  ·have hok : okD x = false := by simpa [okD] using h1
   rw [htk,tF_snoc,if_neg (by rw [hok]; decide)]; exact tq
 obtain rfl : k = n := by omega
 rw [List.take_of_length_le (by omega)] at tq hB
 intro fb _
 refine tNew_ok.weak (fun _ _ h => h) ?_
 rintro v R h ⟨b,t0,⟨rfl,ht0⟩,H⟩
 refine ⟨b,TRep b t0,rfl,?_,H⟩
 clear H
 intro _ _
 refine (calls_ok ca cn cc Sc).weak (fun _ _ h => h) ?_
 rintro v R h ⟨nb,rfl,H⟩
 refine ⟨.func (.func 167) #[] #[.pointer (some ⟨nb,0,none⟩)],HP.one nb (.cells #[.slice ca cn cc] 79 (0,0)),rfl,fun _ => ?_,H⟩
 clear H
 have hfew : (callsS ces).length ≤ cn := by rw [← cr.len]; exact List.length_filterMap_le _ _
 refine ⟨List (IdM × CallP),fun _ => HP.tt,PrC,mayC,fun L => L = [],callsS ces,fun g i P1 P2 P3 => ∃ (D : List (IdM × CallP)) (t : TS),callsS ces = D ++ g ∧ i = D.length ∧ P1 = TRep b t ∧ TWf (1 + D.length) t.pub ∧ t.pub = (jrun (es.map DeedE.p) js0 D).T ∧ HP.ent P2 (FM fb (jrun (es.map DeedE.p) js0 D).first) ∧
  HP.ent P3 (FO fo (flg (jrun (es.map DeedE.p) js0 D).tw (jrun (es.map DeedE.p) js0 D).nob false (jrun (es.map DeedE.p) js0 D).wr false)),calls_seq nb ca cn cc ces Sc cr (by omega),?_,?_,?_,?_⟩
 ·refine ⟨[],t0,rfl,rfl,rfl,by rw [ht0]; exact newT_wf,by rw [ht0]; rfl,.of fun R h H => FM.new fb H,.of fun R h H => H⟩
 ·rintro g i P1 P2 P3 _; rfl
 ·rintro g args ⟨g',id,q,da,dc,rfl,rfl,hq1,hq2⟩ i Q1 Q2 Q3 ⟨D,t,hD,rfl,rfl,wf,ht,hF,hO⟩
  refine ⟨id.1,id.2.1,id.2.2,q.kind,q.path,q.other,q.off,q.n,da,q.data.length,dc,RoB da q.data.length q.data,rfl,.of fun R h H => ?_,fun _ _ => ?_⟩
  ·obtain ⟨⟨⟨id',q'⟩,da',dc',L'⟩,⟨h1,h2⟩,H⟩ := H
   cases h1
   simp [CallP.val] at h2
   obtain ⟨rfl,rfl⟩ := h2
   exact H
  have hDl : D.length + (g'.length + 1) ≤ cn := by
   have := congrArg List.length hD
   rw [List.length_append,List.length_cons] at this
   omega
  have hs' : jrun (es.map DeedE.p) js0 (D ++ [(id,q)]) = jstep (es.map DeedE.p) (jrun (es.map DeedE.p) js0 D) (id,q) := by rw [jrun_app]; rfl
  have hsn := (jrun_T (es.map DeedE.p) D js0).2
  generalize jrun (es.map DeedE.p) js0 D = s at *
  have hsn : s.n = D.length := by rw [hsn]; show 0 + _ = _; omega
  refine (tDo_ok (by omega) wf (q.m da dc) (RoB da q.data.length q.data) q.data ⟨RdL.ro _ _ _ _,rfl,hq2⟩).weak (fun _ _ h => h) ?_
  rintro v R h ⟨t',ht',da',dc',na',nc',rfl,H⟩
  have ht2 : t'.pub = nextT s.T q := by rw [ht',← ht]; rfl
  have hr : (doS t.pub (q.m da dc).kind (q.m da dc).path (q.m da dc).other (q.m da dc).off (q.m da dc).n q.data).2 = ansOf s.T q := by rw [← ht]; rfl
  have wf' : TWf (1 + (D ++ [(id,q)]).length) t'.pub := by
   have := wf.do (by omega) q.kind q.path q.other q.off q.n q.data
   rw [List.length_append,List.length_singleton,show 1 + (D.length + 1) = 1 + D.length + 1 by omega,ht']
   exact this
  rw [hr] at H ⊢
  clear hr ht'
  generalize hrr : ansOf s.T q = r at *
  refine ⟨_,_,_,_,da',_,dc',_,na',_,nc',_,TRep b t',RoB da q.data.length q.data,rfl,fun ab => ?_,H⟩
  clear H
  refine (beganOf_ok id q da dc _ (RdL.ro _ _ _ _)).weak (fun _ _ h => h) ?_
  rintro v R h ⟨rfl,H⟩
  refine ⟨id.1,id.2.1,id.2.2,q.kind,q.off,q.n,q.path,q.other,q.data,rfl,⟨_,(lookB (begOf id q)).ent hB,?_⟩,H⟩
  clear H
  have nxt : IntKind.i64.min ≤ (D.length : Int) + 1 ∧ (D.length : Int) + 1 ≤ IntKind.i64.max := inI64D _ (by omega) (by omega)
  have hD' : callsS ces = D ++ [(id,q)] ++ g' := by rw [hD]; simp
  have hDn : (D.length : Int) + 1 = ((D ++ [(id,q)]).length : Nat) := by simp
  have htl : (tF es id).length ≤ 1000000 := by
   unfold tF
   rw [List.length_map]
   exact Nat.le_trans (List.length_filter_le _ _) (by omega)
  refine ⟨fun h0 => ?_,fun h0 => ?_⟩
  ·have hbg : begun (es.map DeedE.p) (id,q) = false := (bG_zero es (id,q)).1 (by simpa using h0)
   refine OTri.preL ((foStore fo _ 2 (by show 2 < 6; decide) true).weak (fun _ _ h => h) ?_) hO
   rintro v R h ⟨rfl,H⟩
   refine ⟨_,rfl,?_,H⟩
   clear H
   have hNB : true = (s.nob || !begun (es.map DeedE.p) (id,q)) := by rw [hbg]; simp
   clear hO
   have hO : HP.ent (FO fo (flg s.tw true false s.wr false)) (FO fo (flg s.tw true false s.wr false)) := .refl _
   refine ⟨_,_,(lookFM id).ent hF,⟨fun h1 => ?_,fun h1 => ?_⟩⟩
   ·refine OTri.preL ((foStore fo _ 1 (by show 1 < 6; decide) true).weak (fun _ _ h => h) ?_) hO
    rintro v R h ⟨rfl,H⟩
    obtain ⟨j,hj⟩ := Option.isSome_iff_exists.1 h1
    refine ⟨_,rfl,⟨nxt,fun _ => ⟨g',⟨id,q,da,dc,rfl,rfl,hq1,hq2⟩,D ++ [(id,q)],t',hD',hDn,rfl,wf',by rw [hs']; exact ht2,?_,?_⟩⟩,H⟩
    ·rw [hs']; show HP.ent _ (FM fb (putF s.first id s.n)); unfold putF; rw [hj]; exact hF
    ·rw [hs']; show HP.ent _ (FO fo (flg (s.tw || (s.first id).isSome) (s.nob || !begun (es.map DeedE.p) (id,q)) false (s.wr || ((s.first id).isNone && wrongS (es.map DeedE.p) id (ansOf s.T q))) false)); rw [← hNB,hrr]; rw [hj]; simp only [Option.isSome_some,Option.isNone_some,Bool.or_true,Bool.false_and,Bool.or_false]; exact .refl _
   ·have hno : s.first id = none := by
     cases hh : s.first id with
     | none => rfl
     | some j => rw [hh] at h1; exact absurd rfl h1
    refine OTri.preL ((updF fb _ id s.n _ (by rw [hsn])).weak (fun _ _ h => h) ?_) hF
    rintro v R h ⟨rfl,H⟩
    refine ⟨_,rfl,⟨s.wr,(foLoad fo _ 4 s.wr rfl).ent hO,⟨fun h2 => ?_,fun h2 => ?_⟩⟩,H⟩
    ·clear H
     refine OTri.preL ((foStore fo _ 4 (by show 4 < 6; decide) true).weak (fun _ _ h => h) ?_) hO
     rintro v R h ⟨rfl,H⟩
     refine ⟨_,rfl,⟨nxt,fun _ => ⟨g',⟨id,q,da,dc,rfl,rfl,hq1,hq2⟩,D ++ [(id,q)],t',hD',hDn,rfl,wf',by rw [hs']; exact ht2,?_,?_⟩⟩,H⟩
     ·rw [hs']; show HP.ent _ (FM fb (putF s.first id s.n)); unfold putF; rw [hno]; exact .refl _
     ·rw [hs']; show HP.ent _ (FO fo (flg (s.tw || (s.first id).isSome) (s.nob || !begun (es.map DeedE.p) (id,q)) false (s.wr || ((s.first id).isNone && wrongS (es.map DeedE.p) id (ansOf s.T q))) false)); rw [← hNB,hrr]; rw [hno,h2]; simp only [Option.isSome_none,Option.isNone_none,Bool.or_false,Bool.true_or]; exact .refl _
    ·clear H
     obtain ⟨ta,tc,hlk,har⟩ := tq.look id
     refine ⟨ta,_,tc,hlk,?_⟩
     refine (containsA_ok ta _ tc (tF es id) P1 har htl ab r da' dc' na' nc' _ _ (RdL.ow _ _ _ _ _ _) (RdL.ow _ _ _ _ _ _)).weak (fun _ _ h => h) ?_
     rintro v R h ⟨rfl,H⟩
     refine ⟨_,rfl,?_,H⟩
     clear H
     refine OTri.preL ((foStore fo _ 4 (by show 4 < 6; decide) _).weak (fun _ _ h => h) ?_) hO
     rintro v R h ⟨rfl,H⟩
     have h2' : s.wr = false := by simpa using h2
     refine ⟨_,rfl,⟨nxt,fun _ => ⟨g',⟨id,q,da,dc,rfl,rfl,hq1,hq2⟩,D ++ [(id,q)],t',hD',hDn,rfl,wf',by rw [hs']; exact ht2,?_,?_⟩⟩,H⟩
     ·rw [hs']; show HP.ent _ (FM fb (putF s.first id s.n)); unfold putF; rw [hno]; exact .refl _
     ·rw [hs']; show HP.ent _ (FO fo (flg (s.tw || (s.first id).isSome) (s.nob || !begun (es.map DeedE.p) (id,q)) false (s.wr || ((s.first id).isNone && wrongS (es.map DeedE.p) id (ansOf s.T q))) false)); rw [← hNB,hrr]; rw [hno,h2',tF_wrong]; simp only [Option.isSome_none,Option.isNone_none,Bool.or_false,Bool.true_and,Bool.false_or]; exact .refl _
  ·have hbg : begun (es.map DeedE.p) (id,q) = true := by
    cases hh : begun (es.map DeedE.p) (id,q) with
    | true => rfl
    | false => exact absurd (by rw [(bG_zero es (id,q)).2 hh]; rfl) h0
   have hNB : s.nob = (s.nob || !begun (es.map DeedE.p) (id,q)) := by rw [hbg]; simp
   refine ⟨_,_,(lookFM id).ent hF,⟨fun h1 => ?_,fun h1 => ?_⟩⟩
   ·refine OTri.preL ((foStore fo _ 1 (by show 1 < 6; decide) true).weak (fun _ _ h => h) ?_) hO
    rintro v R h ⟨rfl,H⟩
    obtain ⟨j,hj⟩ := Option.isSome_iff_exists.1 h1
    refine ⟨_,rfl,⟨nxt,fun _ => ⟨g',⟨id,q,da,dc,rfl,rfl,hq1,hq2⟩,D ++ [(id,q)],t',hD',hDn,rfl,wf',by rw [hs']; exact ht2,?_,?_⟩⟩,H⟩
    ·rw [hs']; show HP.ent _ (FM fb (putF s.first id s.n)); unfold putF; rw [hj]; exact hF
    ·rw [hs']; show HP.ent _ (FO fo (flg (s.tw || (s.first id).isSome) (s.nob || !begun (es.map DeedE.p) (id,q)) false (s.wr || ((s.first id).isNone && wrongS (es.map DeedE.p) id (ansOf s.T q))) false)); rw [← hNB,hrr]; rw [hj]; simp only [Option.isSome_some,Option.isNone_some,Bool.or_true,Bool.false_and,Bool.or_false]; exact .refl _
   ·have hno : s.first id = none := by
     cases hh : s.first id with
     | none => rfl
     | some j => rw [hh] at h1; exact absurd rfl h1
    refine OTri.preL ((updF fb _ id s.n _ (by rw [hsn])).weak (fun _ _ h => h) ?_) hF
    rintro v R h ⟨rfl,H⟩
    refine ⟨_,rfl,⟨s.wr,(foLoad fo _ 4 s.wr rfl).ent hO,⟨fun h2 => ?_,fun h2 => ?_⟩⟩,H⟩
    ·clear H
     refine OTri.preL ((foStore fo _ 4 (by show 4 < 6; decide) true).weak (fun _ _ h => h) ?_) hO
     rintro v R h ⟨rfl,H⟩
     refine ⟨_,rfl,⟨nxt,fun _ => ⟨g',⟨id,q,da,dc,rfl,rfl,hq1,hq2⟩,D ++ [(id,q)],t',hD',hDn,rfl,wf',by rw [hs']; exact ht2,?_,?_⟩⟩,H⟩
     ·rw [hs']; show HP.ent _ (FM fb (putF s.first id s.n)); unfold putF; rw [hno]; exact .refl _
     ·rw [hs']; show HP.ent _ (FO fo (flg (s.tw || (s.first id).isSome) (s.nob || !begun (es.map DeedE.p) (id,q)) false (s.wr || ((s.first id).isNone && wrongS (es.map DeedE.p) id (ansOf s.T q))) false)); rw [← hNB,hrr]; rw [hno,h2]; simp only [Option.isSome_none,Option.isNone_none,Bool.or_false,Bool.true_or]; exact .refl _
    ·clear H
     obtain ⟨ta,tc,hlk,har⟩ := tq.look id
     refine ⟨ta,_,tc,hlk,?_⟩
     refine (containsA_ok ta _ tc (tF es id) P1 har htl ab r da' dc' na' nc' _ _ (RdL.ow _ _ _ _ _ _) (RdL.ow _ _ _ _ _ _)).weak (fun _ _ h => h) ?_
     rintro v R h ⟨rfl,H⟩
     refine ⟨_,rfl,?_,H⟩
     clear H
     refine OTri.preL ((foStore fo _ 4 (by show 4 < 6; decide) _).weak (fun _ _ h => h) ?_) hO
     rintro v R h ⟨rfl,H⟩
     have h2' : s.wr = false := by simpa using h2
     refine ⟨_,rfl,⟨nxt,fun _ => ⟨g',⟨id,q,da,dc,rfl,rfl,hq1,hq2⟩,D ++ [(id,q)],t',hD',hDn,rfl,wf',by rw [hs']; exact ht2,?_,?_⟩⟩,H⟩
     ·rw [hs']; show HP.ent _ (FM fb (putF s.first id s.n)); unfold putF; rw [hno]; exact .refl _
     ·rw [hs']; show HP.ent _ (FO fo (flg (s.tw || (s.first id).isSome) (s.nob || !begun (es.map DeedE.p) (id,q)) false (s.wr || ((s.first id).isNone && wrongS (es.map DeedE.p) id (ansOf s.T q))) false)); rw [← hNB,hrr]; rw [hno,h2',tF_wrong]; simp only [Option.isSome_none,Option.isNone_none,Bool.or_false,Bool.true_and,Bool.false_or]; exact .refl _
 ·rintro g rfl i Q1 Q2 Q3 ⟨D,t,hD,rfl,rfl,wf,ht,hF,hO⟩
  rw [List.append_nil] at hD
  rw [← hD] at hF hO
  clear hD ht wf
  have hfa : faultsS (es.map DeedE.p) (callsS ces) = flagsL (jrun (es.map DeedE.p) js0 (callsS ces)).tw (jrun (es.map DeedE.p) js0 (callsS ces)).nob (missS (jrun (es.map DeedE.p) js0 (callsS ces)).first (es.map DeedE.p)) (jrun (es.map DeedE.p) js0 (callsS ces)).wr (lateS (jrun (es.map DeedE.p) js0 (callsS ces)).first (es.map DeedE.p)) := rfl
  rw [hfa]
  clear hfa
  generalize jrun (es.map DeedE.p) js0 (callsS ces) = s at *
  refine OTri.preL (OTri.exI fun l => OTri.exI fun lc => ?_) tq.ent
  refine OTri.fact (φ := MapI l lc ∧ (∀ k,alFind k l = none ↔ tF es k = []) ∧ ∀ y ∈ l,∃ a n c,y.2.1 = .slice a n c) (fun R h H => ⟨H.1.1,H.1.2,fun y hy => by
   obtain ⟨a,c,e,_⟩ := sepN_mem (List.mem_map.2 ⟨y,hy,rfl⟩) (HP.sep_right H.2)
   exact ⟨a,_,c,e⟩⟩) fun ⟨hI,hfl,hsl⟩ => ?_
  have hm : ∀ R h,(TMl tr (tF es) l lc).p R h → h tr = some (mapObj idV l lc) := fun R h H => HP.sep_left H.2
  have hms : missS s.first (es.map DeedE.p) = l.any fun y => (s.first y.1).isNone := by
   rw [Bool.eq_iff_iff]
   unfold missS
   rw [List.any_map,List.any_eq_true,List.any_eq_true]
   constructor
   ·rintro ⟨x,hx,h⟩
    simp only [Function.comp,Bool.and_eq_true] at h
    have h1 : ¬ alFind x.id l = none := fun e => by
     rw [hfl,tF_nil] at e
     exact e x hx ⟨h.1,rfl⟩
    have h2 : (alFind x.id l).isSome = true := by cases hh : alFind x.id l with | none => exact absurd hh h1 | some _ => rfl
    obtain ⟨y,hy,e⟩ := List.mem_map.1 ((alFind_isSome _ _).1 h2)
    exact ⟨y,hy,by rw [e]; exact h.2⟩
   ·rintro ⟨y,hy,h⟩
    have h2 := (alFind_isSome y.1 l).2 (List.mem_map.2 ⟨y,hy,rfl⟩)
    have h1 : ¬ tF es y.1 = [] := fun e => by rw [(hfl _).2 e] at h2; cases h2
    rw [tF_nil] at h1
    have : ∃ x ∈ es,okD x = true ∧ x.id = y.1 := Classical.byContradiction fun hn => h1 fun x hx hh => hn ⟨x,hx,hh⟩
    obtain ⟨x,hx,h3,h4⟩ := this
    refine ⟨x,hx,?_⟩
    simp only [Function.comp,Bool.and_eq_true]
    exact ⟨h3,by show (s.first x.id).isNone = true; rw [h4]; exact h⟩
  refine (rangA_ok (Q := TMl tr (tF es) l lc) (enc := idV) (l := l) (c := lc) undT hm).weak (fun _ _ h => h) ?_
  rintro v R h ⟨it,rfl,H⟩
  let M : Array Nat → Bool := fun S => l.any fun y => decide (y.2.2 ∈ S) && (s.first y.1).isNone
  let J : HP → HP → Nat → Prop := fun Pi Pf N => ∃ S : Array Nat,Pi = HP.one it (.mapIter (some tr) lc S lc) ∧ HP.ent Pf (FO fo (flg s.tw s.nob (M S) s.wr false)) ∧ leftN l S = N
  have hM0 : M #[] = false := by show l.any _ = false; rw [List.any_eq_false]; intro y _; simp
  refine ⟨it,HP.one it (.mapIter (some tr) lc #[] lc),TMl tr (tF es) l lc,rfl,⟨fun Pi Pf => ∃ N,J Pi Pf N,fun Pi Pf => leastN (J Pi Pf),⟨_,#[],rfl,by rw [hM0]; exact hO,rfl⟩,?_⟩,H⟩
  clear H
  intro Pi Pf hJ
  have hJ' := leastN_spec hJ
  generalize hNe : leastN (J Pi Pf) = N at hJ'
  obtain ⟨S',rfl,hO2,hN⟩ := hJ'
  refine (nextA_ok (Q := TMl tr (tF es) l lc) hI.2 hm).weak (fun _ _ h => h) ?_
  rintro v R h ⟨e,he,H⟩
  rcases e with _ | y
  ·have hMe : M S' = missS s.first (es.map DeedE.p) := by
    rw [hms]
    show l.any _ = l.any _
    rw [Bool.eq_iff_iff,List.any_eq_true,List.any_eq_true]
    exact ⟨fun ⟨y,hy,h⟩ => ⟨y,hy,(Bool.and_eq_true_iff.1 h).2⟩,fun ⟨y,hy,h⟩ => ⟨y,hy,Bool.and_eq_true_iff.2 ⟨decide_eq_true (he.2 y hy),h⟩⟩⟩
   rw [hMe] at hO2
   refine ⟨false,.tuple #[],.tuple #[],_,he.1,⟨fun h => (by cases h),fun _ => ?_⟩,H⟩
   clear H
   refine (late_ok fb s.first Q2 (fun k => (lookFM0 k).ent hF) (fun k => (lookFM k).ent hF) a _ c es S dr (by omega)).weak (fun _ _ h => h) ?_
   rintro v R h ⟨rfl,H⟩
   refine ⟨_,rfl,?_,H⟩
   clear H
   refine OTri.preL ((foStore fo _ 5 (by show 5 < 6; decide) (lateS s.first (es.map DeedE.p))).weak (fun _ _ h => h) ?_) hO2
   rintro v R h ⟨rfl,H⟩
   refine ⟨_,rfl,?_,H⟩
   clear H
   refine ⟨false,s.tw,s.nob,missS s.first (es.map DeedE.p),s.wr,lateS s.first (es.map DeedE.p),foAll fo (flg s.tw s.nob (missS s.first (es.map DeedE.p)) s.wr (lateS s.first (es.map DeedE.p))) rfl,?_⟩
   generalize missS s.first (es.map DeedE.p) = ms
   generalize lateS s.first (es.map DeedE.p) = lt
   refine ⟨fun a1 n1 c1 P i => ∃ k : Nat,i = k ∧ k ≤ 6 ∧ n1 = (flk (flg s.tw s.nob ms s.wr lt) k).length ∧ HP.ent P (OwI a1 n1 c1 (flk (flg s.tw s.nob ms s.wr lt) k)),fun _ _ _ _ i => 6 - i.toNat,⟨0,rfl,by omega,rfl,.of fun R h H => OwC.nil _ _ R h⟩,?_⟩
   rintro a1 _ c1 P _ ⟨k,rfl,hk,rfl,hP⟩
   have hkl := flk_len (flg s.tw s.nob ms s.wr lt) k
   have hks := flk_succ (flg s.tw s.nob ms s.wr lt) k
   refine ⟨fun hlt => ?_,fun hge => ?_⟩
   ·obtain ⟨x,hx⟩ : ∃ x,(flg s.tw s.nob ms s.wr lt)[k]? = some x := ⟨_,List.getElem?_eq_getElem (show k < 6 by omega)⟩
    rw [hx,Option.getD_some] at hks
    have nxt : IntKind.i64.min ≤ (k : Int) + 1 ∧ (k : Int) + 1 ≤ IntKind.i64.max := inI64D _ (by omega) (by omega)
    refine ⟨x,foIndex (by decide) (flg s.tw s.nob ms s.wr lt) rfl k x hx,⟨fun h1 q => ?_,fun h1 => ⟨nxt,fun _ => ⟨⟨k + 1,by omega,by omega,?_,?_⟩,by dsimp only; omega⟩⟩⟩⟩
    ·refine OTri.preL ((appendI a1 _ c1 (flk (flg s.tw s.nob ms s.wr lt) k) (HP.one q (.cells #[.int .i64 (k : Int)] 3 (0,0))) ⟨q,0,none⟩ 1 1 [(k : Int)] (one_rd q #[.int .i64 (k : Int)] 3) rfl (by omega)).weak (fun _ _ h => h) ?_) (hP.sep _)
     rintro v R h ⟨a',c',rfl,H⟩
     rw [if_pos h1] at hks
     refine ⟨a',_,c',_,rfl,⟨nxt,fun _ => ⟨⟨k + 1,by omega,by omega,?_,?_⟩,by dsimp only; omega⟩⟩,H⟩
     ·rw [hks]; simp
     ·rw [hks]; exact .refl _
    ·rw [hks,if_neg h1,List.append_nil]
    ·rw [hks,if_neg h1,List.append_nil]; exact hP
   ·obtain rfl : k = 6 := by omega
    rw [flk_all] at hP
    rw [flk_all]
    refine ((HP.ent.refl Sc).sep2 ((HP.ent.refl S).sep2 hP)).trans (.of fun R h H => ⟨a1,c1,rfl,H⟩)
  ·obtain ⟨rfl,hyl,hyS⟩ := he
   obtain ⟨ya,yn,yc,hyv⟩ := hsl y hyl
   have hent := entry_ok (enc := idV) (it := it) (m := tr) (c := lc) (S := S') (x := y) hI.2 hyl (A := HP.sep (HP.one it (.mapIter (some tr) lc (nextI S' (some y)) lc)) (TMl tr (tF es) l lc)) (fun R h H => HP.sep_left H) (fun R h H => by
    obtain ⟨_,_,_,_,l2,_,b2⟩ := H
    exact l2 _ _ (hm _ _ b2))
   rw [hyv] at hent
   have hMp : M (S'.push y.2.2) = (M S' || (s.first y.1).isNone) := by
    show l.any _ = (l.any _ || _)
    rw [Bool.eq_iff_iff,Bool.or_eq_true,List.any_eq_true,List.any_eq_true]
    constructor
    ·rintro ⟨z,hz,h⟩
     obtain ⟨h1,h2⟩ := Bool.and_eq_true_iff.1 h
     rcases stamp_push hI.2 hyl hz (of_decide_eq_true h1) with rfl | h3
     ·exact .inr h2
     ·exact .inl ⟨z,hz,Bool.and_eq_true_iff.2 ⟨decide_eq_true h3,h2⟩⟩
    ·rintro (⟨z,hz,h⟩ | h)
     ·obtain ⟨h1,h2⟩ := Bool.and_eq_true_iff.1 h
      exact ⟨z,hz,Bool.and_eq_true_iff.2 ⟨decide_eq_true (Array.mem_push.2 (.inl (of_decide_eq_true h1))),h2⟩⟩
     ·exact ⟨y,hyl,Bool.and_eq_true_iff.2 ⟨decide_eq_true (Array.mem_push.2 (.inr rfl)),h⟩⟩
   have hdec : leftN l (S'.push y.2.2) < N := by rw [← hN]; exact leftN_push hyl hyS
   have hJ2 : ∀ P,HP.ent P (FO fo (flg s.tw s.nob (M (S'.push y.2.2)) s.wr false)) → (∃ N,J (HP.one it (.mapIter (some tr) lc (nextI S' (some y)) lc)) P N) ∧ leastN (J (HP.one it (.mapIter (some tr) lc (nextI S' (some y)) lc)) P) < leastN (J (HP.one it (.mapIter (some tr) lc S' lc)) Pf) := fun P hP => by
    have hj : J (HP.one it (.mapIter (some tr) lc (nextI S' (some y)) lc)) P (leftN l (S'.push y.2.2)) := ⟨S'.push y.2.2,rfl,hP,rfl⟩
    exact ⟨⟨_,hj⟩,Nat.lt_of_le_of_lt (leastN_le hj) (Nat.lt_of_lt_of_eq hdec hNe.symm)⟩
   refine ⟨true,idV y.1,y.2.1,_,rfl,⟨fun _ => ⟨y.1.1,y.1.2.1,y.1.2.2,ya,yn,yc,hent,fun _ => ⟨_,_,(lookFM y.1).ent hF,⟨fun h1 => ?_,fun h1 => ?_⟩⟩⟩,fun h => absurd rfl h⟩,H⟩
   ·clear H
    refine OTri.preL ((foStore fo _ 3 (by show 3 < 6; decide) true).weak (fun _ _ h => h) ?_) hO2
    rintro v R h ⟨rfl,H⟩
    refine ⟨_,rfl,hJ2 _ ?_,H⟩
    have : (s.first y.1).isNone = true := by cases hh : s.first y.1 with | none => rfl | some j => rw [hh] at h1; exact absurd rfl h1
    rw [hMp,this,Bool.or_true]
    exact .refl _
   ·have : (s.first y.1).isNone = false := by cases hh : s.first y.1 with | none => rw [hh] at h1; cases h1 | some j => rfl
    refine hJ2 _ ?_
    rw [hMp,this,Bool.or_false]
    exact hO2
end Go.Proofs.YtdieogcemmnaaaaGreatDoor

namespace Go.Proofs.YtdieogcemmnaaaaGreatDoor
open Go.Proofs.YtdieogcemmnaaaaGreatDoor RX
set_option maxRecDepth 100000
theorem takeR_ap (l r : List UInt8) : takeR (l ++ r,false) l.length = (l,(r,false)) := by
 unfold takeR
 rw [if_neg (by simp),if_neg (by simp)]
 simp
theorem numR_ap {l r : List UInt8} {n : Nat} (h : l.length = n) : numR (l ++ r,false) n = (beV l,(r,false)) := by
 unfold numR; rw [← h,takeR_ap]
theorem bytesR_ap (d r : List UInt8) (m : Int) (h : (d.length : Int) ≤ m) (h2 : d.length < 4294967296) : bytesR (lenB' d ++ r,false) m = (d,(r,false)) := by
 have h4 : (256 : Nat) ^ 4 = 4294967296 := by decide
 have e : toldR (lenB' d ++ r,false) m = (d.length,(d ++ r,false)) := by
  unfold toldR lenB'
  rw [List.append_assoc,numR_ap (beN_len _ _),beV_beN 4 _ (by omega)]
  rw [if_neg (by simp),if_neg (by omega)]
 unfold bytesR
 rw [e]
 exact takeR_ap d r
theorem byte_ap {k : Int} (h0 : 0 ≤ k) (h1 : k ≤ 255) : (((beV [byteI k]) % 256 : Nat) : Int) = k := by
 have e : IntKind.u8.wrap k = k := wrap_in ⟨by show (0 : Int) ≤ k; omega,by show k ≤ (255 : Int); omega⟩
 unfold byteI
 rw [e]
 have h2 : (UInt8.ofNat k.toNat).toNat = k.toNat := by
  rw [UInt8.toNat_ofNat']
  omega
 have h1 : beV [UInt8.ofNat k.toNat] = k.toNat := by simp [beV,h2]
 rw [h1]
 omega
theorem four_ap {k : Int} (h0 : 0 ≤ k) (h1 : k ≤ 2147483647) : ((beV (beN (linksN k) 4) : Nat) : Int) = k := by
 have h4 : (256 : Nat) ^ 4 = 4294967296 := by decide
 have e : IntKind.u64.wrap k = k := wrap_in ⟨by show (0 : Int) ≤ k; omega,by show k ≤ (18446744073709551615 : Int); omega⟩
 unfold linksN
 rw [e,beV_beN 4 _ (by omega)]
 omega
theorem eight_ap {k : Int} (h0 : -9223372036854775808 ≤ k) (h1 : k ≤ 9223372036854775807) : intOf64 (beV (beN (linksN k) 8)) = k := by
 have h8 : (256 : Nat) ^ 8 = 18446744073709551616 := by decide
 rw [beV_beN 8 _ (by rw [h8]; exact linksN_lt' k)]
 unfold intOf64 linksN
 simp [IntKind.wrap,IntKind.bits,IntKind.signed]
 omega
theorem call_round {x : CallP} (h0 : 0 ≤ x.kind) (h1 : x.kind ≤ 255) (hp : x.path.length ≤ 300) (ho : x.other.length ≤ 300) (hd : x.data.length ≤ 4096) (f0 : -9223372036854775808 ≤ x.off) (f1 : x.off ≤ 9223372036854775807) (n0 : -9223372036854775808 ≤ x.n) (n1 : x.n ≤ 9223372036854775807) :
  callD (wrapS (callB x)) = some x := by
 have eB : callB x = [byteI x.kind] ++ (lenB' x.path ++ (lenB' x.other ++ (beN (linksN x.off) 8 ++ (beN (linksN x.n) 8 ++ (lenB' x.data ++ []))))) := by
  unfold callB; simp only [List.append_assoc,List.append_nil]
 have one : ∀ k : UInt8,[k].length = 1 := fun _ => rfl
 have eR : callR (callB x,false) = (x,([],false)) := by
  rw [eB]
  dsimp only [callR]
  simp only [numR_ap (one _),bytesR_ap x.path _ 300 (by omega) (by omega),bytesR_ap x.other _ 300 (by omega) (by omega),numR_ap (beN_len _ _),bytesR_ap x.data _ 4096 (by omega) (by omega),byte_ap h0 h1,eight_ap f0 f1,eight_ap n0 n1]
 unfold callD
 rw [unwrap_wrap]
 simp only [eR]
 simp
theorem log_round {x : LogM} (h : logOk x = true) : entD (wrapS (logB x)) = some x := by
 have h' := h
 unfold logOk partOk at h'
 simp only [Bool.and_eq_true,Bool.or_eq_true,decide_eq_true_eq] at h'
 obtain ⟨⟨⟨⟨⟨⟨⟨⟨hk,hc1,hc2⟩,hb1,hb2⟩,hn1,hn2⟩,hs1⟩,hs2⟩,hbk1⟩,hbk2⟩,hpl⟩ := h'
 have eB : logB x = [byteI x.kind] ++ (beN (linksN x.cl) 4 ++ (beN (linksN x.bi) 4 ++ (beN (linksN x.nu) 4 ++ ([byteI x.st] ++ (beN (linksN x.bk) 8 ++ (lenB' x.pl ++ [])))))) := by
  unfold logB; simp only [List.append_assoc,List.append_nil]
 have one : ∀ k : UInt8,[k].length = 1 := fun _ => rfl
 have eR : logR (logB x,false) = (x,([],false)) := by
  rw [eB]
  dsimp only [logR]
  simp only [numR_ap (one _),numR_ap (beN_len _ _),bytesR_ap x.pl _ 65536 (by omega) (by omega),byte_ap (show 0 ≤ x.kind by omega) (by omega),byte_ap hs1 (by omega),four_ap hc1 hc2,four_ap hb1 hb2,four_ap hn1 hn2,eight_ap (show -9223372036854775808 ≤ x.bk by omega) (by omega)]
 have hl : (wrapS (logB x)).length ≤ 65536 := by rw [wrapS_len,logB_len]; omega
 unfold entD
 rw [if_neg (by omega),unwrap_wrap]
 simp only [eR,h]
 simp
end Go.Proofs.YtdieogcemmnaaaaGreatDoor

namespace Go.Proofs.YtdieogcemmnaaaaGreatDoor.RX
set_option maxRecDepth 100000
-- tideline/tidelineref04.Right: ρ := [.a la,.n ll,.n lc,.p lP]
end Go.Proofs.YtdieogcemmnaaaaGreatDoor.RX

namespace Go.Proofs.YtdieogcemmnaaaaGreatDoor
set_option linter.unusedSimpArgs false
set_option linter.unusedVariables false
open Go.Proofs.YtdieogcemmnaaaaGreatDoor RX
set_option maxRecDepth 100000
theorem name03_ok (s : Nm) (hs : s.length ≤ 100000) : Tri Tryz.prog 78 #[sE s] HP.tt (fun v => HP.pure (v = .bool (nameOk s))) := by
 refine tri_of_tree (ρ := [.s s]) mixed Tryz.func78 tree_name03 ?_
 unfold t_name03
 simp only [T.den,E.prop,E.den,RX.look,F1.app,F2.app,Uni.int_i,Uni.nat_n,Uni.bool_c,Uni.str_s,Uni.adr_a,Uni.val_v,Uni.hp_p,hden,cden,V.den,W.den,A.den,BR.den,SA.den,FV.den,capV,exs,exP,allP,Cur.app,List.map_cons,List.map_nil,List.cons_append,List.nil_append,List.drop_succ_cons,List.drop_zero,List.length_cons,List.length_nil,Nat.zero_add,Nat.reduceAdd,Int.neg_neg,Bool.not_not,List.append_nil,Nat.add_zero,List.getElem?_cons_zero,List.getElem?_cons_succ,Decidable.not_not,semW_eq,ne_eq,Nat.reduceEqDiff,not_false_eq_true]
 have yes : ∀ {φ : Bool},nameOk s = φ → HP.ent HP.tt (HP.pure (Value.bool φ = .bool (nameOk s))) := fun h => .of fun _ _ _ => (by show Value.bool _ = Value.bool _; rw [h])
 refine ⟨fun _ i => ∃ k : Nat,i = k ∧ k ≤ s.length ∧ ∀ c ∈ s.take k,c ≠ 47 ∧ c ≠ 0,fun _ i => s.length - i.toNat,⟨0,rfl,Nat.zero_le _,by simp⟩,?_⟩
 rintro _ _ ⟨k,rfl,hk,hb⟩
 refine ⟨fun hlt => ?_,fun hge => ?_⟩
 ·obtain ⟨c,hc⟩ := getN (l := s) (k := k) (by omega)
  have hm := List.mem_of_getElem? hc
  refine ⟨c.toNat,strIx (by decide) (by kernel_rfl) rfl hc,fun h => yes ?_,fun h1 => ⟨c.toNat,strIx (by decide) (by kernel_rfl) rfl hc,fun h => yes ?_,fun h2 => ⟨inI64' _ (by omega) (by omega),fun _ => ⟨⟨k + 1,by omega,by omega,fun d hd => ?_⟩,by dsimp only; omega⟩⟩⟩⟩
  ·have : c = 47 := UInt8.toNat_inj.1 (by have : (47 : UInt8).toNat = 47 := rfl; omega)
   subst this
   simp [nameOk,hm]
  ·have : c = 0 := UInt8.toNat_inj.1 (by have : (0 : UInt8).toNat = 0 := rfl; omega)
   subst this
   simp [nameOk,hm]
  ·rw [List.take_add_one,hc,List.mem_append] at hd
   rcases hd with hd | hd
   ·exact hb d hd
   ·simp at hd
    subst hd
    refine ⟨fun e => h1 (by rw [e]; rfl),fun e => h2 (by rw [e]; rfl)⟩
 ·rw [List.take_of_length_le (by omega)] at hb
  have h47 : (47 : UInt8) ∉ s := fun h => (hb _ h).1 rfl
  have h0 : (0 : UInt8) ∉ s := fun h => (hb _ h).2 rfl
  refine ⟨fun h1 => ⟨fun h2 => ⟨fun h3 => yes ?_,fun h3 => yes ?_⟩,fun h2 => yes ?_⟩,fun h1 => yes ?_⟩
  ·have h1' : 1 ≤ s.length := by omega
   have h2' : s.length ≤ 16 := by omega
   simp [nameOk,h47,h0,h1',h2',h3]
  ·simp [nameOk,h3]
  ·have h2' : ¬ s.length ≤ 16 := by omega
   simp [nameOk,h2']
  ·have h1' : ¬ 1 ≤ s.length := by omega
   simp [nameOk,h1']
theorem undInt : Tryz.prog.underlying 3 = some (.int .i64) := by kernel_rfl
theorem infoInt' : ∃ i,Tryz.prog.info? 3 = some i ∧ i.size = 1 := by
 obtain ⟨i,hi,_,h2,_⟩ := info_parts infoInt
 exact ⟨i,hi,h2⟩
theorem undEs' : Tryz.prog.underlying 41 = some (.slice 140) := by kernel_rfl
end Go.Proofs.YtdieogcemmnaaaaGreatDoor

namespace Go.Proofs.YtdieogcemmnaaaaGreatDoor.RX
set_option maxRecDepth 100000
-- tideline/tidelineref04.New: ρ := []
def t_rNew : T :=
(.new
(.ret (.w (.a (.ptr (.v 0) 0))) [(.b (.v 0),.cells [.int .i64 (.i 0),.int .i64 (.i 1),.int .i64 (.i 1),.sl .nil (.n 0) (.n 0),.sl .nil (.n 0) (.n 0),.int .i64 (.i 0),.int .i64 (.i 0),.int .i64 (.i 0),.sl .nil (.n 0) (.n 0),.sl .nil (.n 0) (.n 0),.int .i64 (.i 0),.int .i64 (.i 0),.int .i64 (.i 0),.sl .nil (.n 0) (.n 0),.sl .nil (.n 0) (.n 0),.int .i64 (.i 0),.int .i64 (.i 0),.int .i64 (.i 0),.sl .nil (.n 0) (.n 0),.sl .nil (.n 0) (.n 0),.int .i64 (.i 0),.int .i64 (.i 0),.int .i64 (.i 0),.sl .nil (.n 0) (.n 0),.sl .nil (.n 0) (.n 0),.int .i64 (.i 0),.int .i64 (.i 0),.int .i64 (.i 0),.sl .nil (.n 0) (.n 0),.sl .nil (.n 0) (.n 0),.int .i64 (.i 0),.int .i64 (.i 0),.int .i64 (.i 0),.sl .nil (.n 0) (.n 0),.sl .nil (.n 0) (.n 0),.int .i64 (.i 0),.int .i64 (.i 0),.int .i64 (.i 0),.sl .nil (.n 0) (.n 0),.sl .nil (.n 0) (.n 0),.int .i64 (.i 0),.int .i64 (.i 0),.int .i64 (.i 0),.sl .nil (.n 0) (.n 0),.sl .nil (.n 0) (.n 0),.int .i64 (.i 0),.int .i64 (.i 0),.int .i64 (.i 0),.sl .nil (.n 0) (.n 0),.sl .nil (.n 0) (.n 0),.int .i64 (.i 0),.int .i64 (.i 0),.int .i64 (.i 0),.sl .nil (.n 0) (.n 0),.sl .nil (.n 0) (.n 0),.int .i64 (.i 0),.int .i64 (.i 0),.int .i64 (.i 0),.sl .nil (.n 0) (.n 0),.sl .nil (.n 0) (.n 0),.int .i64 (.i 0),.int .i64 (.i 0),.int .i64 (.i 0),.sl .nil (.n 0) (.n 0),.sl .nil (.n 0) (.n 0),.int .i64 (.i 0),.int .i64 (.i 0),.int .i64 (.i 0),.sl .nil (.n 0) (.n 0),.sl .nil (.n 0) (.n 0),.int .i64 (.i 0),.int .i64 (.i 0),.int .i64 (.i 0),.sl .nil (.n 0) (.n 0),.sl .nil (.n 0) (.n 0),.int .i64 (.i 0),.int .i64 (.i 0),.int .i64 (.i 0),.sl .nil (.n 0) (.n 0),.sl .nil (.n 0) (.n 0),.int .i64 (.i 0),.int .i64 (.i 0),.int .i64 (.i 0),.sl .nil (.n 0) (.n 0),.sl .nil (.n 0) (.n 0),.int .i64 (.i 0),.int .i64 (.i 0),.int .i64 (.i 0),.sl .nil (.n 0) (.n 0),.sl .nil (.n 0) (.n 0),.int .i64 (.i 0),.int .i64 (.i 0),.int .i64 (.i 0),.sl .nil (.n 0) (.n 0),.sl .nil (.n 0) (.n 0),.int .i64 (.i 0),.int .i64 (.i 0),.int .i64 (.i 0),.sl .nil (.n 0) (.n 0),.sl .nil (.n 0) (.n 0),.int .i64 (.i 0),.int .i64 (.i 0),.int .i64 (.i 0),.sl .nil (.n 0) (.n 0),.sl .nil (.n 0) (.n 0),.int .i64 (.i 0),.int .i64 (.i 0),.int .i64 (.i 0),.sl .nil (.n 0) (.n 0),.sl .nil (.n 0) (.n 0),.int .i64 (.i 0),.int .i64 (.i 0),.int .i64 (.i 0),.sl .nil (.n 0) (.n 0),.sl .nil (.n 0) (.n 0),.int .i64 (.i 0),.int .i64 (.i 0),.int .i64 (.i 0),.sl .nil (.n 0) (.n 0),.sl .nil (.n 0) (.n 0),.int .i64 (.i 0),.int .i64 (.i 0),.int .i64 (.i 0),.sl .nil (.n 0) (.n 0),.sl .nil (.n 0) (.n 0),.int .i64 (.i 0),.int .i64 (.i 0),.int .i64 (.i 0),.sl .nil (.n 0) (.n 0),.sl .nil (.n 0) (.n 0),.int .i64 (.i 0),.int .i64 (.i 0),.int .i64 (.i 0),.sl .nil (.n 0) (.n 0),.sl .nil (.n 0) (.n 0),.int .i64 (.i 0),.int .i64 (.i 0),.int .i64 (.i 0),.sl .nil (.n 0) (.n 0),.sl .nil (.n 0) (.n 0),.int .i64 (.i 0),.int .i64 (.i 0),.int .i64 (.i 0),.sl .nil (.n 0) (.n 0),.sl .nil (.n 0) (.n 0),.int .i64 (.i 0),.int .i64 (.i 0),.int .i64 (.i 0),.sl .nil (.n 0) (.n 0),.sl .nil (.n 0) (.n 0),.int .i64 (.i 0),.int .i64 (.i 0),.int .i64 (.i 0),.sl .nil (.n 0) (.n 0),.sl .nil (.n 0) (.n 0),.int .i64 (.i 0),.int .i64 (.i 0),.int .i64 (.i 0),.sl .nil (.n 0) (.n 0),.sl .nil (.n 0) (.n 0),.int .i64 (.i 0),.int .i64 (.i 0),.int .i64 (.i 0),.sl .nil (.n 0) (.n 0),.sl .nil (.n 0) (.n 0),.int .i64 (.i 0),.int .i64 (.i 0),.int .i64 (.i 0),.sl .nil (.n 0) (.n 0),.sl .nil (.n 0) (.n 0),.int .i64 (.i 0),.int .i64 (.i 0),.int .i64 (.i 0),.sl .nil (.n 0) (.n 0),.sl .nil (.n 0) (.n 0),.int .i64 (.i 0),.int .i64 (.i 0),.int .i64 (.i 0),.sl .nil (.n 0) (.n 0),.sl .nil (.n 0) (.n 0),.int .i64 (.i 0),.int .i64 (.i 0),.int .i64 (.i 0),.sl .nil (.n 0) (.n 0),.sl .nil (.n 0) (.n 0),.int .i64 (.i 0),.int .i64 (.i 0),.int .i64 (.i 0),.sl .nil (.n 0) (.n 0),.sl .nil (.n 0) (.n 0),.int .i64 (.i 0),.int .i64 (.i 0),.int .i64 (.i 0),.sl .nil (.n 0) (.n 0),.sl .nil (.n 0) (.n 0),.int .i64 (.i 0),.int .i64 (.i 0),.int .i64 (.i 0),.sl .nil (.n 0) (.n 0),.sl .nil (.n 0) (.n 0),.int .i64 (.i 0),.int .i64 (.i 0),.int .i64 (.i 0),.sl .nil (.n 0) (.n 0),.sl .nil (.n 0) (.n 0),.int .i64 (.i 0),.int .i64 (.i 0),.int .i64 (.i 0),.sl .nil (.n 0) (.n 0),.sl .nil (.n 0) (.n 0),.int .i64 (.i 0),.int .i64 (.i 0),.int .i64 (.i 0),.sl .nil (.n 0) (.n 0),.sl .nil (.n 0) (.n 0),.int .i64 (.i 0),.int .i64 (.i 0),.int .i64 (.i 0),.sl .nil (.n 0) (.n 0),.sl .nil (.n 0) (.n 0),.int .i64 (.i 0),.int .i64 (.i 0),.int .i64 (.i 0),.sl .nil (.n 0) (.n 0),.sl .nil (.n 0) (.n 0),.int .i64 (.i 0),.int .i64 (.i 0),.int .i64 (.i 0),.sl .nil (.n 0) (.n 0),.sl .nil (.n 0) (.n 0),.int .i64 (.i 0),.int .i64 (.i 0),.int .i64 (.i 0),.sl .nil (.n 0) (.n 0),.sl .nil (.n 0) (.n 0),.int .i64 (.i 0),.int .i64 (.i 0),.int .i64 (.i 0),.sl .nil (.n 0) (.n 0),.sl .nil (.n 0) (.n 0),.int .i64 (.i 0),.int .i64 (.i 0),.int .i64 (.i 0),.sl .nil (.n 0) (.n 0),.sl .nil (.n 0) (.n 0),.int .i64 (.i 0),.int .i64 (.i 0),.int .i64 (.i 0),.sl .nil (.n 0) (.n 0),.sl .nil (.n 0) (.n 0),.int .i64 (.i 0),.int .i64 (.i 0),.int .i64 (.i 0),.sl .nil (.n 0) (.n 0),.sl .nil (.n 0) (.n 0),.int .i64 (.i 0),.int .i64 (.i 0),.int .i64 (.i 0),.sl .nil (.n 0) (.n 0),.sl .nil (.n 0) (.n 0),.int .i64 (.i 0),.int .i64 (.i 0),.int .i64 (.i 0),.sl .nil (.n 0) (.n 0),.sl .nil (.n 0) (.n 0),.int .i64 (.i 0),.int .i64 (.i 0),.int .i64 (.i 0),.sl .nil (.n 0) (.n 0),.sl .nil (.n 0) (.n 0),.int .i64 (.i 0),.int .i64 (.i 0),.int .i64 (.i 0),.sl .nil (.n 0) (.n 0),.sl .nil (.n 0) (.n 0),.int .i64 (.i 0),.int .i64 (.i 0),.int .i64 (.i 0),.sl .nil (.n 0) (.n 0),.sl .nil (.n 0) (.n 0),.int .i64 (.i 0),.int .i64 (.i 0),.int .i64 (.i 0),.sl .nil (.n 0) (.n 0),.sl .nil (.n 0) (.n 0),.int .i64 (.i 0),.int .i64 (.i 0),.int .i64 (.i 0),.sl .nil (.n 0) (.n 0),.sl .nil (.n 0) (.n 0),.int .i64 (.i 0),.int .i64 (.i 0),.int .i64 (.i 0),.sl .nil (.n 0) (.n 0),.sl .nil (.n 0) (.n 0),.int .i64 (.i 0),.int .i64 (.i 0),.int .i64 (.i 0),.sl .nil (.n 0) (.n 0),.sl .nil (.n 0) (.n 0),.int .i64 (.i 0),.int .i64 (.i 0),.int .i64 (.i 0),.sl .nil (.n 0) (.n 0),.sl .nil (.n 0) (.n 0),.int .i64 (.i 0),.int .i64 (.i 0),.int .i64 (.i 0),.sl .nil (.n 0) (.n 0),.sl .nil (.n 0) (.n 0),.int .i64 (.i 0),.int .i64 (.i 0),.int .i64 (.i 0),.sl .nil (.n 0) (.n 0),.sl .nil (.n 0) (.n 0),.int .i64 (.i 0),.int .i64 (.i 0),.int .i64 (.i 0),.sl .nil (.n 0) (.n 0),.sl .nil (.n 0) (.n 0)] 144)]))
theorem tree_rNew : tree Tryz.prog { absT := [142,144],keep := [30,76,78,144,198,196,142,139,24,145],opn := true,rdf := true } Tryz.f22 [] [] 0 = t_rNew := by kernel_rfl
def t_rEntry : T :=
(.read (.indexAddr 142 (.tmp 12) (.tmp 10)) 0 [(12,.w (.a (.ptr (.v 0) 0))),(10,.w (.a (.int .i64 (.v 2))))] [(.b (.v 0),.prop 1)] [.v] (.w (.a (.val 4)))
(.read (.fieldAddr 43 (.tmp 13) 4) 0 [(13,.w (.a (.val 4)))] [(.b (.v 0),.prop 1)] [.v] (.w (.a (.val 5)))
(.read (.load 41 (.tmp 14)) 41 [(14,.w (.a (.val 5)))] [(.b (.v 0),.prop 1)] [.a,.n,.n] (.w (.a (.sl (.v 6) (.v 7) (.v 8))))
(.loop [.i,.i] [.e (.o1 .neg (.o1 .neg (.i 0))),.e (.o1 .neg (.o1 .neg (.i 0)))]
(.br (.o2 .lt (.v 10) (.o1 .ofNat (.v 7)))
(.need (.o2 .le (.i 0) (.v 10))
(.need (.o1 .isSome (.v 6))
(.read (.load 9 (.tmp 25)) 9 [(25,.w (.a (.eptr 6 (.v 10) 2 0)))] [(.b (.v 0),.prop 1)] [.s] (.w (.a (.str (.v 11))))
(.br (.o2 .seq (.v 11) (.v 3))
(.read (.load 3 (.tmp 32)) 3 [(32,.w (.a (.eptr 6 (.v 10) 2 1)))] [(.b (.v 0),.prop 1)] [.i] (.w (.a (.int .i64 (.v 12))))
(.ret (.w (.a (.int .i64 (.v 12)))) [(.b (.v 0),.prop 1)]))
(.need (.o1 (.inr .i64) (.o2 .add (.v 10) (.i 1)))
(.again 0 [.e (.o1 .neg (.o1 .neg (.v 9))),.e (.o1 .neg (.o1 .neg (.o2 .add (.v 10) (.i 1))))]))))))
(.ret (.w (.a (.int .i64 (.i (-1))))) [(.b (.v 0),.prop 1)]))))))
theorem tree_rEntry : tree Tryz.prog { absT := [142,144],keep := [30,76,78,144,198,196,142,139,24,145],opn := true,rdf := true } Tryz.f196 [.a (.ptr (.v 0) 0),.a (.int .i64 (.v 2)),.a (.str (.v 3))] [(.b (.v 0),.prop 1)] 4 = t_rEntry := by kernel_rfl
def t_rFind : T :=
(.call 197 [.a (.str (.v 2))] [] [.a,.n,.n,.p,.c] (.tup [.a (.sl (.v 3) (.v 4) (.v 5)),.a (.bool (.v 7))]) [(.a 3,.prop 6)]
(.br (.o1 .not (.v 7))
(.ret (.tup [.a (.int .i64 (.i 0)),.a (.int .i64 (.i 20))]) [(.b (.v 0),.prop 1)])
(.loop [.i,.i,.i,.i] [.e (.o1 .neg (.o1 .neg (.i 0))),.e (.o1 .neg (.o1 .neg (.i 0))),.e (.o1 .neg (.o1 .neg (.i 0))),.e (.o1 .neg (.o1 .neg (.i 0)))]
(.br (.o2 .lt (.v 11) (.o1 .ofNat (.v 4)))
(.read (.indexAddr 142 (.tmp 26) (.tmp 24)) 0 [(26,.w (.a (.ptr (.v 0) 0))),(24,.w (.a (.int .i64 (.v 10))))] [(.b (.v 0),.prop 1)] [.v] (.w (.a (.val 12)))
(.read (.fieldAddr 43 (.tmp 27) 1) 0 [(27,.w (.a (.val 12)))] [(.b (.v 0),.prop 1)] [.v] (.w (.a (.val 13)))
(.read (.load 3 (.tmp 28)) 3 [(28,.w (.a (.val 13)))] [(.b (.v 0),.prop 1)] [.i] (.w (.a (.int .i64 (.v 14))))
(.br (.o1 .not (.o2 .eq (.v 14) (.i 1)))
(.ret (.tup [.a (.int .i64 (.i 0)),.a (.int .i64 (.i 23))]) [(.b (.v 0),.prop 1)])
(.need (.o2 .le (.i 0) (.v 11))
(.need (.o1 .isSome (.v 3))
(.read (.load 9 (.tmp 35)) 9 [(35,.w (.a (.eptr 3 (.v 11) 1 0)))] [(.a 3,.prop 6)] [.s] (.w (.a (.str (.v 15))))
(.call 196 [.a (.ptr (.v 0) 0),.a (.int .i64 (.v 10)),.a (.str (.v 15))] [(.b (.v 0),.prop 1)] [.i] (.w (.a (.int .i64 (.v 16)))) [(.b (.v 0),.prop 1)]
(.br (.o2 .lt (.v 16) (.i 0))
(.ret (.tup [.a (.int .i64 (.i 0)),.a (.int .i64 (.i 21))]) [(.b (.v 0),.prop 1)])
(.need (.o1 (.inr .i64) (.o2 .add (.v 11) (.i 1)))
(.again 0 [.e (.o1 .neg (.o1 .neg (.v 8))),.e (.o1 .neg (.o1 .neg (.v 9))),.e (.o1 .neg (.o1 .neg (.v 16))),.e (.o1 .neg (.o1 .neg (.o2 .add (.v 11) (.i 1))))])))))))))))
(.ret (.tup [.a (.int .i64 (.v 10)),.a (.int .i64 (.i 0))]) [(.b (.v 0),.prop 1)])))))
theorem tree_rFind : tree Tryz.prog { absT := [142,144],keep := [30,76,78,144,198,196,142,139,24,145],opn := true,rdf := true } Tryz.f142 [.a (.ptr (.v 0) 0),.a (.str (.v 2))] [(.b (.v 0),.prop 1)] 3 = t_rFind := by kernel_rfl
def t_rUp : T :=
(.call 197 [.a (.str (.v 0))] [] [.a,.n,.n,.p,.c] (.tup [.a (.sl (.v 1) (.v 2) (.v 3)),.a (.bool (.v 5))]) [(.a 1,.prop 4)]
(.br (.o1 .not (.v 5))
(.ret (.tup [.a (.str (.s [])),.a (.str (.s [])),.a (.int .i64 (.i 20))]) [])
(.br (.o2 .eq (.o1 .ofNat (.v 2)) (.i 0))
(.ret (.tup [.a (.str (.s [])),.a (.str (.s [])),.a (.int .i64 (.i 20))]) [])
(.need (.o1 (.inr .i64) (.o2 .sub (.o1 .ofNat (.v 2)) (.i 1)))
(.read (.slice 29 (.tmp 23) none (some (.tmp 24)) none) 29 [(23,.w (.a (.sl (.v 1) (.v 2) (.v 3)))),(24,.w (.a (.int .i64 (.o2 .sub (.o1 .ofNat (.v 2)) (.i 1)))))] [(.a 1,.prop 4)] [.a,.n,.n] (.w (.a (.sl (.v 6) (.v 7) (.v 8))))
(.need (.o2 .le (.i 0) (.o2 .sub (.o1 .ofNat (.v 2)) (.i 1)))
(.need (.o2 .lt (.o2 .sub (.o1 .ofNat (.v 2)) (.i 1)) (.o1 .ofNat (.v 2)))
(.need (.o1 .isSome (.v 1))
(.read (.load 9 (.tmp 29)) 9 [(29,.w (.a (.eptr 1 (.o2 .sub (.o1 .ofNat (.v 2)) (.i 1)) 1 0)))] [(.a 1,.prop 4)] [.s] (.w (.a (.str (.v 9))))
(.call 198 [.a (.sl (.v 6) (.v 7) (.v 8))] [(.a 1,.prop 4)] [.s] (.w (.a (.str (.v 10)))) [(.a 1,.prop 4)]
(.ret (.tup [.a (.str (.v 10)),.a (.str (.v 9)),.a (.int .i64 (.i 0))]) [])))))))))))
theorem tree_rUp : tree Tryz.prog { absT := [142,144],keep := [30,76,78,144,198,196,142,139,24,145],opn := true,rdf := true } Tryz.f141 [.a (.str (.v 0))] [] 1 = t_rUp := by kernel_rfl
def t_rPlace : T :=
(.call 141 [.a (.str (.v 2))] [] [.s,.s,.i] (.tup [.a (.str (.v 3)),.a (.str (.v 4)),.a (.int .i64 (.v 5))]) []
(.br (.o1 .not (.o2 .eq (.v 5) (.i 0)))
(.ret (.tup [.a (.int .i64 (.i 0)),.a (.str (.s [])),.a (.int .i64 (.v 5))]) [(.b (.v 0),.prop 1)])
(.call 142 [.a (.ptr (.v 0) 0),.a (.str (.v 3))] [(.b (.v 0),.prop 1)] [.i,.i] (.tup [.a (.int .i64 (.v 6)),.a (.int .i64 (.v 7))]) [(.b (.v 0),.prop 1)]
(.br (.o1 .not (.o2 .eq (.v 7) (.i 0)))
(.ret (.tup [.a (.int .i64 (.i 0)),.a (.str (.s [])),.a (.int .i64 (.v 7))]) [(.b (.v 0),.prop 1)])
(.read (.indexAddr 142 (.tmp 32) (.tmp 30)) 0 [(32,.w (.a (.ptr (.v 0) 0))),(30,.w (.a (.int .i64 (.v 6))))] [(.b (.v 0),.prop 1)] [.v] (.w (.a (.val 8)))
(.read (.fieldAddr 43 (.tmp 33) 1) 0 [(33,.w (.a (.val 8)))] [(.b (.v 0),.prop 1)] [.v] (.w (.a (.val 9)))
(.read (.load 3 (.tmp 34)) 3 [(34,.w (.a (.val 9)))] [(.b (.v 0),.prop 1)] [.i] (.w (.a (.int .i64 (.v 10))))
(.br (.o1 .not (.o2 .eq (.v 10) (.i 1)))
(.ret (.tup [.a (.int .i64 (.i 0)),.a (.str (.s [])),.a (.int .i64 (.i 23))]) [(.b (.v 0),.prop 1)])
(.call 196 [.a (.ptr (.v 0) 0),.a (.int .i64 (.v 6)),.a (.str (.v 4))] [(.b (.v 0),.prop 1)] [.i] (.w (.a (.int .i64 (.v 11)))) [(.b (.v 0),.prop 1)]
(.br (.o2 .le (.i 0) (.v 11))
(.ret (.tup [.a (.int .i64 (.i 0)),.a (.str (.s [])),.a (.int .i64 (.i 22))]) [(.b (.v 0),.prop 1)])
(.ret (.tup [.a (.int .i64 (.v 6)),.a (.str (.v 4)),.a (.int .i64 (.i 0))]) [(.b (.v 0),.prop 1)])))))))))))
theorem tree_rPlace : tree Tryz.prog { absT := [142,144],keep := [30,76,78,144,198,196,142,139,24,145],opn := true,rdf := true } Tryz.f139 [.a (.ptr (.v 0) 0),.a (.str (.v 2))] [(.b (.v 0),.prop 1)] 3 = t_rPlace := by kernel_rfl
def t_rPut : T :=
(.read (.indexAddr 142 (.tmp 14) (.tmp 12)) 0 [(14,.w (.a (.ptr (.v 0) 0))),(12,.w (.a (.int .i64 (.v 2))))] [(.b (.v 0),.prop 1)] [.v] (.w (.a (.val 5)))
(.read (.fieldAddr 43 (.tmp 15) 4) 0 [(15,.w (.a (.val 5)))] [(.b (.v 0),.prop 1)] [.v] (.w (.a (.val 6)))
(.read (.load 41 (.tmp 16)) 41 [(16,.w (.a (.val 6)))] [(.b (.v 0),.prop 1)] [.a,.n,.n] (.w (.a (.sl (.v 7) (.v 8) (.v 9))))
(.new
(.loop [.a,.n,.n,.i,.p] [.a (.b (.v 10) 0),.e (.o2 .nadd (.n 0) (.n 0)),.e (.o2 .nadd (.n 0) (.n 0)),.e (.o1 .neg (.o1 .neg (.i 0))),.p [(.b (.v 10),.cells [] 140)]]
(.br (.o2 .lt (.v 14) (.o1 .ofNat (.v 8)))
(.need (.o2 .le (.i 0) (.v 14))
(.need (.o1 .isSome (.v 7))
(.read (.load 9 (.tmp 27)) 9 [(27,.w (.a (.eptr 7 (.v 14) 2 0)))] [(.b (.v 0),.prop 1)] [.s] (.w (.a (.str (.v 16))))
(.br (.o2 .slt (.v 16) (.v 3))
(.read (.load 140 (.tmp 35)) 140 [(35,.w (.a (.eptr 7 (.v 14) 2 0)))] [(.b (.v 0),.prop 1)] [.s,.i] (.w (.agg [.str (.v 17),.int .i64 (.v 18)]))
(.new
(.op (.call ⟨.builtin .append,#[.tmp 32,.tmp 37],#[41,41]⟩) 41 [(32,.w (.a (.sl (.v 11) (.v 12) (.v 13)))),(37,.w (.a (.sl (.b (.v 19) 0) (.n 1) (.n 1))))] [(.a 11,.prop 15),(.b (.v 19),.cells [.str (.v 17),.int .i64 (.v 18)] 140)] [.a,.n,.n,.p] (.w (.a (.sl (.v 20) (.v 21) (.v 22)))) [(.a 20,.prop 23),(.b (.v 19),.cells [.str (.v 17),.int .i64 (.v 18)] 140)]
(.need (.o1 (.inr .i64) (.o2 .add (.v 14) (.i 1)))
(.again 0 [.a (.v 20),.e (.o2 .nadd (.v 21) (.n 0)),.e (.o2 .nadd (.v 22) (.n 0)),.e (.o1 .neg (.o1 .neg (.o2 .add (.v 14) (.i 1)))),.p [(.a 20,.prop 23)]])))))
(.new
(.op (.call ⟨.builtin .append,#[.tmp 41,.tmp 45],#[41,41]⟩) 41 [(41,.w (.a (.sl (.v 11) (.v 12) (.v 13)))),(45,.w (.a (.sl (.b (.v 17) 0) (.n 1) (.n 1))))] [(.a 11,.prop 15),(.b (.v 17),.cells [.str (.v 3),.int .i64 (.v 4)] 140)] [.a,.n,.n,.p] (.w (.a (.sl (.v 18) (.v 19) (.v 20)))) [(.a 18,.prop 21),(.b (.v 17),.cells [.str (.v 3),.int .i64 (.v 4)] 140)]
(.read (.slice 41 (.tmp 50) (some (.tmp 51)) none none) 41 [(50,.w (.a (.sl (.v 7) (.v 8) (.v 9)))),(51,.w (.a (.int .i64 (.v 14))))] [(.b (.v 0),.prop 1)] [.a,.n,.n] (.w (.a (.sl (.v 22) (.v 23) (.v 24))))
(.op (.call ⟨.builtin .append,#[.tmp 49,.tmp 52],#[41,41]⟩) 41 [(49,.w (.a (.sl (.v 18) (.v 19) (.v 20)))),(52,.w (.a (.sl (.v 22) (.v 23) (.v 24))))] [(.a 18,.prop 21),(.b (.v 0),.prop 1)] [.a,.n,.n,.p] (.w (.a (.sl (.v 25) (.v 26) (.v 27)))) [(.a 25,.prop 28),(.b (.v 0),.prop 1)]
(.read (.indexAddr 142 (.tmp 55) (.tmp 48)) 0 [(55,.w (.a (.ptr (.v 0) 0))),(48,.w (.a (.int .i64 (.v 2))))] [(.b (.v 0),.prop 1)] [.v] (.w (.a (.val 29)))
(.read (.fieldAddr 43 (.tmp 56) 4) 0 [(56,.w (.a (.val 29)))] [(.b (.v 0),.prop 1)] [.v] (.w (.a (.val 30)))
(.op (.store 41 (.tmp 57) (.tmp 53)) 0 [(57,.w (.a (.val 30))),(53,.w (.a (.sl (.v 25) (.v 26) (.v 27))))] [(.b (.v 0),.prop 1),(.a 25,.prop 28)] [.p] (.tup []) [(.b (.v 0),.prop 31)]
(.ret (.tup []) [(.b (.v 0),.prop 31)]))))))))))))
(.new
(.op (.call ⟨.builtin .append,#[.tmp 41,.tmp 45],#[41,41]⟩) 41 [(41,.w (.a (.sl (.v 11) (.v 12) (.v 13)))),(45,.w (.a (.sl (.b (.v 16) 0) (.n 1) (.n 1))))] [(.a 11,.prop 15),(.b (.v 16),.cells [.str (.v 3),.int .i64 (.v 4)] 140)] [.a,.n,.n,.p] (.w (.a (.sl (.v 17) (.v 18) (.v 19)))) [(.a 17,.prop 20),(.b (.v 16),.cells [.str (.v 3),.int .i64 (.v 4)] 140)]
(.read (.slice 41 (.tmp 50) (some (.tmp 51)) none none) 41 [(50,.w (.a (.sl (.v 7) (.v 8) (.v 9)))),(51,.w (.a (.int .i64 (.v 14))))] [(.b (.v 0),.prop 1)] [.a,.n,.n] (.w (.a (.sl (.v 21) (.v 22) (.v 23))))
(.op (.call ⟨.builtin .append,#[.tmp 49,.tmp 52],#[41,41]⟩) 41 [(49,.w (.a (.sl (.v 17) (.v 18) (.v 19)))),(52,.w (.a (.sl (.v 21) (.v 22) (.v 23))))] [(.a 17,.prop 20),(.b (.v 0),.prop 1)] [.a,.n,.n,.p] (.w (.a (.sl (.v 24) (.v 25) (.v 26)))) [(.a 24,.prop 27),(.b (.v 0),.prop 1)]
(.read (.indexAddr 142 (.tmp 55) (.tmp 48)) 0 [(55,.w (.a (.ptr (.v 0) 0))),(48,.w (.a (.int .i64 (.v 2))))] [(.b (.v 0),.prop 1)] [.v] (.w (.a (.val 28)))
(.read (.fieldAddr 43 (.tmp 56) 4) 0 [(56,.w (.a (.val 28)))] [(.b (.v 0),.prop 1)] [.v] (.w (.a (.val 29)))
(.op (.store 41 (.tmp 57) (.tmp 53)) 0 [(57,.w (.a (.val 29))),(53,.w (.a (.sl (.v 24) (.v 25) (.v 26))))] [(.b (.v 0),.prop 1),(.a 24,.prop 27)] [.p] (.tup []) [(.b (.v 0),.prop 30)]
(.ret (.tup []) [(.b (.v 0),.prop 30)]))))))))))))))
theorem tree_rPut : tree Tryz.prog { absT := [142,144],hv := [(0,[.b (.v 10)])],keep := [30,76,78,144,198,196,142,139,24,145],opn := true,rdf := true } Tryz.f140 [.a (.ptr (.v 0) 0),.a (.int .i64 (.v 2)),.a (.str (.v 3)),.a (.int .i64 (.v 4))] [(.b (.v 0),.prop 1)] 5 = t_rPut := by kernel_rfl
def t_rDrop : T :=
(.read (.indexAddr 142 (.tmp 12) (.tmp 10)) 0 [(12,.w (.a (.ptr (.v 0) 0))),(10,.w (.a (.int .i64 (.v 2))))] [(.b (.v 0),.prop 1)] [.v] (.w (.a (.val 4)))
(.read (.fieldAddr 43 (.tmp 13) 4) 0 [(13,.w (.a (.val 4)))] [(.b (.v 0),.prop 1)] [.v] (.w (.a (.val 5)))
(.read (.load 41 (.tmp 14)) 41 [(14,.w (.a (.val 5)))] [(.b (.v 0),.prop 1)] [.a,.n,.n] (.w (.a (.sl (.v 6) (.v 7) (.v 8))))
(.new
(.loop [.a,.n,.n,.i,.p] [.a (.b (.v 9) 0),.e (.o2 .nadd (.n 0) (.n 0)),.e (.o2 .nadd (.n 0) (.n 0)),.e (.o1 .neg (.o1 .neg (.i 0))),.p [(.b (.v 9),.cells [] 140)]]
(.br (.o2 .lt (.v 13) (.o1 .ofNat (.v 7)))
(.need (.o2 .le (.i 0) (.v 13))
(.need (.o1 .isSome (.v 6))
(.read (.load 9 (.tmp 26)) 9 [(26,.w (.a (.eptr 6 (.v 13) 2 0)))] [(.b (.v 0),.prop 1)] [.s] (.w (.a (.str (.v 15))))
(.br (.o1 .not (.o2 .seq (.v 15) (.v 3)))
(.read (.load 140 (.tmp 33)) 140 [(33,.w (.a (.eptr 6 (.v 13) 2 0)))] [(.b (.v 0),.prop 1)] [.s,.i] (.w (.agg [.str (.v 16),.int .i64 (.v 17)]))
(.new
(.op (.call ⟨.builtin .append,#[.tmp 30,.tmp 35],#[41,41]⟩) 41 [(30,.w (.a (.sl (.v 10) (.v 11) (.v 12)))),(35,.w (.a (.sl (.b (.v 18) 0) (.n 1) (.n 1))))] [(.a 10,.prop 14),(.b (.v 18),.cells [.str (.v 16),.int .i64 (.v 17)] 140)] [.a,.n,.n,.p] (.w (.a (.sl (.v 19) (.v 20) (.v 21)))) [(.a 19,.prop 22),(.b (.v 18),.cells [.str (.v 16),.int .i64 (.v 17)] 140)]
(.need (.o1 (.inr .i64) (.o2 .add (.v 13) (.i 1)))
(.again 0 [.a (.v 19),.e (.o2 .nadd (.v 20) (.n 0)),.e (.o2 .nadd (.v 21) (.n 0)),.e (.o1 .neg (.o1 .neg (.o2 .add (.v 13) (.i 1)))),.p [(.a 19,.prop 22)]])))))
(.need (.o1 (.inr .i64) (.o2 .add (.v 13) (.i 1)))
(.again 0 [.a (.v 10),.e (.o2 .nadd (.v 11) (.n 0)),.e (.o2 .nadd (.v 12) (.n 0)),.e (.o1 .neg (.o1 .neg (.o2 .add (.v 13) (.i 1)))),.p [(.a 10,.prop 14)]]))))))
(.read (.indexAddr 142 (.tmp 41) (.tmp 38)) 0 [(41,.w (.a (.ptr (.v 0) 0))),(38,.w (.a (.int .i64 (.v 2))))] [(.b (.v 0),.prop 1)] [.v] (.w (.a (.val 15)))
(.read (.fieldAddr 43 (.tmp 42) 4) 0 [(42,.w (.a (.val 15)))] [(.b (.v 0),.prop 1)] [.v] (.w (.a (.val 16)))
(.op (.store 41 (.tmp 43) (.tmp 39)) 0 [(43,.w (.a (.val 16))),(39,.w (.a (.sl (.v 10) (.v 11) (.v 12))))] [(.b (.v 0),.prop 1),(.a 10,.prop 14)] [.p] (.tup []) [(.b (.v 0),.prop 17)]
(.ret (.tup []) [(.b (.v 0),.prop 17)]))))))))))
theorem tree_rDrop : tree Tryz.prog { absT := [142,144],hv := [(0,[.b (.v 9)])],keep := [30,76,78,144,198,196,142,139,24,145],opn := true,rdf := true } Tryz.f143 [.a (.ptr (.v 0) 0),.a (.int .i64 (.v 2)),.a (.str (.v 3))] [(.b (.v 0),.prop 1)] 4 = t_rDrop := by kernel_rfl
def t_rSize : T :=
(.new
(.loop [.a,.n,.n,.i,.p] [.a (.b (.v 5) 0),.e (.o2 .nadd (.n 0) (.n 0)),.e (.o2 .nadd (.n 0) (.n 0)),.e (.o1 .neg (.o1 .neg (.i 0))),.p [(.b (.v 5),.cells [] 5)]]
(.br (.o2 .lt (.v 9) (.v 4))
(.br (.o2 .lt (.v 9) (.o1 .ofNat (.v 1)))
(.need (.o2 .le (.i 0) (.v 9))
(.need (.o1 .isSome (.v 0))
(.read (.load 5 (.tmp 20)) 5 [(20,.w (.a (.eptr 0 (.v 9) 1 0)))] [(.a 0,.prop 3)] [.i] (.w (.a (.int .u8 (.v 11))))
(.new
(.op (.call ⟨.builtin .append,#[.tmp 17,.tmp 22],#[28,28]⟩) 28 [(17,.w (.a (.sl (.v 6) (.v 7) (.v 8)))),(22,.w (.a (.sl (.b (.v 12) 0) (.n 1) (.n 1))))] [(.a 6,.prop 10),(.b (.v 12),.cells [.int .u8 (.v 11)] 5)] [.a,.n,.n,.p] (.w (.a (.sl (.v 13) (.v 14) (.v 15)))) [(.a 13,.prop 16),(.b (.v 12),.cells [.int .u8 (.v 11)] 5)]
(.need (.o1 (.inr .i64) (.o2 .add (.v 9) (.i 1)))
(.again 0 [.a (.v 13),.e (.o2 .nadd (.v 14) (.n 0)),.e (.o2 .nadd (.v 15) (.n 0)),.e (.o1 .neg (.o1 .neg (.o2 .add (.v 9) (.i 1)))),.p [(.a 13,.prop 16)]])))))))
(.new
(.op (.call ⟨.builtin .append,#[.tmp 24,.tmp 25],#[28,28]⟩) 28 [(24,.w (.a (.sl (.v 6) (.v 7) (.v 8)))),(25,.w (.a (.sl (.b (.v 11) 0) (.n 1) (.n 1))))] [(.a 6,.prop 10),(.b (.v 11),.cells [.int .u8 (.i 0)] 5)] [.a,.n,.n,.p] (.w (.a (.sl (.v 12) (.v 13) (.v 14)))) [(.a 12,.prop 15),(.b (.v 11),.cells [.int .u8 (.i 0)] 5)]
(.need (.o1 (.inr .i64) (.o2 .add (.v 9) (.i 1)))
(.again 0 [.a (.v 12),.e (.o2 .nadd (.v 13) (.n 0)),.e (.o2 .nadd (.v 14) (.n 0)),.e (.o1 .neg (.o1 .neg (.o2 .add (.v 9) (.i 1)))),.p [(.a 12,.prop 15)]])))))
(.ret (.w (.a (.sl (.v 6) (.v 7) (.v 8)))) [(.a 0,.prop 3),(.a 6,.prop 10)]))))
theorem tree_rSize : tree Tryz.prog { absT := [142,144],hv := [(0,[.b (.v 5)])],keep := [30,76,78,144,198,196,142,139,24,145],opn := true,rdf := true } Tryz.f145 [.a (.sl (.v 0) (.v 1) (.v 2)),.a (.int .i64 (.v 4))] [(.a 0,.prop 3)] 5 = t_rSize := by kernel_rfl
def t_rDo : T :=
(.new
(.new
(.call 77 [.a (.ptr (.v 0) 0),.agg [.int .i64 (.v 2),.str (.v 3),.str (.v 4),.int .i64 (.v 5),.int .i64 (.v 6),.sl (.v 7) (.v 8) (.v 9)]] [(.b (.v 0),.prop 1),(.a 7,.prop 10)] [.i,.i,.i,.i,.a,.n,.n,.p,.a,.n,.n,.p,.i,.p] (.tup [.agg [.int .i64 (.v 13),.int .i64 (.v 14),.int .i64 (.v 15),.int .i64 (.v 16),.sl (.v 17) (.v 18) (.v 19),.sl (.v 21) (.v 22) (.v 23)],.a (.int .i64 (.v 25))]) [(.a 17,.prop 20),(.a 21,.prop 24),(.b (.v 0),.prop 26),(.a 7,.prop 10)]
(.new
(.br (.o1 .not (.o2 .eq (.v 25) (.i 0)))
(.ret (.w (.agg [.int .i64 (.v 25),.int .i64 (.i 0),.int .i64 (.i 0),.int .i64 (.i 0),.sl .nil (.n 0) (.n 0),.sl .nil (.n 0) (.n 0)])) [(.b (.v 0),.prop 26),(.a 7,.prop 10)])
(.ret (.w (.agg [.int .i64 (.v 13),.int .i64 (.v 14),.int .i64 (.v 15),.int .i64 (.v 16),.sl (.v 17) (.v 18) (.v 19),.sl (.v 21) (.v 22) (.v 23)])) [(.b (.v 0),.prop 26),(.a 7,.prop 10),(.a 17,.prop 20),(.a 21,.prop 24)]))))))
theorem tree_rDo : tree Tryz.prog { absT := [142,144],keep := [30,76,78,144,198,196,142,139,24,145],turn := [(77,[0])],opn := true,rdf := true } Tryz.f23 [.a (.ptr (.v 0) 0),.agg [.int .i64 (.v 2),.str (.v 3),.str (.v 4),.int .i64 (.v 5),.int .i64 (.v 6),.sl (.v 7) (.v 8) (.v 9)]] [(.b (.v 0),.prop 1),(.a 7,.prop 10)] 11 = t_rDo := by kernel_rfl
def t_split03 : T :=
(.new
(.br (.o2 .seq (.v 0) (.s [47]))
(.ret (.tup [.a (.sl (.b (.v 1) 0) (.n 0) (.n 0)),.a (.bool (.c true))]) [(.b (.v 1),.cells [] 9)])
(.br (.o2 .eq (.o1 .ofNat (.o1 .size (.v 0))) (.i 0))
(.ret (.tup [.a (.sl (.b (.v 1) 0) (.n 0) (.n 0)),.a (.bool (.c false))]) [(.b (.v 1),.cells [] 9)])
(.read (.index 9 (.tmp 16) (.const (.int .i64 0))) 5 [(16,.w (.a (.str (.v 0))))] [] [.i] (.w (.a (.int .u8 (.v 2))))
(.br (.o1 .not (.o2 .eq (.v 2) (.i 47)))
(.ret (.tup [.a (.sl (.b (.v 1) 0) (.n 0) (.n 0)),.a (.bool (.c false))]) [(.b (.v 1),.cells [] 9)])
(.loop [.a,.n,.n,.i,.i,.p] [.a (.b (.v 1) 0),.e (.o2 .nadd (.n 0) (.n 0)),.e (.o2 .nadd (.n 0) (.n 0)),.e (.o1 .neg (.o1 .neg (.i 1))),.e (.o1 .neg (.o1 .neg (.i 1))),.p [(.b (.v 1),.cells [] 9)]]
(.br (.o2 .le (.v 7) (.o1 .ofNat (.o1 .size (.v 0))))
(.br (.o2 .eq (.v 7) (.o1 .ofNat (.o1 .size (.v 0))))
(.read (.slice 9 (.tmp 38) (some (.tmp 39)) (some (.tmp 40)) none) 9 [(38,.w (.a (.str (.v 0)))),(39,.w (.a (.int .i64 (.v 6)))),(40,.w (.a (.int .i64 (.v 7))))] [] [.s] (.w (.a (.str (.v 9))))
(.new
(.op (.call ⟨.builtin .append,#[.tmp 37,.tmp 42],#[29,29]⟩) 29 [(37,.w (.a (.sl (.v 3) (.v 4) (.v 5)))),(42,.w (.a (.sl (.b (.v 10) 0) (.n 1) (.n 1))))] [(.a 3,.prop 8),(.b (.v 10),.cells [.str (.v 9)] 9)] [.a,.n,.n,.p] (.w (.a (.sl (.v 11) (.v 12) (.v 13)))) [(.a 11,.prop 14),(.b (.v 10),.cells [.str (.v 9)] 9)]
(.need (.o1 (.inr .i64) (.o2 .add (.v 7) (.i 1)))
(.again 0 [.a (.v 11),.e (.o2 .nadd (.v 12) (.n 0)),.e (.o2 .nadd (.v 13) (.n 0)),.e (.o1 .neg (.o1 .neg (.o2 .add (.v 7) (.i 1)))),.e (.o1 .neg (.o1 .neg (.o2 .add (.v 7) (.i 1)))),.p [(.a 11,.prop 14)]])))))
(.read (.index 9 (.tmp 32) (.tmp 33)) 5 [(32,.w (.a (.str (.v 0)))),(33,.w (.a (.int .i64 (.v 7))))] [] [.i] (.w (.a (.int .u8 (.v 9))))
(.br (.o2 .eq (.v 9) (.i 47))
(.read (.slice 9 (.tmp 38) (some (.tmp 39)) (some (.tmp 40)) none) 9 [(38,.w (.a (.str (.v 0)))),(39,.w (.a (.int .i64 (.v 6)))),(40,.w (.a (.int .i64 (.v 7))))] [] [.s] (.w (.a (.str (.v 10))))
(.new
(.op (.call ⟨.builtin .append,#[.tmp 37,.tmp 42],#[29,29]⟩) 29 [(37,.w (.a (.sl (.v 3) (.v 4) (.v 5)))),(42,.w (.a (.sl (.b (.v 11) 0) (.n 1) (.n 1))))] [(.a 3,.prop 8),(.b (.v 11),.cells [.str (.v 10)] 9)] [.a,.n,.n,.p] (.w (.a (.sl (.v 12) (.v 13) (.v 14)))) [(.a 12,.prop 15),(.b (.v 11),.cells [.str (.v 10)] 9)]
(.need (.o1 (.inr .i64) (.o2 .add (.v 7) (.i 1)))
(.again 0 [.a (.v 12),.e (.o2 .nadd (.v 13) (.n 0)),.e (.o2 .nadd (.v 14) (.n 0)),.e (.o1 .neg (.o1 .neg (.o2 .add (.v 7) (.i 1)))),.e (.o1 .neg (.o1 .neg (.o2 .add (.v 7) (.i 1)))),.p [(.a 12,.prop 15)]])))))
(.need (.o1 (.inr .i64) (.o2 .add (.v 7) (.i 1)))
(.again 0 [.a (.v 3),.e (.o2 .nadd (.v 4) (.n 0)),.e (.o2 .nadd (.v 5) (.n 0)),.e (.o1 .neg (.o1 .neg (.v 6))),.e (.o1 .neg (.o1 .neg (.o2 .add (.v 7) (.i 1)))),.p [(.a 3,.prop 8)]])))))
(.loop [.a,.n,.n,.p,.c,.i] [.a .nil,.e (.o2 .nadd (.n 0) (.n 0)),.e (.o2 .nadd (.n 0) (.n 0)),.p [],.e (.o1 .not (.o1 .not (.c false))),.e (.o1 .neg (.o1 .neg (.i 0)))]
(.br (.o2 .lt (.v 14) (.o1 .ofNat (.v 4)))
(.need (.o2 .le (.i 0) (.v 14))
(.need (.o1 .isSome (.v 3))
(.read (.load 9 (.tmp 54)) 9 [(54,.w (.a (.eptr 3 (.v 14) 1 0)))] [(.a 3,.prop 8)] [.s] (.w (.a (.str (.v 15))))
(.call 78 [.a (.str (.v 15))] [] [.c] (.w (.a (.bool (.v 16)))) []
(.br (.o1 .not (.v 16))
(.new
(.ret (.tup [.a (.sl (.b (.v 17) 0) (.n 0) (.n 0)),.a (.bool (.c false))]) [(.b (.v 17),.cells [] 9)]))
(.need (.o1 (.inr .i64) (.o2 .add (.v 14) (.i 1)))
(.again 0 [.a (.v 9),.e (.o2 .nadd (.v 10) (.n 0)),.e (.o2 .nadd (.v 11) (.n 0)),.p [(.a 9,.prop 12)],.e (.o1 .not (.o1 .not (.v 13))),.e (.o1 .neg (.o1 .neg (.o2 .add (.v 14) (.i 1))))])))))))
(.br (.o2 .lt (.i 8) (.o1 .ofNat (.v 4)))
(.new
(.ret (.tup [.a (.sl (.b (.v 15) 0) (.n 0) (.n 0)),.a (.bool (.c false))]) [(.b (.v 15),.cells [] 9)]))
(.ret (.tup [.a (.sl (.v 3) (.v 4) (.v 5)),.a (.bool (.c true))]) [(.a 3,.prop 8)])))))))))))
theorem tree_split03 : tree Tryz.prog { absT := [142,144],hv := [(0,[.b (.v 1)])],keep := [30,76,78,144,198,196,142,139,24,145],opn := true,rdf := true } Tryz.f197 [.a (.str (.v 0))] [] 1 = t_split03 := by kernel_rfl
def t_join03 : T :=
(.loop [.s,.i] [.e (.o2 .cat (.s []) (.s [])),.e (.o1 .neg (.o1 .neg (.i 0)))]
(.br (.o2 .lt (.v 5) (.o1 .ofNat (.v 1)))
(.need (.o2 .le (.i 0) (.v 5))
(.need (.o1 .isSome (.v 0))
(.read (.load 9 (.tmp 14)) 9 [(14,.w (.a (.eptr 0 (.v 5) 1 0)))] [(.a 0,.prop 3)] [.s] (.w (.a (.str (.v 6))))
(.need (.o2 .le (.o1 .ofNat (.o2 .nadd (.o1 .size (.s [47])) (.o1 .size (.v 6)))) (.i 9223372036854775807))
(.need (.o2 .le (.o1 .ofNat (.o2 .nadd (.o1 .size (.v 4)) (.o1 .size (.o2 .cat (.s [47]) (.v 6))))) (.i 9223372036854775807))
(.need (.o1 (.inr .i64) (.o2 .add (.v 5) (.i 1)))
(.again 0 [.e (.o2 .cat (.o2 .cat (.v 4) (.o2 .cat (.s [47]) (.v 6))) (.s [])),.e (.o1 .neg (.o1 .neg (.o2 .add (.v 5) (.i 1))))])))))))
(.br (.o2 .seq (.v 4) (.s []))
(.ret (.w (.a (.str (.s [47])))) [(.a 0,.prop 3)])
(.ret (.w (.a (.str (.v 4)))) [(.a 0,.prop 3)]))))
theorem tree_join03 : tree Tryz.prog { absT := [142,144],keep := [30,76,78,144,198,196,142,139,24,145],opn := true,rdf := true } Tryz.f198 [.a (.sl (.v 0) (.v 1) (.v 2))] [(.a 0,.prop 3)] 4 = t_join03 := by kernel_rfl
def t_inside03 : T :=
(.call 197 [.a (.str (.v 0))] [] [.a,.n,.n,.p,.c] (.tup [.a (.sl (.v 2) (.v 3) (.v 4)),.a (.bool (.v 6))]) [(.a 2,.prop 5)]
(.call 197 [.a (.str (.v 1))] [] [.a,.n,.n,.p,.c] (.tup [.a (.sl (.v 7) (.v 8) (.v 9)),.a (.bool (.v 11))]) [(.a 7,.prop 10)]
(.br (.o1 .not (.v 6))
(.ret (.w (.a (.bool (.c false)))) [])
(.br (.o1 .not (.v 11))
(.ret (.w (.a (.bool (.c false)))) [])
(.br (.o2 .le (.o1 .ofNat (.v 3)) (.o1 .ofNat (.v 8)))
(.ret (.w (.a (.bool (.c false)))) [])
(.loop [.c,.i] [.e (.o1 .not (.o1 .not (.c false))),.e (.o1 .neg (.o1 .neg (.i 0)))]
(.br (.o2 .lt (.v 13) (.o1 .ofNat (.v 8)))
(.need (.o2 .le (.i 0) (.v 13))
(.need (.o2 .lt (.v 13) (.o1 .ofNat (.v 3)))
(.need (.o1 .isSome (.v 2))
(.read (.load 9 (.tmp 41)) 9 [(41,.w (.a (.eptr 2 (.v 13) 1 0)))] [(.a 2,.prop 5)] [.s] (.w (.a (.str (.v 14))))
(.need (.o1 .isSome (.v 7))
(.read (.load 9 (.tmp 45)) 9 [(45,.w (.a (.eptr 7 (.v 13) 1 0)))] [(.a 7,.prop 10)] [.s] (.w (.a (.str (.v 15))))
(.br (.o1 .not (.o2 .seq (.v 14) (.v 15)))
(.ret (.w (.a (.bool (.c false)))) [])
(.need (.o1 (.inr .i64) (.o2 .add (.v 13) (.i 1)))
(.again 0 [.e (.o1 .not (.o1 .not (.v 12))),.e (.o1 .neg (.o1 .neg (.o2 .add (.v 13) (.i 1))))])))))))))
(.ret (.w (.a (.bool (.c true)))) []))))))))
theorem tree_inside03 : tree Tryz.prog { absT := [142,144],keep := [30,76,78,144,198,196,142,139,24,145],opn := true,rdf := true } Tryz.f144 [.a (.str (.v 0)),.a (.str (.v 1))] [] 2 = t_inside03 := by kernel_rfl
end Go.Proofs.YtdieogcemmnaaaaGreatDoor.RX

namespace Go.Proofs.YtdieogcemmnaaaaGreatDoor
open Go.Proofs.YtdieogcemmnaaaaGreatDoor RX
set_option maxRecDepth 100000
def nd0 : Nd := ⟨0,0,0,[],[]⟩
def ne0 : NodeE := ⟨nd0,none,0,none,0⟩
theorem ne0_hp (R h : PH) : (nodeHp ne0).p R h := ⟨RoC.nil _ _ _ _,rfl,RoC.nil _ _ _ _,fun x hx => by cases hx⟩
def rtCells (g : Nat → NodeE) : List Value := (List.range 64).flatMap fun i => nodeVs (g i)
def RT (b : Nat) (g : Nat → NodeE) : HP where
 p R h := h b = some (.cells (rtCells g).toArray 144 (0,0)) ∧ ∀ i,i < 64 → (nodeHp (g i)).p R h ∧ (g i).nd.ents.length ≤ (g i).ec
 mono l l' := fun ⟨h1,h2⟩ => ⟨l' _ _ h1,fun i hi => ⟨(nodeHp (g i)).mono l l' (h2 i hi).1,(h2 i hi).2⟩⟩
theorem nodeVs_len (x : NodeE) : (nodeVs x).length = 5 := rfl
theorem rt_get (g : Nat → NodeE) {i off : Nat} (hi : i < 64) (ho : off < 5) : (rtCells g)[i * 5 + off]? = (nodeVs (g i))[off]? :=
 flat_getL (fun i => nodeVs (g i)) 5 (fun _ => rfl) (List.range 64) i off i (List.getElem?_range hi) ho
theorem RT.rd {b : Nat} {g : Nat → NodeE} : Rd (RT b g) (some ⟨b,0,none⟩) (rtCells g) := fun w R h F s H j u hj => by
 refine ⟨b,0,rfl,?_⟩
 rw [cell_at (s.oh b _ H.1)]
 simpa using hj
theorem rtLd {t : TypeId} {d : TypeDesc} (hd : Tryz.prog.underlying t = some d) (ha : aggT Tryz.prog t = false) (hz : szT Tryz.prog t = 1) {b i off : Nat} {g : Nat → NodeE} (hi : i < 64) (ho : off < 5) {v : Value} (hv : (nodeVs (g i))[off]? = some v) :
  ORead Tryz.prog (loadS t (.pointer (some ⟨b,i * 5 + off,none⟩))) (RT b g) v := by
 have := load1_ok hd ha hz (RT.rd (b := b) (g := g)) (k := i * 5) (off := off) (by rw [rt_get g hi ho]; exact hv)
 simpa [addr_add] using this
theorem rtLdN {b i : Nat} {g : Nat → NodeE} (hi : i < 64) : ORead Tryz.prog (loadS 43 (.pointer (some ⟨b,i * 5,none⟩))) (RT b g) (.agg (nodeVs (g i)).toArray) := by
 obtain ⟨d,hd⟩ := undNode
 have := loadN_ok (vs := nodeVs (g i)) hd aggNode (RT.rd (b := b) (g := g)) (k := i * 5) (off := 0) szNode (by rw [nodeVs_len]; omega) fun j v hj => by
  have hj5 : j < 5 := (List.getElem?_eq_some_iff.1 hj).1
  rw [Nat.add_zero,rt_get g hi hj5]; exact hj
 simpa [addr_add] using this
theorem undArN : Tryz.prog.underlying 142 = some (.array 64 43) := by kernel_rfl
theorem ixN {b k : Nat} {x : Int} (hx : x = k) (hk : k < 64) {A : HP} : ORead Tryz.prog (idxS 142 (.pointer (some ⟨b,0,none⟩)) (.int .i64 x)) A (.pointer (some ⟨b,k * 5,none⟩)) := fun w R h F s _ => by
 obtain ⟨i,hi⟩ := Option.isSome_iff_exists.1 (show (Tryz.prog.info? 43).isSome = true by kernel_rfl)
 subst hx
 unfold idxS
 rw [Sem.run_bind,RX.run_indexAt_array undArN hi (by omega) (by omega),szNode]
 simp [addr_add]
def fldS (t : TypeId) (u : Value) (f : Nat) : Sem Next := do pure (.value (← Instr.fieldAt t u f))
theorem semW_fld {t ty : TypeId} {i f : Nat} {u : Value} : semW (.fieldAddr t (.tmp i) f) ty [(i,u)] = fldS t u f := by
 simp [semW,execOp,arW,fldS]
theorem fldN {b k f : Nat} (hf : f < 5) {A : HP} : ORead Tryz.prog (fldS 43 (.pointer (some ⟨b,k,none⟩)) f) A (.pointer (some ⟨b,k + f,none⟩)) := fun w R h F s _ => by
 have key : ∃ fs fd,Tryz.prog.underlying 43 = some (.struct fs) ∧ fs[f]? = some fd ∧ szT Tryz.prog fd.type ≠ 0 ∧ fd.offset = f := by
  match f,hf with
  | 0,_ => exact ⟨_,_,Tryz.underlying43,rfl,by rw [show szT Tryz.prog _ = 1 by kernel_rfl]; decide,rfl⟩
  | 1,_ => exact ⟨_,_,Tryz.underlying43,rfl,by rw [show szT Tryz.prog _ = 1 by kernel_rfl]; decide,rfl⟩
  | 2,_ => exact ⟨_,_,Tryz.underlying43,rfl,by rw [show szT Tryz.prog _ = 1 by kernel_rfl]; decide,rfl⟩
  | 3,_ => exact ⟨_,_,Tryz.underlying43,rfl,by rw [show szT Tryz.prog _ = 1 by kernel_rfl]; decide,rfl⟩
  | 4,_ => exact ⟨_,_,Tryz.underlying43,rfl,by rw [show szT Tryz.prog _ = 1 by kernel_rfl]; decide,rfl⟩
 obtain ⟨fs,fd,h1,h2,h3,h4⟩ := key
 unfold fldS
 rw [Sem.run_bind,RX.run_fieldAt h1 h2 h3,h4]
 simp [addr_add]
def upd (g : Nat → NodeE) (i : Nat) (x : NodeE) (j : Nat) : NodeE := if j = i then x else g j
theorem upd_at (g : Nat → NodeE) (i : Nat) (x : NodeE) : upd g i x i = x := if_pos rfl
theorem upd_ne (g : Nat → NodeE) {i j : Nat} (x : NodeE) (h : j ≠ i) : upd g i x j = g j := if_neg h
theorem rt_split (g : Nat → NodeE) {i : Nat} (hi : i < 64) : ∃ l1 l2 : List Nat,List.range 64 = l1 ++ i :: l2 ∧ l1.length = i ∧ ∀ j,j ∈ l1 ∨ j ∈ l2 → j ≠ i := by
 refine ⟨(List.range 64).take i,(List.range 64).drop (i + 1),?_,by simp; omega,?_⟩
 ·conv => lhs; rw [← List.take_append_drop i (List.range 64),List.drop_eq_getElem_cons (by simpa using hi)]
  rw [List.getElem_range]
 ·intro j hj e
  subst e
  have nd := List.nodup_range (n := 64)
  rw [← List.take_append_drop j (List.range 64),List.drop_eq_getElem_cons (by simpa using hi),List.getElem_range,List.nodup_append] at nd
  obtain ⟨_,n2,n3⟩ := nd
  rcases hj with h | h
  ·exact n3 j h j (by simp) rfl
  ·exact (List.nodup_cons.1 n2).1 h
theorem rt_parts (g : Nat → NodeE) {i : Nat} (hi : i < 64) (x : NodeE) : ∃ A C : List Value,rtCells g = A ++ nodeVs (g i) ++ C ∧ rtCells (upd g i x) = A ++ nodeVs x ++ C ∧ A.length = i * 5 := by
 obtain ⟨l1,l2,h1,h2,h3⟩ := rt_split g hi
 refine ⟨l1.flatMap fun i => nodeVs (g i),l2.flatMap fun i => nodeVs (g i),?_,?_,?_⟩
 ·unfold rtCells; rw [h1]; simp
 ·unfold rtCells
  rw [h1,List.flatMap_append,List.flatMap_cons,upd_at]
  have e1 : l1.flatMap (fun j => nodeVs (upd g i x j)) = l1.flatMap fun j => nodeVs (g j) := by
   rw [List.flatMap_def,List.flatMap_def,List.map_congr_left fun j hj => by rw [upd_ne g x (h3 j (.inl hj))]]
  have e2 : l2.flatMap (fun j => nodeVs (upd g i x j)) = l2.flatMap fun j => nodeVs (g j) := by
   rw [List.flatMap_def,List.flatMap_def,List.map_congr_left fun j hj => by rw [upd_ne g x (h3 j (.inr hj))]]
  rw [e1,e2]; simp
 ·rw [flat_lenL (fun i => nodeVs (g i)) 5 (fun _ => rfl),h2]
theorem rtStore {t : TypeId} {ti : TypeInfo} (hti : Tryz.prog.info? t = some ti) {b i off : Nat} {g : Nat → NodeE} (hi : i < 64) {v : Value} {vs : List Value} (hv : v.cells = vs.toArray) (hz : ti.size = vs.length) (hp : 0 < vs.length) (h1 : ∀ u ∈ vs,u.oneCell' = true) (x : NodeE) (ho : off + vs.length ≤ 5)
  (hx : nodeVs x = (nodeVs (g i)).take off ++ vs ++ (nodeVs (g i)).drop (off + vs.length)) {Q : HP} (hQ : ∀ R h,(HP.sep (RT b g) Q).p R h → (nodeHp x).p R h ∧ x.nd.ents.length ≤ x.ec) :
  OTri Tryz.prog (storeS t (.pointer (some ⟨b,i * 5 + off,none⟩)) v) (HP.sep (RT b g) Q) (fun v => HP.and (v = .tuple #[]) (RT b (upd g i x))) := by
 obtain ⟨A,C,e1,e2,e3⟩ := rt_parts g hi x
 have h5 : (nodeVs (g i)).length = 5 := rfl
 have st := storeOne_ok hti 144 b (rtCells g).toArray (i * 5 + off) v vs hv hz hp h1 (by rw [List.size_toArray,e1]; simp [e3,h5]; omega) (by unfold maxLen; omega)
 have ec : ((rtCells g).toArray.toList.take (i * 5 + off) ++ vs ++ (rtCells g).toArray.toList.drop (i * 5 + off + vs.length)) = rtCells (upd g i x) := by
  rw [e2,hx,List.toList_toArray,e1]
  have t1 : (A ++ nodeVs (g i) ++ C).take (i * 5 + off) = A ++ (nodeVs (g i)).take off := by
   rw [← e3,List.append_assoc,List.take_length_add_append,List.take_append_of_le_length (by omega)]
  have t2 : (A ++ nodeVs (g i) ++ C).drop (i * 5 + off + vs.length) = (nodeVs (g i)).drop (off + vs.length) ++ C := by
   rw [← e3,List.append_assoc,Nat.add_assoc,List.drop_length_add_append,List.drop_append_of_le_length (by omega)]
  rw [t1,t2]; simp
 rw [ec] at st
 let K : HP := ⟨fun R h => (∀ j,j < 64 → (nodeHp (g j)).p R h ∧ (g j).nd.ents.length ≤ (g j).ec) ∧ (nodeHp x).p R h ∧ x.nd.ents.length ≤ x.ec,fun l l' ⟨q1,q2⟩ => ⟨fun j hj => ⟨(nodeHp (g j)).mono l l' (q1 j hj).1,(q1 j hj).2⟩,(nodeHp x).mono l l' q2.1,q2.2⟩⟩
 refine st.conseq (K := K) (.of fun R h H => ?_) fun v => .of fun R h H => ?_
 ·have hxx := hQ R h H
  obtain ⟨a1,a2,d,l1,l2,⟨H1,H2⟩,_⟩ := H
  exact ⟨a1,a2,d,l1,l2,H1,fun j hj => ⟨nodeHp_pers _ _ _ _ (H2 j hj).1,(H2 j hj).2⟩,nodeHp_pers _ _ _ _ hxx.1,hxx.2⟩
 ·obtain ⟨a1,a2,d,l1,l2,⟨e,H1⟩,q1,q2⟩ := H
  refine ⟨e,l1 _ _ H1,fun j hj => ?_⟩
  unfold upd
  split
  ·exact ⟨nodeHp_pers _ _ _ _ q2.1,q2.2⟩
  ·exact ⟨nodeHp_pers _ _ _ _ (q1 j hj).1,(q1 j hj).2⟩
def ndF (T : List Nd) (i : Nat) : Nd := (nodeAt T i).getD nd0
def Rp (g : Nat → NodeE) (T : List Nd) : Prop := ∀ i,i < 64 → (g i).nd = ndF T i
theorem ndF_some {T : List Nd} {i : Nat} {n : Nd} (h : nodeAt T i = some n) : ndF T i = n := by unfold ndF; rw [h]; rfl
theorem ndF_none {T : List Nd} {i : Nat} (h : nodeAt T i = none) : ndF T i = nd0 := by unfold ndF; rw [h]; rfl
theorem rtKind {b i : Nat} {g : Nat → NodeE} (hi : i < 64) : ORead Tryz.prog (loadS 3 (.pointer (some ⟨b,i * 5 + 1,none⟩))) (RT b g) (.int .i64 (g i).nd.kind) := rtLd undInt (by kernel_rfl) (by kernel_rfl) hi (by omega) rfl
theorem rtLinks {b i : Nat} {g : Nat → NodeE} (hi : i < 64) : ORead Tryz.prog (loadS 3 (.pointer (some ⟨b,i * 5 + 2,none⟩))) (RT b g) (.int .i64 (g i).nd.links) := rtLd undInt (by kernel_rfl) (by kernel_rfl) hi (by omega) rfl
theorem rtEnts {b i : Nat} {g : Nat → NodeE} (hi : i < 64) : ORead Tryz.prog (loadS 41 (.pointer (some ⟨b,i * 5 + 4,none⟩))) (RT b g) (.slice (g i).ea (g i).nd.ents.length (g i).ec) := rtLd undEs' (by kernel_rfl) (by kernel_rfl) hi (by omega) rfl
theorem rtData {b i : Nat} {g : Nat → NodeE} (hi : i < 64) : ORead Tryz.prog (loadS 28 (.pointer (some ⟨b,i * 5 + 3,none⟩))) (RT b g) (.slice (g i).da (g i).nd.data.length (g i).dc) := rtLd und8 (by kernel_rfl) (by kernel_rfl) hi (by omega) rfl
theorem rtEnt {b i k : Nat} {g : Nat → NodeE} (hi : i < 64) {e : Nm × Nat} (hk : (g i).nd.ents[k]? = some e) : ORead Tryz.prog (loadS 140 (.pointer ((g i).ea.map fun y => (y.add (k * 2)).add 0))) (RT b g) (.agg #[sE e.1,.int .i64 e.2]) := by
 obtain ⟨d,hd⟩ := undEnt
 exact ORead.ent (.of fun R h H => (H.2 i hi).1.2) (Ls.load (K := kEnt) hd aggEnt szEnt hk)
theorem rtEnt1 {b i k : Nat} {g : Nat → NodeE} (hi : i < 64) {e : Nm × Nat} (hk : (g i).nd.ents[k]? = some e) {off : Nat} {t : TypeId} {d : TypeDesc} {v : Value} (hd : Tryz.prog.underlying t = some d) (ha : aggT Tryz.prog t = false) (hz : szT Tryz.prog t = 1) (hv : (entV e)[off]? = some v) : ORead Tryz.prog (loadS t (.pointer ((g i).ea.map fun y => (y.add (k * 2)).add off))) (RT b g) v :=
 ORead.ent (.of fun R h H => (H.2 i hi).1.2) (Ls.load1 (K := kEnt) hd ha hz hk hv)
theorem RT.ea {b : Nat} {g : Nat → NodeE} {R h : PH} (H : (RT b g).p R h) : ∀ i,i < 64 → (g i).nd.ents.length ≠ 0 → (g i).ea.isSome = true := fun i hi hn => Ls.some (H.2 i hi).1.2 hn
theorem RT.da {b : Nat} {g : Nat → NodeE} {R h : PH} (H : (RT b g).p R h) : ∀ i,i < 64 → (g i).nd.data.length ≠ 0 → (g i).da.isSome = true := fun i hi hn => RoC.some (H.2 i hi).1.1 (by omega)
theorem rtDataL {b i : Nat} {g : Nat → NodeE} (hi : i < 64) : RdL (RT b g) (g i).da (g i).nd.data.length ((g i).nd.data.map u8v) :=
 ⟨Rd.impR (RdL.ro 1 (g i).da (g i).nd.data.length ((g i).nd.data.map u8v)).rd fun R h H => (H.2 i hi).1.1,fun R h H e => (RdL.ro 1 (g i).da (g i).nd.data.length ((g i).nd.data.map u8v)).none R h (H.2 i hi).1.1 e⟩
end Go.Proofs.YtdieogcemmnaaaaGreatDoor

namespace Go.Proofs.YtdieogcemmnaaaaGreatDoor
set_option linter.unusedSimpArgs false
set_option linter.unusedVariables false
open Go.Proofs.YtdieogcemmnaaaaGreatDoor RX
set_option maxRecDepth 100000
theorem appS1 (a : Option Addr) (n c : Nat) (l : List Nm) (q : Nat) (x : Nm) (hb : n ≤ 1000000000) {P : HP} (hP : HP.ent P (OwS a n c l)) {C : Value → HP}
  (post : ∀ a' c' R h,(HP.sep (OwS a' (n + 1) c' (l ++ [x])) (HP.one q (.cells #[sE x] 9 (0,0)))).p R h → (C (.slice a' (n + 1) c')).p R h) :
  OTri Tryz.prog (appS 29 29 (.slice a n c) (.slice (some ⟨q,0,none⟩) 1 1)) (HP.sep P (HP.one q (.cells #[sE x] 9 (0,0)))) C := by
 obtain ⟨i,hi,h1,h2,h3⟩ := info_parts infoStr
 have := append_ok 29 29 9 i (.string ⟨#[]⟩) undSs hi h1 (by rw [h2]; rfl) (by omega) a n c (l.map sE) (HP.one q (.cells #[sE x] 9 (0,0))) ⟨q,0,none⟩ 1 1 [sE x] (one_rd q #[sE x] 9) (by simp [h2]) (by intro u hu; simp at hu; subst hu; rfl) (by unfold maxLen; omega) (by rw [h3]; omega)
 rw [h2] at this
 refine OTri.pre3 (this.weak (fun _ _ h => h) ?_) (HP.ent.sep hP _)
 rintro v R h ⟨a',c',rfl,H⟩
 refine post a' c' R h ?_
 have e : (l ++ [x]).map sE = l.map sE ++ [sE x] := by simp
 show (HP.sep (OwC 9 1 a' (n + 1) c' ((l ++ [x]).map sE)) _).p R h
 rw [e]
 exact H
theorem splitB_step {s : List UInt8} {from' i : Nat} (h1 : from' ≤ i) (hi : s[i]? = some 47) (hno : ∀ j,from' ≤ j → j < i → s[j]? ≠ some 47) : splitB 47 (s.drop from') = (s.take i).drop from' :: splitB 47 (s.drop (i + 1)) := by
 have hlt := (List.getElem?_eq_some_iff.1 hi).1
 have e1 : s.drop from' = (s.take i).drop from' ++ 47 :: s.drop (i + 1) := by
  conv => lhs; rw [← List.take_append_drop i s]
  rw [List.drop_append_of_le_length (by rw [List.length_take]; omega),List.drop_eq_getElem_cons hlt]
  rw [List.getElem?_eq_getElem hlt] at hi
  rw [Option.some.inj hi]
 rw [e1]
 refine splitB_app (fun hm => ?_) _
 obtain ⟨j,hj⟩ := List.mem_iff_getElem?.1 hm
 rw [List.getElem?_drop,List.getElem?_take] at hj
 split at hj
 ·exact hno (from' + j) (by omega) (by omega) hj
 ·cases hj
theorem splitB_last {s : List UInt8} {from' : Nat} (h1 : from' ≤ s.length) (hno : ∀ j,from' ≤ j → j < s.length → s[j]? ≠ some 47) : splitB 47 (s.drop from') = [(s.take s.length).drop from'] := by
 rw [List.take_length]
 refine splitB_one fun hm => ?_
 obtain ⟨j,hj⟩ := List.mem_iff_getElem?.1 hm
 rw [List.getElem?_drop] at hj
 exact hno (from' + j) (by omega) (List.getElem?_eq_some_iff.1 hj).1 hj
theorem splitB_mem {x : List UInt8} : ∀ {s : List UInt8},x ∈ splitB 47 s → x.length ≤ s.length
 | [],h => by simp [splitB] at h; subst h; simp
 | b :: r,h => by
  unfold splitB at h
  split at h
  ·rcases List.mem_cons.1 h with rfl | h
   ·simp
   ·have := splitB_mem h; simp; omega
  ·split at h
   ·rename_i y q hy
    rcases List.mem_cons.1 h with rfl | h
    ·have := splitB_mem (x := y) (s := r) (by rw [hy]; simp)
     simp; omega
    ·have := splitB_mem (x := x) (s := r) (by rw [hy]; simp [h])
     simp; omega
   ·simp at h; subst h; simp
theorem strIxC {t ty : TypeId} {i : Nat} (ht : Tryz.prog.underlying t = some .string) {s : List UInt8} {k : Nat} {c : UInt8} (hk : s[k]? = some c) {A : HP} :
  ORead Tryz.prog (semW (.index t (.tmp i) (.const (.int .i64 k))) ty [(i,.string ⟨s.toArray⟩)]) A (.int .u8 c.toNat) := fun w R hh F st hA => by
 have := strIx (t := t) (ty := ty) (i := i) (j := i + 1) (by omega) ht rfl hk (A := A) w R hh F st hA
 have e : semW (.index t (.tmp i) (.const (.int .i64 k))) ty [(i,.string ⟨s.toArray⟩)] = semW (.index t (.tmp i) (.tmp (i + 1))) ty [(i,.string ⟨s.toArray⟩),(i + 1,.int .i64 k)] := by
  have h' : (i == i + 1) = false := by simp
  simp [semW,execOp,arW,h']
 rw [e]; exact this
def Split03 (s : Nm) (v : Value) : HP := HP.ex fun a => HP.ex fun c => HP.and (v = .tuple #[.slice a ((splitP s).getD []).length c,.bool (splitP s).isSome]) (OwS a ((splitP s).getD []).length c ((splitP s).getD []))
set_option maxHeartbeats 4000000 in
theorem split03_ok (s : Nm) (hs : s.length ≤ 100000) : Tri Tryz.prog 197 #[sE s] HP.tt (Split03 s) := by
 refine tri_of_tree (ρ := [.s s]) mixed Tryz.func197 tree_split03 ?_
 unfold t_split03
 simp only [T.den,E.prop,E.den,RX.look,F1.app,F2.app,Uni.int_i,Uni.nat_n,Uni.bool_c,Uni.str_s,Uni.adr_a,Uni.val_v,Uni.hp_p,hden,cden,V.den,W.den,A.den,BR.den,SA.den,FV.den,capV,exs,exP,allP,Cur.app,List.map_cons,List.map_nil,List.cons_append,List.nil_append,List.drop_succ_cons,List.drop_zero,List.length_cons,List.length_nil,Nat.zero_add,Nat.reduceAdd,Int.neg_neg,Bool.not_not,List.append_nil,Nat.add_zero,List.getElem?_cons_zero,List.getElem?_cons_succ,Decidable.not_not,semW_eq,semW_load,semW_append,ne_eq,Nat.reduceEqDiff,not_false_eq_true,semW_sllh]
 intro q0
 have empty : ∀ (q : Nat) {R h},(HP.one q (.cells #[] 9 (0,0))).p R h → (OwS (some ⟨q,0,none⟩) 0 0 []).p R h := fun q R h H => ⟨by simp,.inr ⟨q,#[],rfl,H,Nat.le_refl _,by unfold maxLen; omega,by simp,by simp⟩⟩
 have none' : splitP s = none → ∀ (q : Nat),HP.ent (HP.one q (.cells #[] 9 (0,0))) (Split03 s (.tuple #[.slice (some ⟨q,0,none⟩) 0 0,.bool false])) := fun h q => .of fun R hh H => by
  refine ⟨some ⟨q,0,none⟩,0,?_,?_⟩
  ·rw [h]; rfl
  ·rw [h]; exact empty q H
 refine ⟨fun e => .of fun R h H => ?_,fun ne => ⟨fun e => none' ?_ q0,fun h0 => ?_⟩⟩
 ·subst e
  exact ⟨some ⟨q0,0,none⟩,0,rfl,empty q0 H⟩
 ·have : s = [] := List.eq_nil_of_length_eq_zero (by omega)
  subst this; rfl
 obtain ⟨b,r,rfl⟩ : ∃ b r,s = b :: r := by
  cases s with
  | nil => exact absurd rfl h0
  | cons b r => exact ⟨b,r,rfl⟩
 have hsz : (b :: r).length = r.length + 1 := rfl
 refine ⟨b.toNat,strIxC (k := 0) (by kernel_rfl) rfl,fun e => none' ?_ q0,fun e => ?_⟩
 ·unfold splitP
  rw [if_neg ne]
  simp only
  rw [if_neg]
  rintro rfl
  exact e rfl
 have hb : b = 47 := UInt8.toNat_inj.1 (by have : (47 : UInt8).toNat = 47 := rfl; omega)
 subst hb
 have sp : splitP (47 :: r) = if (splitB 47 r).length ≤ 8 ∧ (splitB 47 r).all nameOk = true then some (splitB 47 r) else none := by
  unfold splitP
  rw [if_neg ne]
  simp only [if_true]
 have hbl : (splitB 47 r).length ≤ r.length + 1 := by rw [splitB_len]; have := List.count_le_length (a := (47 : UInt8)) (l := r); omega
 refine ⟨fun a n' c' fr i P => ∃ (u k : Nat) (L : List Nm),fr = u ∧ i = k ∧ n' = L.length ∧ (n' ≠ 0 → a.isSome = true) ∧ HP.ent P (OwS a n' c' L) ∧ 1 ≤ k ∧
  ((u ≤ k ∧ k ≤ r.length + 1 ∧ splitB 47 r = L ++ splitB 47 ((47 :: r).drop u) ∧ ∀ j,u ≤ j → j < k → (47 :: r)[j]? ≠ some 47) ∨ (k = r.length + 2 ∧ splitB 47 r = L)),fun _ _ _ _ i _ => r.length + 3 - i.toNat,
  ⟨1,1,[],rfl,rfl,rfl,fun h => absurd rfl h,.of fun R h H => empty q0 H,Nat.le_refl _,.inl ⟨Nat.le_refl _,by omega,rfl,fun j h1 h2 => by omega⟩⟩,?_⟩
 rintro a _ c' _ _ P ⟨u,k,L,rfl,rfl,rfl,hsm,hP,hk1,hst⟩
 have hLl : L.length ≤ r.length + 1 := by
  rcases hst with ⟨_,_,h,_⟩ | ⟨_,h⟩
  ·have := congrArg List.length h; rw [List.length_append] at this; omega
  ·rw [← h]; omega
 have grow : ∀ (x : Nm) (q : Nat) (st : (r.length + 1 ≥ k + 1 ∧ splitB 47 r = (L ++ [x]) ++ splitB 47 ((47 :: r).drop (k + 1))) ∨ (k = r.length + 1 ∧ splitB 47 r = L ++ [x])) (a' : Option Addr) (c'' : Nat) (R h : PH),(HP.sep (OwS a' (L.length + 1) c'' (L ++ [x])) (HP.one q (.cells #[sE x] 9 (0,0)))).p R h →
   (IntKind.i64.min ≤ (k : Int) + 1 ∧ (k : Int) + 1 ≤ IntKind.i64.max) ∧ ((IntKind.i64.min ≤ (k : Int) + 1 ∧ (k : Int) + 1 ≤ IntKind.i64.max) → (∃ (u' k' : Nat) (L' : List Nm),(k : Int) + 1 = u' ∧ (k : Int) + 1 = k' ∧ L.length + 1 = L'.length ∧ (L.length + 1 ≠ 0 → a'.isSome = true) ∧ HP.ent (OwS a' (L.length + 1) c'' (L ++ [x])) (OwS a' (L.length + 1) c'' L') ∧ 1 ≤ k' ∧
  ((u' ≤ k' ∧ k' ≤ r.length + 1 ∧ splitB 47 r = L' ++ splitB 47 ((47 :: r).drop u') ∧ ∀ j,u' ≤ j → j < k' → (47 :: r)[j]? ≠ some 47) ∨ (k' = r.length + 2 ∧ splitB 47 r = L'))) ∧ r.length + 3 - ((k : Int) + 1).toNat < r.length + 3 - (k : Int).toNat) := fun x q st a' c'' R h H => by
  have hk : k ≤ r.length + 1 := by omega
  refine ⟨inI64' _ (by omega) (by omega),fun _ => ⟨⟨k + 1,k + 1,L ++ [x],by omega,by omega,by simp,fun _ => OwC.some (HP.sep_left H) (by omega),.of fun _ _ h => h,by omega,?_⟩,by omega⟩⟩
  rcases st with ⟨h1,h2⟩ | ⟨h1,h2⟩
  ·exact .inl ⟨Nat.le_refl _,by omega,h2,fun j h3 h4 => by omega⟩
  ·exact .inr ⟨by omega,h2⟩
 refine ⟨fun hle => ⟨fun hke => ?_,fun hke => ?_⟩,fun hgt => ?_⟩
 ·rcases hst with ⟨h1,h2,h3,h4⟩ | ⟨h1,_⟩
  ·have hkl : k = r.length + 1 := by omega
   refine ⟨_,sliceStr (47 :: r) (some u) (some k) (by simp; omega) (by simp; omega) HP.tt,fun q => ?_⟩
   refine appS1 a L.length c' L q _ (by omega) hP fun a' c'' R h H => ?_
   refine ⟨a',_,c'',_,rfl,?_,H⟩
   refine grow _ q (.inr ⟨hkl,?_⟩) a' c'' R h H
   rw [h3,splitB_last (by simp; omega) (fun j h5 h6 => h4 j h5 (by simp at h6; omega))]
   simp only [Option.getD_some]
   rw [hkl]; rfl
  ·exfalso; simp at hle; omega
 ·rcases hst with ⟨h1,h2,h3,h4⟩ | ⟨h1,_⟩
  ·have hkl : k < r.length + 1 := by simp at hke; omega
   obtain ⟨x,hx⟩ := getN (l := 47 :: r) (k := k) (by simp; omega)
   refine ⟨x.toNat,strIx (by decide) (by kernel_rfl) rfl hx,fun h47 => ?_,fun h47 => ?_⟩
   ·have hx47 : x = 47 := UInt8.toNat_inj.1 (by have : (47 : UInt8).toNat = 47 := rfl; omega)
    subst hx47
    refine ⟨_,sliceStr (47 :: r) (some u) (some k) (by simp; omega) (by simp; omega) HP.tt,fun q => ?_⟩
    refine appS1 a L.length c' L q _ (by omega) hP fun a' c'' R h H => ?_
    refine ⟨a',_,c'',_,rfl,?_,H⟩
    refine grow _ q (.inl ⟨by omega,?_⟩) a' c'' R h H
    rw [h3,splitB_step h1 hx h4]
    simp
   ·refine ⟨inI64' _ (by omega) (by omega),fun _ => ⟨⟨u,k + 1,L,rfl,by omega,rfl,hsm,hP,by omega,.inl ⟨by omega,by omega,h3,fun j h5 h6 => ?_⟩⟩,by dsimp only; omega⟩⟩
    rcases Nat.lt_or_eq_of_le (Nat.le_of_lt_succ h6) with h | h
    ·exact h4 j h5 h
    ·subst h
     rw [hx]
     intro e
     rw [Option.some.inj e] at h47
     exact h47 rfl
  ·exfalso; simp at hle; omega
 ·have hL : splitB 47 r = L := by
   rcases hst with ⟨_,h2,_,_⟩ | ⟨_,h2⟩
   ·exfalso; simp at hgt; omega
   ·exact h2
  refine ⟨fun _ _ _ _ _ i => ∃ m : Nat,i = m ∧ m ≤ L.length ∧ ∀ x ∈ L.take m,nameOk x = true,fun _ _ _ _ _ i => L.length - i.toNat,⟨0,rfl,Nat.zero_le _,fun x h => by simp at h⟩,?_⟩
  rintro _ _ _ _ _ _ ⟨m,rfl,hm,hall⟩
  refine ⟨fun hlt => ⟨by omega,fun _ => ⟨hsm (by omega),fun _ => ?_⟩⟩,fun hge => ⟨fun h8 => ?_,fun h8 => ?_⟩⟩
  ·obtain ⟨x,hx⟩ := getN (l := L) (k := m) (by omega)
   have hxm := List.mem_of_getElem? hx
   have hxl : x.length ≤ r.length := splitB_mem (by rw [hL]; exact hxm)
   refine ⟨x,ORead.ent hP (loadStr (RdL.ow _ _ _ _ _ _).rd hx),?_⟩
   refine (name03_ok x (by omega)).weak (fun _ _ _ => trivial) ?_
   rintro v R h rfl
   refine ⟨nameOk x,rfl,⟨fun hno q => none' ?_ q,fun hyes => ⟨inI64' _ (by omega) (by omega),fun _ => ⟨⟨m + 1,by omega,by omega,fun y hy => ?_⟩,by dsimp only; omega⟩⟩⟩,trivial⟩
   ·rw [sp,if_neg]
    rintro ⟨_,hall'⟩
    rw [hL,List.all_eq_true] at hall'
    exact hno (hall' x hxm)
   ·rw [List.take_add_one,hx,List.mem_append] at hy
    rcases hy with hy | hy
    ·exact hall y hy
    ·simp at hy; subst hy; exact hyes
  ·intro q
   refine none' ?_ q
   rw [sp,if_neg]
   rintro ⟨h,_⟩
   rw [hL] at h; omega
  ·have hall' : (splitB 47 r).all nameOk = true := by
    rw [hL,List.all_eq_true]
    intro x hx
    exact hall x (by rw [List.take_of_length_le (by omega)]; exact hx)
   have e : splitP (47 :: r) = some L := by rw [sp,if_pos ⟨by rw [hL]; omega,hall'⟩,hL]
   refine hP.trans (.of fun R h H => ⟨a,c',?_,?_⟩)
   ·rw [e]; rfl
   ·rw [e]; exact H
end Go.Proofs.YtdieogcemmnaaaaGreatDoor

namespace Go.Proofs.YtdieogcemmnaaaaGreatDoor
set_option linter.unusedSimpArgs false
set_option linter.unusedVariables false
open Go.Proofs.YtdieogcemmnaaaaGreatDoor RX
set_option maxRecDepth 100000
theorem joinN_nil {l : List Nm} (h : joinN l = []) : l = [] := by
 cases l with
 | nil => rfl
 | cons x r => simp [joinN] at h
theorem join03_ok (a : Option Addr) (n c : Nat) (l : List Nm) (S : HP) (hr : RdL S a n (l.map sE)) (hl : l.length = n) (h16 : ∀ x ∈ l,nameOk x = true) (h8 : l.length ≤ 8) :
  Tri Tryz.prog 198 #[.slice a n c] S (fun v => HP.and (v = sE (joinP l)) S) := by
 refine Tri.fact (φ := n ≠ 0 → a.isSome = true) (fun R h H => hr.isSome H) fun ha => ?_
 refine tri_of_tree (ρ := [.a a,.n n,.n c,.p S]) mixed Tryz.func198 tree_join03 ?_
 unfold t_join03
 simp only [T.den,E.prop,E.den,RX.look,F1.app,F2.app,Uni.int_i,Uni.nat_n,Uni.bool_c,Uni.str_s,Uni.adr_a,Uni.val_v,Uni.hp_p,hden,cden,V.den,W.den,A.den,BR.den,SA.den,FV.den,capV,exs,exP,allP,Cur.app,List.map_cons,List.map_nil,List.cons_append,List.nil_append,List.drop_succ_cons,List.drop_zero,List.length_cons,List.length_nil,Nat.zero_add,Nat.reduceAdd,Int.neg_neg,Bool.not_not,List.append_nil,Nat.add_zero,List.getElem?_cons_zero,List.getElem?_cons_succ,Decidable.not_not,semW_eq,semW_load,ne_eq,Nat.reduceEqDiff,not_false_eq_true]
 refine ⟨fun s i => ∃ k : Nat,i = k ∧ k ≤ n ∧ s = joinN (l.take k),fun _ i => n - i.toNat,⟨0,rfl,Nat.zero_le _,by simp [joinN]⟩,?_⟩
 rintro _ _ ⟨k,rfl,hk,rfl⟩
 refine ⟨fun hlt => ⟨by omega,fun _ => ⟨ha (by omega),fun _ => ?_⟩⟩,fun hge => ?_⟩
 ·obtain ⟨x,hx⟩ := getN (l := l) (k := k) (by omega)
  have hxl := nameOk_len (h16 x (List.mem_of_getElem? hx))
  have hjl := joinN_len (l := l.take k) fun y hy => h16 y (List.mem_of_mem_take hy)
  rw [List.length_take] at hjl
  refine ⟨x,loadStr hr.rd hx,by simp; omega,fun _ => ⟨by simp; omega,fun _ => ⟨inI64' _ (by omega) (by omega),fun _ => ⟨⟨k + 1,by omega,by omega,?_⟩,by dsimp only; omega⟩⟩⟩⟩
  rw [List.take_add_one,hx,Option.toList_some,joinN_app]
  simp
 ·have hkn : l.take k = l := List.take_of_length_le (by omega)
  rw [hkn]
  refine ⟨fun e => .of fun R h H => ⟨?_,H⟩,fun e => .of fun R h H => ⟨?_,H⟩⟩
  ·rw [joinN_nil e]; rfl
  ·unfold joinP
   rw [if_neg fun h => e (by rw [h]; rfl)]
   rfl
set_option maxHeartbeats 1000000 in
theorem inside03_ok (s o : Nm) (hs : s.length ≤ 100000) (ho : o.length ≤ 100000) : Tri Tryz.prog 144 #[sE s,sE o] HP.tt (fun v => HP.pure (v = .bool (insideP s o))) := by
 refine tri_of_tree (ρ := [.s s,.s o]) mixed Tryz.func144 tree_inside03 ?_
 unfold t_inside03
 simp only [T.den,E.prop,E.den,RX.look,F1.app,F2.app,Uni.int_i,Uni.nat_n,Uni.bool_c,Uni.str_s,Uni.adr_a,Uni.val_v,Uni.hp_p,hden,cden,V.den,W.den,A.den,BR.den,SA.den,FV.den,capV,exs,exP,allP,Cur.app,List.map_cons,List.map_nil,List.cons_append,List.nil_append,List.drop_succ_cons,List.drop_zero,List.length_cons,List.length_nil,Nat.zero_add,Nat.reduceAdd,Int.neg_neg,Bool.not_not,List.append_nil,Nat.add_zero,List.getElem?_cons_zero,List.getElem?_cons_succ,Decidable.not_not,semW_eq,semW_load,ne_eq,Nat.reduceEqDiff,not_false_eq_true]
 refine (split03_ok s hs).weak (fun _ _ h => h) ?_
 rintro v R h ⟨a1,c1,rfl,H1⟩
 have r1 : ((splitP s).getD []).length ≠ 0 → a1.isSome = true := fun h => OwC.some H1 (by omega)
 refine ⟨a1,_,c1,_,_,rfl,?_,H1⟩
 clear H1
 refine (split03_ok o ho).weak (fun _ _ h => h) ?_
 rintro v R h ⟨a2,c2,rfl,H2⟩
 have r2 : ((splitP o).getD []).length ≠ 0 → a2.isSome = true := fun h => OwC.some H2 (by omega)
 refine ⟨a2,_,c2,_,_,rfl,?_,H2⟩
 clear H2
 cases e1 : splitP s with
 | none => exact ⟨fun _ => .of fun _ _ _ => (by show Value.bool false = .bool (insideP s o); unfold insideP; rw [e1]),fun h => by simp at h⟩
 | some l =>
  refine ⟨fun h => absurd rfl h,fun _ => ?_⟩
  cases e2 : splitP o with
  | none => exact ⟨fun _ => .of fun _ _ _ => (by show Value.bool false = .bool (insideP s o); unfold insideP; rw [e1,e2]),fun h => by simp at h⟩
  | some q =>
   rw [e1] at r1; rw [e2] at r2
   simp only [Option.getD_some] at r1 r2 ⊢
   have hin : insideP s o = (decide (q.length < l.length) && decide (q = l.take q.length)) := by unfold insideP; rw [e1,e2]
   have hl8 := (splitP_len e1).1
   have hq8 := (splitP_len e2).1
   refine ⟨fun h => absurd rfl h,fun _ => ⟨fun h => .of fun _ _ _ => ?_,fun h => ?_⟩⟩
   ·show Value.bool false = .bool (insideP s o)
    rw [hin,decide_eq_false (by omega)]; rfl
   refine ⟨fun _ i => ∃ k : Nat,i = k ∧ k ≤ q.length ∧ q.take k = l.take k,fun _ i => q.length - i.toNat,⟨0,rfl,Nat.zero_le _,by simp⟩,?_⟩
   rintro _ _ ⟨k,rfl,hk,hpre⟩
   refine ⟨fun hlt => ⟨by omega,fun _ => ⟨by omega,fun _ => ⟨r1 (by omega),fun _ => ?_⟩⟩⟩,fun hge => .of fun _ _ _ => ?_⟩
   ·obtain ⟨x,hx⟩ := getN (l := l) (k := k) (by omega)
    obtain ⟨y,hy⟩ := getN (l := q) (k := k) (by omega)
    refine ⟨x,loadStr (RdL.ow _ _ _ _ _ _).rd hx,r2 (by omega),fun _ => ⟨y,loadStr (RdL.ow _ _ _ _ _ _).rd hy,fun hne => .of fun _ _ _ => ?_,fun he => ⟨inI64' _ (by omega) (by omega),fun _ => ⟨⟨k + 1,by omega,by omega,take_eq hy hx hpre he.symm⟩,by dsimp only; omega⟩⟩⟩⟩
    show Value.bool false = .bool (insideP s o)
    rw [hin,decide_eq_false (p := q = l.take q.length),Bool.and_false]
    intro e
    rw [e,List.getElem?_take,if_pos (by omega),hx] at hy
    exact hne (Option.some.inj hy)
   ·show Value.bool true = .bool (insideP s o)
    rw [List.take_of_length_le (by omega)] at hpre
    have hkq : k = q.length := by omega
    rw [hkq] at hpre
    rw [hin,decide_eq_true (by omega),decide_eq_true hpre]; rfl
def entI : Option Nat → Int
 | some k => k
 | none => -1
theorem lk_drop' {l : List (Nm × Nat)} {nm : Nm} {k : Nat} {e : Nm × Nat} (he : l[k]? = some e) : lk (l.drop k) nm = if nm = e.1 then some e.2 else lk (l.drop (k + 1)) nm := by
 have hlt := (List.getElem?_eq_some_iff.1 he).1
 rw [List.drop_eq_getElem_cons hlt]
 rw [List.getElem?_eq_getElem hlt] at he
 rw [Option.some.inj he]
 rfl
theorem rEntry_ok {b : Nat} {g : Nat → NodeE} {i : Nat} (hi : i < 64) (nm : Nm) (hl : (g i).nd.ents.length ≤ 100000) : Tri Tryz.prog 196 #[.pointer (some ⟨b,0,none⟩),.int .i64 i,sE nm] (RT b g)
  (fun v => HP.and (v = .int .i64 (entI (lk (g i).nd.ents nm))) (RT b g)) := by
 refine Tri.fact (φ := (g i).nd.ents.length ≠ 0 → (g i).ea.isSome = true) (fun R h H => RT.ea H i hi) fun hea => ?_
 refine tri_of_tree (ρ := [.n b,.p (RT b g),.i i,.s nm]) mixed Tryz.func196 tree_rEntry ?_
 unfold t_rEntry
 simp only [T.den,E.prop,E.den,RX.look,F1.app,F2.app,Uni.int_i,Uni.nat_n,Uni.bool_c,Uni.str_s,Uni.adr_a,Uni.val_v,Uni.hp_p,hden,cden,V.den,W.den,A.den,BR.den,SA.den,FV.den,capV,exs,exP,allP,Cur.app,List.map_cons,List.map_nil,List.cons_append,List.nil_append,List.drop_succ_cons,List.drop_zero,List.length_cons,List.length_nil,Nat.zero_add,Nat.reduceAdd,Int.neg_neg,Bool.not_not,List.append_nil,Nat.add_zero,List.getElem?_cons_zero,List.getElem?_cons_succ,Decidable.not_not,semW_eq,semW_load,ne_eq,Nat.reduceEqDiff,not_false_eq_true,semW_ix,semW_fld]
 refine ⟨.pointer (some ⟨b,i * 5,none⟩),ixN rfl hi,.pointer (some ⟨b,i * 5 + 4,none⟩),fldN (by omega),(g i).ea,(g i).nd.ents.length,(g i).ec,rtEnts hi,?_⟩
 refine ⟨fun _ j => ∃ k : Nat,j = k ∧ k ≤ (g i).nd.ents.length ∧ lk ((g i).nd.ents.drop k) nm = lk (g i).nd.ents nm,fun _ j => (g i).nd.ents.length - j.toNat,⟨0,rfl,Nat.zero_le _,rfl⟩,?_⟩
 rintro _ _ ⟨k,rfl,hk,hlk⟩
 refine ⟨fun hlt => ⟨by omega,fun _ => ⟨hea (by omega),fun _ => ?_⟩⟩,fun hge => .of fun R h H => ⟨?_,H⟩⟩
 ·obtain ⟨e,he⟩ := getN (l := (g i).nd.ents) (k := k) (by omega)
  rw [lk_drop' he] at hlk
  refine ⟨e.1,rtEnt1 hi he undStr (by kernel_rfl) (by kernel_rfl) rfl,fun h => ⟨e.2,rtEnt1 hi he undInt (by kernel_rfl) (by kernel_rfl) rfl,.of fun R hh H => ⟨?_,H⟩⟩,fun h => ⟨inI64' _ (by omega) (by omega),fun _ => ⟨⟨k + 1,by omega,by omega,?_⟩,by dsimp only; omega⟩⟩⟩
  ·rw [if_pos h.symm] at hlk
   rw [← hlk]; rfl
  ·rw [if_neg fun h' => h h'.symm] at hlk
   exact hlk
 ·rw [List.drop_eq_nil_of_le (by omega)] at hlk
  rw [← hlk]; rfl
theorem TWf.tgt' {B : Nat} {T : List Nd} (wf : TWf B T) {at' : Nat} {n : Nd} (hn : nodeAt T at' = some n) {nm : Nm} {k : Nat} (h : lk n.ents nm = some k) : ∃ m,nodeAt T k = some m := Option.isSome_iff_exists.1 (wf.tgt n (nodeAt_mem hn).1 _ (lk_mem h))
theorem TWf.lt64 {B : Nat} {T : List Nd} (wf : TWf B T) {k : Nat} {n : Nd} (hn : nodeAt T k = some n) : k < 64 := by
 have := (wf.at' hn).1.num
 rw [(wf.at' hn).2.1] at this
 exact this
theorem find_node {B : Nat} {T : List Nd} (wf : TWf B T) : ∀ {l : List Nm} {at' : Nat},(nodeAt T at').isSome = true → (walkS T at' l).2 = 0 → (nodeAt T (walkS T at' l).1).isSome = true
 | [],at',h,_ => h
 | nm :: r,at',h,h0 => by
  obtain ⟨n,hn⟩ := Option.isSome_iff_exists.1 h
  rw [walk_cons,hn] at h0 ⊢
  simp only at h0 ⊢
  split at h0
  ·cases h0
  ·rename_i hk
   rw [if_neg hk]
   cases hl : lk n.ents nm with
   | none => rw [hl] at h0; cases h0
   | some k =>
    rw [hl] at h0
    obtain ⟨m,hm⟩ := wf.tgt' hn hl
    exact find_node wf (by rw [hm]; rfl) h0
theorem find_at {B : Nat} {T : List Nd} (wf : TWf B T) {s : Nm} (h : (findS T s).2 = 0) : ∃ n,nodeAt T (findS T s).1 = some n ∧ (findS T s).1 < 64 := by
 obtain ⟨r,h1,_⟩ := wf.root
 unfold findS at h ⊢
 cases hs : splitP s with
 | none => rw [hs] at h; cases h
 | some l =>
  rw [hs] at h
  simp only at h ⊢
  obtain ⟨n,hn⟩ := Option.isSome_iff_exists.1 (find_node wf (l := l) (at' := 0) (by rw [h1]; rfl) h)
  exact ⟨n,hn,wf.lt64 hn⟩
set_option maxHeartbeats 1000000 in
theorem rFind_ok {b B : Nat} {g : Nat → NodeE} {NS : List Nd} (hB : B ≤ 100000) (wf : TWf B NS) (hg : Rp g NS) (s : Nm) (hs : s.length ≤ 100000) : Tri Tryz.prog 142 #[.pointer (some ⟨b,0,none⟩),sE s] (RT b g)
  (fun v => HP.and (v = .tuple #[.int .i64 (findS NS s).1,.int .i64 (findS NS s).2]) (RT b g)) := by
 refine tri_of_tree (ρ := [.n b,.p (RT b g),.s s]) mixed Tryz.func142 tree_rFind ?_
 unfold t_rFind
 simp only [T.den,E.prop,E.den,RX.look,F1.app,F2.app,Uni.int_i,Uni.nat_n,Uni.bool_c,Uni.str_s,Uni.adr_a,Uni.val_v,Uni.hp_p,hden,cden,V.den,W.den,A.den,BR.den,SA.den,FV.den,capV,exs,exP,allP,Cur.app,List.map_cons,List.map_nil,List.cons_append,List.nil_append,List.drop_succ_cons,List.drop_zero,List.length_cons,List.length_nil,Nat.zero_add,Nat.reduceAdd,Int.neg_neg,Bool.not_not,List.append_nil,Nat.add_zero,List.getElem?_cons_zero,List.getElem?_cons_succ,Decidable.not_not,semW_eq,semW_load,ne_eq,Nat.reduceEqDiff,not_false_eq_true,semW_ix,semW_fld]
 refine (split03_ok s hs).weak (fun _ _ h => trivial) ?_
 rintro v R h ⟨a1,c1,rfl,H1⟩
 have r1 : ((splitP s).getD []).length ≠ 0 → a1.isSome = true := fun h => OwC.some H1 (by omega)
 refine ⟨a1,_,c1,_,_,rfl,?_,H1⟩
 clear H1
 cases e1 : splitP s with
 | none =>
  refine ⟨fun _ => .of fun _ _ H => ⟨?_,H⟩,fun h => by simp at h⟩
  unfold findS; rw [e1]; rfl
 | some L =>
  have hf : findS NS s = walkS NS 0 L := findS_split e1
  rw [e1] at r1
  simp only [Option.getD_some] at r1 ⊢
  have hL8 := (splitP_len e1).1
  obtain ⟨r0,hr0,_⟩ := wf.root
  refine ⟨fun h => by simp at h,fun _ => ?_⟩
  refine ⟨fun _ _ at' j => ∃ (k d : Nat),j = k ∧ at' = d ∧ k ≤ L.length ∧ (nodeAt NS d).isSome = true ∧ walkS NS d (L.drop k) = walkS NS 0 L,fun _ _ _ j => L.length - j.toNat,⟨0,0,rfl,rfl,Nat.zero_le _,by rw [hr0]; rfl,rfl⟩,?_⟩
  rintro _ _ _ _ ⟨k,d,rfl,rfl,hk,hd,hw⟩
  obtain ⟨n,hn⟩ := Option.isSome_iff_exists.1 hd
  have hd64 := wf.lt64 hn
  have hgn : (g d).nd = n := by rw [hg d hd64,ndF_some hn]
  refine ⟨fun hlt => ?_,fun hge => .of fun R h H => ⟨?_,H⟩⟩
  ·obtain ⟨x,hx⟩ := getN (l := L) (k := k) (by omega)
   have hdr : L.drop k = x :: L.drop (k + 1) := by
    have hlt' : k < L.length := by omega
    rw [List.drop_eq_getElem_cons hlt']
    rw [List.getElem?_eq_getElem hlt'] at hx
    rw [Option.some.inj hx]
   rw [hdr,walk_cons,hn] at hw
   simp only at hw
   refine ⟨.pointer (some ⟨b,d * 5,none⟩),ixN rfl hd64,.pointer (some ⟨b,d * 5 + 1,none⟩),fldN (by omega),(g d).nd.kind,rtKind hd64,fun hne => .of fun R h H => ⟨?_,H⟩,fun he => ⟨by omega,fun _ => ⟨r1 (by omega),fun _ => ⟨x,loadStr (RdL.ow _ _ _ _ _ _).rd hx,?_⟩⟩⟩⟩
   ·rw [hgn] at hne
    rw [if_pos hne] at hw
    rw [hf,← hw]; rfl
   ·rw [hgn] at he
    rw [if_neg (by simpa using he)] at hw
    refine (rEntry_ok hd64 x (by rw [hgn]; have := (wf.at' hn).1.efew; omega)).weak (fun _ _ h => h) ?_
    rintro v R h ⟨rfl,H⟩
    rw [hgn]
    cases hl : lk n.ents x with
    | none =>
     rw [hl] at hw
     refine ⟨_,rfl,⟨fun _ => .of fun R h H => ⟨?_,H⟩,fun h => absurd (show entI none < 0 by decide) h⟩,H⟩
     rw [hf,← hw]; rfl
    | some j =>
     rw [hl] at hw
     obtain ⟨m,hm⟩ := wf.tgt' hn hl
     refine ⟨_,rfl,⟨fun h => absurd h (show ¬ ((j : Int) < 0) by omega),fun _ => ⟨inI64' _ (by omega) (by omega),fun _ => ⟨⟨k + 1,j,by omega,rfl,by omega,by rw [hm]; rfl,hw⟩,by dsimp only; omega⟩⟩⟩,H⟩
  ·rw [List.drop_eq_nil_of_le (by omega)] at hw
   rw [hf,← hw]; rfl
theorem semW_slhi {i j : Nat} {t ty : TypeId} {u v : Value} (h : i ≠ j) : semW (.slice t (.tmp i) none (some (.tmp j)) none) ty [(i,u),(j,v)] = sliceS t u none (some v) none := by
 have hb : (i == j) = false := by simpa using h
 simp [semW,execOp,arW,sliceS,List.find?,hb]
set_option maxHeartbeats 1000000 in
theorem rUp_ok (s : Nm) (hs : s.length ≤ 100000) : Tri Tryz.prog 141 #[sE s] HP.tt
  (fun v => HP.pure (v = .tuple #[sE ((parentS s).getD ([],[])).1,sE ((parentS s).getD ([],[])).2,.int .i64 (if (parentS s).isSome then 0 else 20)])) := by
 refine tri_of_tree (ρ := [.s s]) mixed Tryz.func141 tree_rUp ?_
 unfold t_rUp
 simp only [T.den,E.prop,E.den,RX.look,F1.app,F2.app,Uni.int_i,Uni.nat_n,Uni.bool_c,Uni.str_s,Uni.adr_a,Uni.val_v,Uni.hp_p,hden,cden,V.den,W.den,A.den,BR.den,SA.den,FV.den,capV,exs,exP,allP,Cur.app,List.map_cons,List.map_nil,List.cons_append,List.nil_append,List.drop_succ_cons,List.drop_zero,List.length_cons,List.length_nil,Nat.zero_add,Nat.reduceAdd,Int.neg_neg,Bool.not_not,List.append_nil,Nat.add_zero,List.getElem?_cons_zero,List.getElem?_cons_succ,Decidable.not_not,semW_eq,semW_load,ne_eq,Nat.reduceEqDiff,not_false_eq_true,semW_slhi]
 refine (split03_ok s hs).weak (fun _ _ h => h) ?_
 rintro v R h ⟨a1,c1,rfl,H1⟩
 have r1 : ((splitP s).getD []).length ≠ 0 → a1.isSome = true := fun h => OwC.some H1 (by omega)
 have hle := OwC.le H1
 refine ⟨a1,_,c1,_,_,rfl,?_,H1⟩
 clear H1
 have er : parentS s = none → HP.ent HP.tt (HP.pure (Value.tuple #[sE [],sE [],.int .i64 20] = .tuple #[sE ((parentS s).getD ([],[])).1,sE ((parentS s).getD ([],[])).2,.int .i64 (if (parentS s).isSome then 0 else 20)])) := fun e => .of fun _ _ _ => (by show _ = _; rw [e]; rfl)
 cases e1 : splitP s with
 | none => exact ⟨fun _ => er (by unfold parentS; rw [e1]),fun h => by simp at h⟩
 | some l =>
  rw [e1] at r1 hle
  simp only [Option.getD_some] at r1 hle ⊢
  obtain ⟨hl8,hok⟩ := splitP_len e1
  refine ⟨fun h => by simp at h,fun _ => ⟨fun h0 => er ?_,fun h0 => ?_⟩⟩
  ·have : l = [] := List.eq_nil_of_length_eq_zero (by omega)
   subst this
   unfold parentS; rw [e1]
  ·rcases List.eq_nil_or_concat l with rfl | ⟨l',nm,rfl⟩
   ·simp at h0
   rw [List.concat_eq_append] at *
   obtain ⟨i,hi,_⟩ := info_parts infoStr
   have hll : (l' ++ [nm]).length = l'.length + 1 := by simp
   have hlast : (l' ++ [nm])[l'.length]? = some nm := by simp
   have en : (((l' ++ [nm]).length : Int) - 1) = (l'.length : Int) := by rw [hll]; omega
   have hp : parentS s = some (joinP l',nm) := parentS_app e1
   rw [en]
   have rd : RdL (OwS a1 (l' ++ [nm]).length c1 (l' ++ [nm])) a1 l'.length (l'.map sE) := by
    refine ⟨fun w R h F st H j u hj => (RdL.ow _ _ _ _ _ _).rd w R h F st H j u ?_,fun R h H e => ?_⟩
    ·have hjl := (List.getElem?_eq_some_iff.1 hj).1
     rw [List.length_map] at hjl
     rw [List.map_append,List.getElem?_append_left (by simpa using hjl)]
     exact hj
    ·have := (RdL.ow 9 1 a1 (l' ++ [nm]).length c1 ((l' ++ [nm]).map sE)).none R h H e
     omega
   refine ⟨inI64' _ (by omega) (by omega),fun _ => ⟨a1,l'.length,c1,sliceTo undSs hi _ _ _ _ _ (by omega) hle,by omega,fun _ => ⟨by omega,fun _ => ⟨r1 (by omega),fun _ => ⟨nm,loadStr (RdL.ow _ _ _ _ _ _).rd (k := (l'.length : Int).toNat) hlast,?_⟩⟩⟩⟩⟩
   refine (join03_ok a1 l'.length c1 l' _ rd rfl (fun x hx => hok x (by simp [hx])) (by omega)).weak (fun _ _ h => h) ?_
   rintro v R h ⟨rfl,H⟩
   refine ⟨joinP l',rfl,.of fun _ _ _ => ?_,H⟩
   show _ = _
   rw [hp]; rfl
theorem joinP_len {l : List Nm} (h : ∀ x ∈ l,nameOk x = true) (h8 : l.length ≤ 8) : (joinP l).length ≤ 1000 := by
 unfold joinP
 split
 ·simp
 ·have := joinN_len h
  omega
theorem parent_len {s ab nm : Nm} (h : parentS s = some (ab,nm)) : ab.length ≤ 1000 ∧ nm.length ≤ 16 := by
 obtain ⟨l,h1,h2⟩ := parentS_some h
 obtain ⟨h8,hok⟩ := splitP_len h1
 have e : parentS s = some (joinP l,nm) := parentS_app h1
 rw [h] at e
 injection e with e
 injection e with e _
 rw [e]
 rw [List.length_append] at h8
 exact ⟨joinP_len (fun x hx => hok x (by simp [hx])) (by simp at h8; omega),(nameOk_len (hok nm (by simp))).2⟩
set_option maxHeartbeats 1000000 in
theorem rPlace_ok {b B : Nat} {g : Nat → NodeE} {NS : List Nd} (hB : B ≤ 100000) (wf : TWf B NS) (hg : Rp g NS) (s : Nm) (hs : s.length ≤ 100000) : Tri Tryz.prog 139 #[.pointer (some ⟨b,0,none⟩),sE s] (RT b g)
  (fun v => HP.and (v = .tuple #[.int .i64 (placeS NS s).1,sE (placeS NS s).2.1,.int .i64 (placeS NS s).2.2]) (RT b g)) := by
 refine tri_of_tree (ρ := [.n b,.p (RT b g),.s s]) mixed Tryz.func139 tree_rPlace ?_
 unfold t_rPlace
 simp only [T.den,E.prop,E.den,RX.look,F1.app,F2.app,Uni.int_i,Uni.nat_n,Uni.bool_c,Uni.str_s,Uni.adr_a,Uni.val_v,Uni.hp_p,hden,cden,V.den,W.den,A.den,BR.den,SA.den,FV.den,capV,exs,exP,allP,Cur.app,List.map_cons,List.map_nil,List.cons_append,List.nil_append,List.drop_succ_cons,List.drop_zero,List.length_cons,List.length_nil,Nat.zero_add,Nat.reduceAdd,Int.neg_neg,Bool.not_not,List.append_nil,Nat.add_zero,List.getElem?_cons_zero,List.getElem?_cons_succ,Decidable.not_not,semW_eq,semW_load,ne_eq,Nat.reduceEqDiff,not_false_eq_true,semW_ix,semW_fld]
 refine (rUp_ok s hs).weak (fun _ _ _ => trivial) ?_
 rintro v R h rfl
 refine ⟨_,_,_,rfl,?_,trivial⟩
 cases e1 : parentS s with
 | none =>
  refine ⟨fun _ => .of fun R h H => ⟨?_,H⟩,fun h => by simp at h⟩
  unfold placeS; rw [e1]; rfl
 | some q =>
  obtain ⟨ab,nm⟩ := q
  obtain ⟨hab,_⟩ := parent_len e1
  simp only [Option.getD_some,Option.isSome_some,if_true]
  refine ⟨fun h => by simp at h,fun _ => ?_⟩
  have hp : placeS NS s = if (findS NS ab).2 ≠ 0 then (0,[],(findS NS ab).2) else match nodeAt NS (findS NS ab).1 with
    | none => (0,[],1)
    | some n => if n.kind ≠ 1 then (0,[],23) else if (lk n.ents nm).isSome = true then (0,[],22) else ((findS NS ab).1,nm,0) := by
   unfold placeS; rw [e1]; rfl
  refine (rFind_ok hB wf hg ab (by omega)).weak (fun _ _ h => h) ?_
  rintro v R h ⟨rfl,H⟩
  refine ⟨_,_,rfl,⟨fun h => .of fun R h' H => ⟨?_,H⟩,fun h => ?_⟩,H⟩
  ·rw [hp,if_pos h]; rfl
  clear H
  have h0 : (findS NS ab).2 = 0 := by simpa using h
  obtain ⟨n,hn,h64⟩ := find_at wf h0
  have hgn : (g (findS NS ab).1).nd = n := by rw [hg _ h64,ndF_some hn]
  rw [if_neg (by simpa using h0),hn] at hp
  simp only at hp
  refine ⟨.pointer (some ⟨b,(findS NS ab).1 * 5,none⟩),ixN rfl h64,.pointer (some ⟨b,(findS NS ab).1 * 5 + 1,none⟩),fldN (by omega),_,rtKind h64,fun hk => .of fun R h' H => ⟨?_,H⟩,fun hk => ?_⟩
  ·rw [hgn] at hk
   rw [hp,if_pos hk]; rfl
  rw [hgn] at hk
  rw [if_neg (by simpa using hk)] at hp
  refine (rEntry_ok h64 nm (by rw [hgn]; have := (wf.at' hn).1.efew; omega)).weak (fun _ _ h => h) ?_
  rintro v R h' ⟨rfl,H⟩
  rw [hgn]
  cases hl : lk n.ents nm with
  | none =>
   rw [hl] at hp
   refine ⟨_,rfl,⟨fun h => absurd h (show ¬ (0 : Int) ≤ entI none by decide),fun _ => .of fun R h' H => ⟨?_,H⟩⟩,H⟩
   rw [hp]; rfl
  | some j =>
   rw [hl] at hp
   refine ⟨_,rfl,⟨fun _ => .of fun R h' H => ⟨?_,H⟩,fun h => absurd (show (0 : Int) ≤ (j : Int) by omega) h⟩,H⟩
   rw [hp]; rfl
end Go.Proofs.YtdieogcemmnaaaaGreatDoor

namespace Go.Proofs.YtdieogcemmnaaaaGreatDoor
set_option linter.unusedSimpArgs false
set_option linter.unusedVariables false
open Go.Proofs.YtdieogcemmnaaaaGreatDoor RX
set_option maxRecDepth 100000
theorem append_any {t e : TypeId} {i : TypeInfo} {z : Value} (ht : Tryz.prog.underlying t = some (.slice e)) (hi : Tryz.prog.info? e = some i) (hz : i.zero = some z) (hzs : z.cells.size = i.size) (hsz : 0 < i.size)
  (a : Option Addr) (n c : Nat) (xs : List Value) (S : HP) (b : Option Addr) (m c2 : Nat) (news : List Value) (hr : RdL S b m news) (hl : news.length = m * i.size) (hb0 : m ≠ 0 → b.isSome = true) (h1 : ∀ u ∈ news,u.oneCell' = true)
  (h63 : n + m ≤ maxLen) (hb : (n + m) * i.bytes ≤ 140737488355328) :
  OTri Tryz.prog (appS t t (.slice a n c) (.slice b m c2)) (HP.sep (OwC e i.size a n c xs) S)
   (fun v => HP.ex fun a' => HP.ex fun c' => HP.and (v = .slice a' (n + m) c') (HP.sep (OwC e i.size a' (n + m) c' (xs ++ news)) S)) := by
 cases b with
 | some ad => exact append_ok t t e i z ht hi hz hzs hsz a n c xs S ad m c2 news hr.rd hl h1 h63 hb
 | none =>
  have hm0 : m = 0 := Classical.byContradiction fun h => by have := hb0 h; cases this
  subst hm0
  obtain rfl : news = [] := List.eq_nil_of_length_eq_zero (by rw [hl]; omega)
  rintro w R h F s ⟨x1,x2,d,l1,l2,H,hS⟩
  have H0 := H
  obtain ⟨hxl,hx⟩ := H
  have hnc : n ≤ c := by
   rcases hx with ⟨_,rfl,rfl⟩ | ⟨g,cur,_,_,hnc,_⟩
   ·exact Nat.le_refl _
   ·exact hnc
  refine ⟨.value (.slice a n c),_,w,?_,rfl,Same.refl w,R,h,PH.le.refl _,s,a,c,rfl,x1,x2,d,l1,l2,by rw [List.append_nil]; exact H0,hS⟩
  cases a <;> simp [appS,Builtin.append_,run_underlying ht,sizeOf,typeInfo,hi,Builtin.lenOf,Builtin.firstCells,hnc,storeCells]
abbrev OwEr (a : Option Addr) (n c : Nat) (l : List (Nm × Nat)) : HP := OwC 140 2 a n c (l.flatMap entV)
theorem entV_one : ∀ (l : List (Nm × Nat)),∀ u ∈ l.flatMap entV,u.oneCell' = true := fun l u hu => by
 obtain ⟨e,_,he⟩ := List.mem_flatMap.1 hu
 simp only [entV,List.mem_cons,List.not_mem_nil,or_false] at he
 rcases he with rfl | rfl <;> rfl
theorem entV_len (l : List (Nm × Nat)) : (l.flatMap entV).length = l.length * 2 := flat_lenL entV 2 (fun _ => rfl) l
theorem appEr {a : Option Addr} {n c : Nat} {l : List (Nm × Nat)} {S : HP} {b : Option Addr} {m c2 : Nat} {q : List (Nm × Nat)} (hr : RdL S b m (q.flatMap entV)) (hm : q.length = m) (hb0 : m ≠ 0 → b.isSome = true) (hb : n + m ≤ 1000000000) {P : HP} (hP : HP.ent P (OwEr a n c l)) {C : Value → HP}
  (post : ∀ a' c' R h,(HP.sep (OwEr a' (n + m) c' (l ++ q)) S).p R h → (C (.slice a' (n + m) c')).p R h) :
  OTri Tryz.prog (appS 41 41 (.slice a n c) (.slice b m c2)) (HP.sep P S) C := by
 obtain ⟨i,z,hi,h1,h2,h3,h4⟩ := info_pz infoEnt
 have := append_any undEs hi h1 (by rw [h2,h3]) (by omega) a n c (l.flatMap entV) S b m c2 (q.flatMap entV) hr (by rw [entV_len,hm,h3]) hb0 (entV_one q) (by unfold maxLen; omega) (by rw [h4]; omega)
 rw [h3] at this
 refine OTri.pre3 (this.weak (fun _ _ h => h) ?_) (HP.ent.sep hP _)
 rintro v R h ⟨a',c',rfl,H⟩
 refine post a' c' R h ?_
 show (HP.sep (OwC 140 2 a' (n + m) c' ((l ++ q).flatMap entV)) S).p R h
 rw [List.flatMap_append]
 exact H
theorem oneE (q : Nat) (x : Nm × Nat) : RdL (HP.one q (.cells #[sE x.1,.int .i64 x.2] 140 (0,0))) (some ⟨q,0,none⟩) 1 (([x] : List (Nm × Nat)).flatMap entV) :=
 ⟨one_rd q #[sE x.1,.int .i64 x.2] 140,fun _ _ _ e => by cases e⟩
theorem shareEr (a : Option Addr) (n c : Nat) (l : List (Nm × Nat)) : HP.ent (OwEr a n c l) (Ls kEnt a n l) := fun R h d H => by
 have hn := OwC.len H
 rw [entV_len] at hn
 obtain ⟨R1,h1,q1,q2,q3,q4,H1⟩ := OwC.share _ _ _ _ _ _ R h d H
 exact ⟨R1,h1,q1,q2,q3,q4,by omega,H1,fun _ _ => trivial⟩
theorem emptyE (q : Nat) {R h : PH} (H : (HP.one q (.cells #[] 140 (0,0))).p R h) : (OwEr (some ⟨q,0,none⟩) 0 0 []).p R h := ⟨by simp,.inr ⟨q,#[],rfl,H,Nat.le_refl _,by unfold maxLen; omega,by simp,by simp⟩⟩
theorem infoES : ∃ i,Tryz.prog.info? 41 = some i ∧ i.size = 1 := by
 obtain ⟨i,hi⟩ := Option.isSome_iff_exists.1 (show (Tryz.prog.info? 41).isSome = true by kernel_rfl)
 have : (Tryz.prog.info? 41).map (·.size) = some 1 := by kernel_rfl
 rw [hi] at this
 exact ⟨i,hi,Option.some.inj this⟩
theorem infoBS : ∃ i,Tryz.prog.info? 28 = some i ∧ i.size = 1 := by
 obtain ⟨i,hi⟩ := Option.isSome_iff_exists.1 (show (Tryz.prog.info? 28).isSome = true by kernel_rfl)
 have : (Tryz.prog.info? 28).map (·.size) = some 1 := by kernel_rfl
 rw [hi] at this
 exact ⟨i,hi,Option.some.inj this⟩
theorem infoND : ∃ i,Tryz.prog.info? 43 = some i ∧ i.size = 5 := by
 obtain ⟨i,z,hi,h1,h2,h3,h4⟩ := info_pz infoNd
 exact ⟨i,hi,h3⟩
def withE (x : NodeE) (l : List (Nm × Nat)) (a : Option Addr) (c : Nat) : NodeE := { x with nd := { x.nd with ents := l },ea := a,ec := c }
theorem storeE {b i : Nat} {g : Nat → NodeE} (hi : i < 64) {a : Option Addr} {n c : Nat} {l : List (Nm × Nat)} {C : Value → HP} {P : HP} (hP : HP.ent P (OwEr a n c l))
  (post : ∀ R h,(RT b (upd g i (withE (g i) l a c))).p R h → (C (.tuple #[])).p R h) :
  OTri Tryz.prog (storeS 41 (.pointer (some ⟨b,i * 5 + 4,none⟩)) (.slice a n c)) (HP.sep (RT b g) P) C := by
 obtain ⟨ti,hti,hz⟩ := infoES
 refine OTri.pre3 (A := HP.sep (RT b g) (OwEr a n c l)) ?_ (HP.ent2 (.of fun _ _ h => h) hP)
 refine OTri.fact (φ := n ≤ c ∧ l.length = n) (fun R h H => ⟨OwC.le (HP.sep_right H),by have := OwC.len (HP.sep_right H); rw [entV_len] at this; omega⟩) fun ⟨hnc,hln⟩ => ?_
 subst hln
 refine OTri.pre3 (A := HP.sep (RT b g) (Ls kEnt a l.length l)) ?_ (HP.ent2 (.of fun _ _ h => h) (shareEr _ _ _ _))
 refine (rtStore hti hi (off := 4) (v := .slice a l.length c) (vs := [.slice a l.length c]) rfl hz (by simp) (by simp [Value.oneCell']) (withE (g i) l a c) (by simp) rfl (Q := Ls kEnt a l.length l) fun R h H => ⟨⟨((HP.sep_left H).2 i hi).1.1,HP.sep_right H⟩,hnc⟩).weak (fun _ _ h => h) ?_
 rintro v R h ⟨rfl,H⟩
 exact post R h H
theorem storeInt {b i off : Nat} {g : Nat → NodeE} (hi : i < 64) (ho : off = 1 ∨ off = 2) {v : Int} {C : Value → HP}
  (post : ∀ R h,(RT b (upd g i { g i with nd := if off = 1 then { (g i).nd with kind := v } else { (g i).nd with links := v } })).p R h → (C (.tuple #[])).p R h) :
  OTri Tryz.prog (storeS 3 (.pointer (some ⟨b,i * 5 + off,none⟩)) (.int .i64 v)) (RT b g) C := by
 obtain ⟨ti,hti,hz⟩ := infoInt'
 refine OTri.pre3 (A := HP.sep (RT b g) HP.tt) ?_ (.of fun _ _ h => HP.sep_tt h)
 refine (rtStore hti hi (off := off) (v := .int .i64 v) (vs := [.int .i64 v]) rfl hz (by simp) (by simp [Value.oneCell']) { g i with nd := if off = 1 then { (g i).nd with kind := v } else { (g i).nd with links := v } } (by rcases ho with rfl | rfl <;> simp) (by rcases ho with rfl | rfl <;> rfl) (Q := HP.tt) fun R h H => ?_).weak (fun _ _ h => h) ?_
 ·have := (HP.sep_left H).2 i hi
  rcases ho with rfl | rfl <;> exact this
 ·rintro v R h ⟨rfl,H⟩
  exact post R h H
theorem storeNd {b i : Nat} {g : Nat → NodeE} (hi : i < 64) (m k lks : Int) (mn : Nat) (hm : m = mn) {C : Value → HP}
  (post : ∀ R h,(RT b (upd g i ⟨⟨mn,k,lks,[],[]⟩,none,0,none,0⟩)).p R h → (C (.tuple #[])).p R h) :
  OTri Tryz.prog (storeS 43 (.pointer (some ⟨b,i * 5,none⟩)) (.agg #[.int .i64 m,.int .i64 k,.int .i64 lks,.slice none 0 0,.slice none 0 0])) (RT b g) C := by
 obtain ⟨ti,hti,hz⟩ := infoND
 subst hm
 refine OTri.pre3 (A := HP.sep (RT b g) HP.tt) ?_ (.of fun _ _ h => HP.sep_tt h)
 have := rtStore (b := b) (g := g) hti hi (off := 0) (v := .agg #[.int .i64 (mn : Int),.int .i64 k,.int .i64 lks,.slice none 0 0,.slice none 0 0]) (vs := nodeVs ⟨⟨mn,k,lks,[],[]⟩,none,0,none,0⟩) rfl (by rw [hz]; rfl) (by rw [nodeVs_len]; omega) (fun u hu => kNodeP.one _ u hu) ⟨⟨mn,k,lks,[],[]⟩,none,0,none,0⟩ (by rw [nodeVs_len]; omega) (by simp [nodeVs]) (Q := HP.tt) fun R h H => ⟨⟨RoC.nil _ _ _ _,rfl,RoC.nil _ _ _ _,fun x hx => by cases hx⟩,Nat.le_refl _⟩
 refine this.weak (fun _ _ h => h) ?_
 rintro v R h ⟨rfl,H⟩
 exact post R h H
theorem shareB (a : Option Addr) (n c : Nat) (l : List UInt8) : HP.ent (OwB a n c l) (RoB a n l) := OwC.share _ _ _ _ _ _
def withD (x : NodeE) (l : List UInt8) (a : Option Addr) (c : Nat) : NodeE := { x with nd := { x.nd with data := l },da := a,dc := c }
theorem storeD {b i : Nat} {g : Nat → NodeE} (hi : i < 64) {a : Option Addr} {n c : Nat} {l : List UInt8} (hl : l.length = n) {C : Value → HP} {P : HP} (hP : HP.ent P (OwB a n c l))
  (post : ∀ R h,(RT b (upd g i (withD (g i) l a c))).p R h → (C (.tuple #[])).p R h) :
  OTri Tryz.prog (storeS 28 (.pointer (some ⟨b,i * 5 + 3,none⟩)) (.slice a n c)) (HP.sep (RT b g) P) C := by
 obtain ⟨ti,hti,hz⟩ := infoBS
 subst hl
 refine OTri.pre3 (A := HP.sep (RT b g) (RoB a l.length l)) ?_ (HP.ent2 (.of fun _ _ h => h) (hP.trans (shareB _ _ _ _)))
 refine (rtStore hti hi (off := 3) (v := .slice a l.length c) (vs := [.slice a l.length c]) rfl hz (by simp) (by simp [Value.oneCell']) (withD (g i) l a c) (by simp) rfl (Q := RoB a l.length l) fun R h H => ⟨⟨HP.sep_right H,((HP.sep_left H).2 i hi).1.2⟩,((HP.sep_left H).2 i hi).2⟩).weak (fun _ _ h => h) ?_
 rintro v R h ⟨rfl,H⟩
 exact post R h H
theorem putE_split {nm : Nm} {k : Nat} : ∀ {l : List (Nm × Nat)} {i : Nat},i ≤ l.length → (∀ j e,j < i → l[j]? = some e → e.1 < nm) → (∀ e,l[i]? = some e → ¬ e.1 < nm) → putE nm k l = l.take i ++ [(nm,k)] ++ l.drop i
 | [],i,h,_,_ => by
  obtain rfl : i = 0 := by simpa using h
  rfl
 | y :: r,0,_,_,h => by
  have := h y rfl
  simp [putE,this]
 | y :: r,i + 1,hi,h1,h2 => by
  have hy := h1 0 y (by omega) rfl
  have ih := putE_split (nm := nm) (k := k) (l := r) (i := i) (by simpa using hi) (fun j e hj he => h1 (j + 1) e (by omega) (by simpa using he)) (fun e he => h2 e (by simpa using he))
  simp [putE,hy,ih]
theorem slt_iff {x y : Nm} : (Op.bytesLess x y = true) ↔ x < y := by rw [bytesLess_eq]; simp
set_option maxHeartbeats 2000000 in
theorem rPut_ok {b : Nat} {g : Nat → NodeE} {i : Nat} (hi : i < 64) (nm : Nm) (k : Nat) (hl : (g i).nd.ents.length ≤ 100000) : Tri Tryz.prog 140 #[.pointer (some ⟨b,0,none⟩),.int .i64 i,sE nm,.int .i64 k] (RT b g)
  (fun v => HP.ex fun a => HP.ex fun c => HP.and (v = .tuple #[]) (RT b (upd g i (withE (g i) (putE nm k (g i).nd.ents) a c)))) := by
 refine Tri.fact (φ := ((g i).nd.ents.length ≠ 0 → (g i).ea.isSome = true) ∧ (g i).nd.ents.length ≤ (g i).ec) (fun R h H => ⟨RT.ea H i hi,(H.2 i hi).2⟩) fun ⟨hea,hcap⟩ => ?_
 refine tri_of_tree (ρ := [.n b,.p (RT b g),.i i,.s nm,.i k]) mixed Tryz.func140 tree_rPut ?_
 unfold t_rPut
 simp only [T.den,E.prop,E.den,RX.look,F1.app,F2.app,Uni.int_i,Uni.nat_n,Uni.bool_c,Uni.str_s,Uni.adr_a,Uni.val_v,Uni.hp_p,hden,cden,V.den,W.den,A.den,BR.den,SA.den,FV.den,capV,exs,exP,allP,Cur.app,List.map_cons,List.map_nil,List.cons_append,List.nil_append,List.drop_succ_cons,List.drop_zero,List.length_cons,List.length_nil,Nat.zero_add,Nat.reduceAdd,Int.neg_neg,Bool.not_not,List.append_nil,Nat.add_zero,List.getElem?_cons_zero,List.getElem?_cons_succ,Decidable.not_not,semW_eq,semW_load,semW_store,semW_storeC,semW_append,ne_eq,Nat.reduceEqDiff,not_false_eq_true,semW_ix,semW_fld,semW_sllo]
 refine ⟨.pointer (some ⟨b,i * 5,none⟩),ixN rfl hi,.pointer (some ⟨b,i * 5 + 4,none⟩),fldN (by omega),(g i).ea,(g i).nd.ents.length,(g i).ec,rtEnts hi,fun q0 => ?_⟩
 refine ⟨fun a n c j P => ∃ m : Nat,j = m ∧ m ≤ (g i).nd.ents.length ∧ n = m ∧ HP.ent P (OwEr a m c ((g i).nd.ents.take m)) ∧ ∀ u e,u < m → (g i).nd.ents[u]? = some e → e.1 < nm,fun _ _ _ j _ => (g i).nd.ents.length - j.toNat,
  ⟨0,rfl,Nat.zero_le _,rfl,.of fun R h H => emptyE q0 H,fun u e hu => by omega⟩,?_⟩
 rintro a m c _ P ⟨_,rfl,hm,rfl,hP,hbef⟩
 -- what is done at the place
 have fin : ∀ (q : Nat),(∀ e,(g i).nd.ents[m]? = some e → ¬ e.1 < nm) → OTri Tryz.prog (appS 41 41 (.slice a m c) (.slice (some ⟨q,0,none⟩) 1 1)) (HP.sep P (HP.one q (.cells #[sE nm,.int .i64 k] 140 (0,0))))
   (fun v => HP.ex fun a1 : Option Addr => HP.ex fun n1 : Nat => HP.ex fun c1 : Nat => HP.ex fun P1 : HP => HP.and (v = .slice a1 n1 c1) (HP.and (∃ (a2 : Option Addr) (n2 c2 : Nat),ORead Tryz.prog (sliceS 41 (.slice (g i).ea (g i).nd.ents.length (g i).ec) (some (.int .i64 m)) none none) (RT b g) (.slice a2 n2 c2) ∧
    OTri Tryz.prog (appS 41 41 (.slice a1 n1 c1) (.slice a2 n2 c2)) (HP.sep P1 (RT b g)) (fun v => HP.ex fun a3 : Option Addr => HP.ex fun n3 : Nat => HP.ex fun c3 : Nat => HP.ex fun P3 : HP => HP.and (v = .slice a3 n3 c3) (HP.and (∃ x1 : Value,ORead Tryz.prog (idxS 142 (.pointer (some ⟨b,0,none⟩)) (.int .i64 i)) (RT b g) (oneC x1) ∧ ∃ x2 : Value,ORead Tryz.prog (fldS 43 (oneC x1) 4) (RT b g) (oneC x2) ∧
     OTri Tryz.prog (storeS 41 (oneC x2) (.slice a3 n3 c3)) (HP.sep (RT b g) P3) (fun v => HP.ex fun P4 : HP => HP.and (v = .tuple #[]) (HP.and (HP.ent P4 (HP.ex fun a => HP.ex fun c => HP.and True (RT b (upd g i (withE (g i) (putE nm k (g i).nd.ents) a c))))) P4))) (HP.sep P3 (RT b g))))) (HP.sep P1 (HP.one q (.cells #[sE nm,.int .i64 k] 140 (0,0)))))) := fun q hge => by
  refine appEr (oneE q (nm,k)) rfl (fun _ => rfl) (by omega) hP fun a1 c1 R h H => ?_
  refine ⟨a1,m + 1,c1,_,rfl,?_,H⟩
  clear H
  obtain ⟨ti,_,hti,_,_,h3,_⟩ := info_pz infoEnt
  have sl := slice_ok undEs hti (RT b g) (g i).ea (g i).nd.ents.length (g i).ec (some m) none none (by simpa using hm) (by simpa using hcap) (Nat.le_refl _) (fun h => by simp at h)
  simp only [iv,Option.getD_some,Option.getD_none] at sl
  refine ⟨_,_,_,sl,?_⟩
  have rd : RdL (RT b g) (if (g i).ec = m then (g i).ea else (g i).ea.map (·.add (m * szT Tryz.prog 140))) ((g i).nd.ents.length - m) (((g i).nd.ents.drop m).flatMap entV) := by
   refine ⟨fun w R h F s H j u hj => ?_,fun R h H e => ?_⟩
   ·by_cases ec : (g i).ec = m
    ·have : (g i).nd.ents.drop m = [] := List.drop_eq_nil_of_le (by omega)
     rw [this] at hj; simp at hj
    ·rw [if_neg ec,szEnt]
     have hj' : (((g i).nd.ents).flatMap entV)[m * 2 + j]? = some u := by
      have hlt := (List.getElem?_eq_some_iff.1 hj).1
      rw [entV_len,List.length_drop] at hlt
      have e2 : j = (j / 2) * 2 + j % 2 := by omega
      obtain ⟨e,he⟩ := getN (l := (g i).nd.ents) (k := m + j / 2) (by omega)
      have h1 := flat_getL entV 2 (fun _ => rfl) ((g i).nd.ents.drop m) (j / 2) (j % 2) e (by rw [List.getElem?_drop]; exact he) (by omega)
      have h2 := flat_getL entV 2 (fun _ => rfl) (g i).nd.ents (m + j / 2) (j % 2) e he (by omega)
      rw [← e2] at h1
      rw [show m * 2 + j = (m + j / 2) * 2 + j % 2 by omega,h2,← h1]
      exact hj
     obtain ⟨gg,off,e1,e2⟩ := (Ls.rd (K := kEnt) (a := (g i).ea) (n := (g i).nd.ents.length) (l := (g i).nd.ents)) w R h F s (H.2 i hi).1.2 (m * 2 + j) u hj'
     refine ⟨gg,off + m * 2,?_,?_⟩
     ·rw [e1]; simp [addr_add]
     ·rw [show off + m * 2 + j = off + (m * 2 + j) by omega]; exact e2
   ·by_cases hz : (g i).nd.ents.length - m = 0
    ·exact hz
    ·exfalso
     have := RT.ea H i hi (by omega)
     by_cases ec : (g i).ec = m
     ·omega
     ·rw [if_neg ec] at e
      cases hq : (g i).ea with
      | none => rw [hq] at this; cases this
      | some y => rw [hq] at e; cases e
  refine appEr rd (by simp) (fun h => ?_) (by omega) (.of fun _ _ h => h) fun a3 c3 R h H => ?_
  ·have h1 := hea (by omega)
   by_cases ec : (g i).ec = m
   ·omega
   ·rw [if_neg ec]
    cases hq : (g i).ea with
    | none => rw [hq] at h1; cases h1
    | some y => rfl
  refine ⟨a3,_,c3,_,rfl,⟨.pointer (some ⟨b,i * 5,none⟩),ixN rfl hi,.pointer (some ⟨b,i * 5 + 4,none⟩),fldN (by omega),?_⟩,H⟩
  clear H
  refine storeE hi (.of fun _ _ h => h) fun R h H => ⟨_,rfl,?_,H⟩
  refine .of fun R h H => ⟨a3,c3,trivial,?_⟩
  rw [putE_split hm hbef hge]
  exact H
 refine ⟨fun hlt => ⟨by omega,fun _ => ⟨hea (by omega),fun _ => ?_⟩⟩,fun hge q => ?_⟩
 ·obtain ⟨e,he⟩ := getN (l := (g i).nd.ents) (k := m) (by omega)
  refine ⟨e.1,rtEnt1 hi he undStr (by kernel_rfl) (by kernel_rfl) rfl,fun hs => ?_,fun hs q => fin q fun e' he' => ?_⟩
  ·refine ⟨e.1,e.2,rtEnt hi he,fun q => ?_⟩
   refine appEr (oneE q e) rfl (fun _ => rfl) (by omega) hP fun a1 c1 R h H => ?_
   refine ⟨a1,m + 1,c1,_,rfl,⟨inI64' _ (by omega) (by omega),fun _ => ⟨⟨m + 1,by omega,by omega,rfl,?_,fun u e' hu he' => ?_⟩,by dsimp only; omega⟩⟩,H⟩
   ·rw [List.take_add_one,he]
    exact .of fun _ _ h => h
   ·rcases Nat.lt_or_eq_of_le (Nat.le_of_lt_succ hu) with h | h
    ·exact hbef u e' h he'
    ·subst h; rw [he] at he'; cases he'; exact slt_iff.1 hs
  ·rw [he] at he'; cases he'
   exact fun h => hs (slt_iff.2 h)
 ·refine fin q fun e he => ?_
  have := (List.getElem?_eq_some_iff.1 he).1
  omega
theorem filter_step {l : List (Nm × Nat)} {nm : Nm} {m : Nat} {e : Nm × Nat} (he : l[m]? = some e) : dropE nm (l.take (m + 1)) = dropE nm (l.take m) ++ (if e.1 ≠ nm then [e] else []) := by
 unfold dropE
 rw [List.take_add_one,he,List.filter_append]
 by_cases h : e.1 ≠ nm <;> simp [h]
set_option maxHeartbeats 2000000 in
theorem rDrop_ok {b : Nat} {g : Nat → NodeE} {i : Nat} (hi : i < 64) (nm : Nm) (hl : (g i).nd.ents.length ≤ 100000) : Tri Tryz.prog 143 #[.pointer (some ⟨b,0,none⟩),.int .i64 i,sE nm] (RT b g)
  (fun v => HP.ex fun a => HP.ex fun c => HP.and (v = .tuple #[]) (RT b (upd g i (withE (g i) (dropE nm (g i).nd.ents) a c)))) := by
 refine Tri.fact (φ := ((g i).nd.ents.length ≠ 0 → (g i).ea.isSome = true) ∧ (g i).nd.ents.length ≤ (g i).ec) (fun R h H => ⟨RT.ea H i hi,(H.2 i hi).2⟩) fun ⟨hea,hcap⟩ => ?_
 refine tri_of_tree (ρ := [.n b,.p (RT b g),.i i,.s nm]) mixed Tryz.func143 tree_rDrop ?_
 unfold t_rDrop
 simp only [T.den,E.prop,E.den,RX.look,F1.app,F2.app,Uni.int_i,Uni.nat_n,Uni.bool_c,Uni.str_s,Uni.adr_a,Uni.val_v,Uni.hp_p,hden,cden,V.den,W.den,A.den,BR.den,SA.den,FV.den,capV,exs,exP,allP,Cur.app,List.map_cons,List.map_nil,List.cons_append,List.nil_append,List.drop_succ_cons,List.drop_zero,List.length_cons,List.length_nil,Nat.zero_add,Nat.reduceAdd,Int.neg_neg,Bool.not_not,List.append_nil,Nat.add_zero,List.getElem?_cons_zero,List.getElem?_cons_succ,Decidable.not_not,semW_eq,semW_load,semW_store,semW_storeC,semW_append,ne_eq,Nat.reduceEqDiff,not_false_eq_true,semW_ix,semW_fld,semW_sllo]
 refine ⟨.pointer (some ⟨b,i * 5,none⟩),ixN rfl hi,.pointer (some ⟨b,i * 5 + 4,none⟩),fldN (by omega),(g i).ea,(g i).nd.ents.length,(g i).ec,rtEnts hi,fun q0 => ?_⟩
 refine ⟨fun a n c j P => ∃ m : Nat,j = m ∧ m ≤ (g i).nd.ents.length ∧ n = (dropE nm ((g i).nd.ents.take m)).length ∧ HP.ent P (OwEr a n c (dropE nm ((g i).nd.ents.take m))),fun _ _ _ j _ => (g i).nd.ents.length - j.toNat,
  ⟨0,rfl,Nat.zero_le _,rfl,.of fun R h H => emptyE q0 H⟩,?_⟩
 rintro a _ c _ P ⟨m,rfl,hm,rfl,hP⟩
 have hdl : (dropE nm ((g i).nd.ents.take m)).length ≤ m := by
  unfold dropE
  have := List.length_filter_le (fun y : Nm × Nat => decide (y.1 ≠ nm)) ((g i).nd.ents.take m)
  rw [List.length_take] at this
  omega
 refine ⟨fun hlt => ⟨by omega,fun _ => ⟨hea (by omega),fun _ => ?_⟩⟩,fun hge => ?_⟩
 ·obtain ⟨e,he⟩ := getN (l := (g i).nd.ents) (k := m) (by omega)
  have st := filter_step (nm := nm) he
  refine ⟨e.1,rtEnt1 hi he undStr (by kernel_rfl) (by kernel_rfl) rfl,fun hs => ?_,fun hs => ?_⟩
  ·rw [if_pos hs] at st
   refine ⟨e.1,e.2,rtEnt hi he,fun q => ?_⟩
   refine appEr (oneE q e) rfl (fun _ => rfl) (by omega) hP fun a1 c1 R h H => ?_
   refine ⟨a1,_,c1,_,rfl,⟨inI64' _ (by omega) (by omega),fun _ => ⟨⟨m + 1,by omega,by omega,by rw [st]; simp,?_⟩,by dsimp only; omega⟩⟩,H⟩
   rw [st]
   exact .of fun _ _ h => h
  ·rw [if_neg (by simpa using hs),List.append_nil] at st
   exact ⟨inI64' _ (by omega) (by omega),fun _ => ⟨⟨m + 1,by omega,by omega,by rw [st],by rw [st]; exact hP⟩,by dsimp only; omega⟩⟩
 ·have hmm : (g i).nd.ents.take m = (g i).nd.ents := List.take_of_length_le (by omega)
  rw [hmm] at hP ⊢
  refine ⟨.pointer (some ⟨b,i * 5,none⟩),ixN rfl hi,.pointer (some ⟨b,i * 5 + 4,none⟩),fldN (by omega),?_⟩
  refine storeE hi hP fun R h H => ⟨_,rfl,?_,H⟩
  exact .of fun R h H => ⟨a,c,trivial,H⟩
theorem sizeD_step (l : List UInt8) (k : Nat) : sizeD l (k + 1) = sizeD l k ++ [l.getD k 0] := by
 refine List.ext_getElem? fun i => ?_
 have get : ∀ (n i : Nat),(sizeD l n)[i]? = if i < n then some (l.getD i 0) else none := fun n i => by
  unfold sizeD
  rw [List.getElem?_append]
  simp only [List.length_take,List.getElem?_take,List.getElem?_replicate,List.getD_eq_getElem?_getD]
  by_cases h1 : i < n
  ·by_cases h2 : i < l.length
   ·rw [if_pos (by omega),if_pos h1,if_pos h1,List.getElem?_eq_getElem h2]; rfl
   ·rw [if_neg (by omega),if_pos (by omega),if_pos h1,List.getElem?_eq_none (by omega)]; rfl
  ·rw [if_neg (by omega),if_neg (by omega),if_neg h1]
 rw [get,List.getElem?_append,get,sizeD_len]
 by_cases h : i < k
 ·rw [if_pos (by omega),if_pos h,if_pos h]
 ·rw [if_neg h]
  by_cases e : i = k
  ·subst e; simp
  ·rw [if_neg (by omega),List.getElem?_eq_none (by simp; omega)]
set_option maxHeartbeats 1000000 in
theorem rSize_ok (a : Option Addr) (m c : Nat) (l : List UInt8) (S : HP) (hr : RdL S a m (l.map u8v)) (hl : l.length = m) (n : Nat) (hn : n ≤ 100000) : Tri Tryz.prog 145 #[.slice a m c,.int .i64 n] S
  (fun v => HP.ex fun a' => HP.ex fun c' => HP.and (v = .slice a' n c') (HP.sep (OwB a' n c' (sizeD l n)) S)) := by
 refine Tri.fact (φ := m ≠ 0 → a.isSome = true) (fun R h H => hr.isSome H) fun ha => ?_
 refine tri_of_tree (ρ := [.a a,.n m,.n c,.p S,.i n]) mixed Tryz.func145 tree_rSize ?_
 unfold t_rSize
 simp only [T.den,E.prop,E.den,RX.look,F1.app,F2.app,Uni.int_i,Uni.nat_n,Uni.bool_c,Uni.str_s,Uni.adr_a,Uni.val_v,Uni.hp_p,hden,cden,V.den,W.den,A.den,BR.den,SA.den,FV.den,capV,exs,exP,allP,Cur.app,List.map_cons,List.map_nil,List.cons_append,List.nil_append,List.drop_succ_cons,List.drop_zero,List.length_cons,List.length_nil,Nat.zero_add,Nat.reduceAdd,Int.neg_neg,Bool.not_not,List.append_nil,Nat.add_zero,List.getElem?_cons_zero,List.getElem?_cons_succ,Decidable.not_not,semW_eq,semW_load,semW_append,ne_eq,Nat.reduceEqDiff,not_false_eq_true]
 intro q0
 refine ⟨fun a1 n1 c1 j P => ∃ k : Nat,j = k ∧ k ≤ n ∧ n1 = k ∧ HP.ent P (OwB a1 k c1 (sizeD l k)),fun _ _ _ j _ => n - j.toNat,
  ⟨0,rfl,Nat.zero_le _,rfl,.of fun R h H => (show (OwB (some ⟨q0,0,none⟩) 0 0 (sizeD l 0)).p R h from ⟨by simp [sizeD],.inr ⟨q0,#[],rfl,H,Nat.le_refl _,by unfold maxLen; omega,rfl,by simp [sizeD]⟩⟩)⟩,?_⟩
 rintro a1 k c1 _ P ⟨_,rfl,hk,rfl,hP⟩
 have app : ∀ (x : UInt8) (q : Nat),l.getD k 0 = x → OTri Tryz.prog (appS 28 28 (.slice a1 k c1) (.slice (some ⟨q,0,none⟩) 1 1)) (HP.sep P (HP.one q (.cells #[.int .u8 x.toNat] 5 (0,0)))) (fun v => HP.ex fun a' => HP.ex fun c' => HP.and (v = .slice a' (k + 1) c') (HP.sep (OwB a' (k + 1) c' (sizeD l (k + 1))) (HP.one q (.cells #[.int .u8 x.toNat] 5 (0,0))))) := fun x q hx => by
  have ap := append8 a1 k c1 (sizeD l k) (HP.one q (.cells #[.int .u8 x.toNat] 5 (0,0))) (some ⟨q,0,none⟩) 1 1 [x] ⟨one_rd q #[.int .u8 x.toNat] 5,fun _ _ _ e => by cases e⟩ rfl (fun _ => rfl) (by omega)
  refine OTri.pre3 (ap.weak (fun _ _ h => h) ?_) (HP.ent.sep hP _)
  rintro v R h ⟨a',c',rfl,H⟩
  rw [← hx,← sizeD_step] at H
  exact ⟨a',c',rfl,by rw [hx] at H; exact H⟩
 refine ⟨fun hlt => ⟨fun hlt2 => ⟨by omega,fun _ => ⟨ha (by omega),fun _ => ?_⟩⟩,fun hge2 q => ?_⟩,fun hge => ?_⟩
 ·obtain ⟨x,hx⟩ := getN (l := l) (k := k) (by omega)
  refine ⟨x.toNat,load1_ok und8b agg8 sz8 hr.rd (k := (k : Int).toNat * 1) (off := 0) (by rw [Int.toNat_natCast,Nat.mul_one,Nat.add_zero,List.getElem?_map,hx]; rfl),fun q => ?_⟩
  refine (app x q (by rw [List.getD_eq_getElem?_getD,hx]; rfl)).weak (fun _ _ h => h) ?_
  rintro v R h ⟨a',c',rfl,H⟩
  exact ⟨a',_,c',_,rfl,⟨inI64' _ (by omega) (by omega),fun _ => ⟨⟨k + 1,by omega,by omega,rfl,.of fun _ _ h => h⟩,by dsimp only; omega⟩⟩,H⟩
 ·refine (app 0 q (by rw [List.getD_eq_getElem?_getD,List.getElem?_eq_none (by omega)]; rfl)).weak (fun _ _ h => h) ?_
  rintro v R h ⟨a',c',rfl,H⟩
  exact ⟨a',_,c',_,rfl,⟨inI64' _ (by omega) (by omega),fun _ => ⟨⟨k + 1,by omega,by omega,rfl,.of fun _ _ h => h⟩,by dsimp only; omega⟩⟩,H⟩
 ·obtain rfl : k = n := by omega
  exact (HP.ent2 (.of fun _ _ h => h) hP).trans (.of fun R h H => ⟨a1,c1,rfl,HP.sep_comm H⟩)
end Go.Proofs.YtdieogcemmnaaaaGreatDoor

namespace Go.Proofs.YtdieogcemmnaaaaGreatDoor
set_option linter.unusedSimpArgs false
set_option linter.unusedVariables false
open Go.Proofs.YtdieogcemmnaaaaGreatDoor RX
set_option maxRecDepth 100000
theorem Rp.set {g : Nat → NodeE} {T : List Nd} {a : Nat} {x : Nd} {y : NodeE} {f : Nd → Nd} (h : Rp g T) (hf : ∀ n,(f n).num = n.num) (hx : nodeAt T a = some x) (hy : y.nd = f x) : Rp (upd g a y) (setP T a f) := fun i hi => by
 unfold upd
 by_cases e : i = a
 ·subst e
  rw [if_pos rfl,hy]
  exact (ndF_some (by rw [nodeAt_set hf,if_pos rfl,hx]; rfl)).symm
 ·rw [if_neg e,h i hi]
  unfold ndF
  rw [nodeAt_set hf,if_neg e]
theorem Rp.ins {g : Nat → NodeE} {T : List Nd} {y : NodeE} (h : Rp g T) (z : Nd) (hy : y.nd = z) : Rp (upd g z.num y) (insP z T) := fun i hi => by
 unfold upd
 by_cases e : i = z.num
 ·rw [if_pos e,hy]
  exact (ndF_some (by rw [nodeAt_ins,if_pos e])).symm
 ·rw [if_neg e,h i hi]
  unfold ndF
  rw [nodeAt_ins,if_neg e]
theorem Rp.del {g : Nat → NodeE} {T : List Nd} {a : Nat} {y : NodeE} (h : Rp g T) (hy : y.nd = nd0) : Rp (upd g a y) (delP T a) := fun i hi => by
 unfold upd
 by_cases e : i = a
 ·rw [if_pos e,hy]
  exact (ndF_none (by rw [nodeAt_del,if_pos e])).symm
 ·rw [if_neg e,h i hi]
  unfold ndF
  rw [nodeAt_del,if_neg e]
theorem Rp.at' {g : Nat → NodeE} {T : List Nd} (h : Rp g T) {i : Nat} {n : Nd} (hi : i < 64) (hn : nodeAt T i = some n) : (g i).nd = n := by rw [h i hi,ndF_some hn]
theorem filter_lt {T : List Nd} (hs : (T.map (·.num)).Pairwise (· < ·)) (k : Nat) : T.filter (fun n => decide (n.num < k + 1)) = T.filter (fun n => decide (n.num < k)) ++ T.filter (fun n => decide (n.num = k)) := by
 induction T with
 | nil => rfl
 | cons z r ih =>
  rw [List.map_cons,List.pairwise_cons] at hs
  have ih := ih hs.2
  rw [List.filter_cons,List.filter_cons,List.filter_cons]
  have hz : ∀ n ∈ r,z.num < n.num := fun n hn => hs.1 _ (List.mem_map.2 ⟨n,hn,rfl⟩)
  by_cases h1 : z.num < k
  ·have : ¬ z.num = k := by omega
   simp [h1,this,ih,show z.num < k + 1 by omega]
  ·by_cases h2 : z.num = k
   ·have e1 : r.filter (fun n => decide (n.num < k)) = [] := List.filter_eq_nil_iff.2 fun n hn => by have := hz n hn; simp; omega
    simp only [h2,show k < k + 1 by omega,decide_true,if_true,show ¬ k < k by omega,decide_false,Bool.false_eq_true,if_false]
    rw [ih,e1]; simp
   ·have e1 : r.filter (fun n => decide (n.num < k)) = [] := List.filter_eq_nil_iff.2 fun n hn => by have := hz n hn; simp; omega
    have e2 : r.filter (fun n => decide (n.num = k)) = [] := List.filter_eq_nil_iff.2 fun n hn => by have := hz n hn; simp; omega
    have e3 : ¬ z.num < k + 1 := by omega
    simp only [h1,h2,e3,decide_false,Bool.false_eq_true,if_false]
    rw [ih,e1,e2]
def g0 (i : Nat) : NodeE := if i = 0 then ⟨⟨0,1,1,[],[]⟩,none,0,none,0⟩ else ne0
theorem g0_rp : Rp g0 newT := fun i hi => by
 unfold g0
 by_cases e : i = 0
 ·subst e; rfl
 ·rw [if_neg e]
  refine (ndF_none ?_).symm
  unfold nodeAt newT
  rw [List.find?_cons]
  have : ¬ (newNd 0 1).num = i := fun h => e h.symm
  simp [this]
theorem rNew_ok : Tri Tryz.prog 22 #[] HP.tt (fun v => HP.ex fun b => HP.and (v = .pointer (some ⟨b,0,none⟩)) (RT b g0)) := by
 refine tri_of_tree (ρ := []) mixed Tryz.func22 tree_rNew ?_
 unfold t_rNew
 simp only [T.den,E.prop,E.den,RX.look,F1.app,F2.app,Uni.int_i,Uni.nat_n,Uni.bool_c,Uni.str_s,Uni.adr_a,Uni.val_v,Uni.hp_p,hden,cden,V.den,W.den,A.den,BR.den,SA.den,FV.den,capV,exs,exP,allP,Cur.app,List.map_cons,List.map_nil,List.cons_append,List.nil_append,List.drop_succ_cons,List.drop_zero,List.length_cons,List.length_nil,Nat.zero_add,Nat.reduceAdd,Int.neg_neg,Bool.not_not,List.append_nil,Nat.add_zero,List.getElem?_cons_zero,List.getElem?_cons_succ,Decidable.not_not,semW_eq,ne_eq,Nat.reduceEqDiff,not_false_eq_true]
 intro b
 refine .of fun R h H => ⟨b,rfl,H,fun i hi => ?_⟩
 unfold g0
 split
 ·exact ⟨⟨RoC.nil _ _ _ _,rfl,RoC.nil _ _ _ _,fun x hx => by cases hx⟩,Nat.le_refl _⟩
 ·exact ⟨ne0_hp _ _,Nat.le_refl _⟩
def DoR (b : Nat) (NS : List Nd) (r : AnsM) (S : HP) (v : Value) : HP := HP.ex fun r0 : AnsM => HP.ex fun da => HP.ex fun dc => HP.ex fun na => HP.ex fun nc => HP.ex fun g' => HP.and (v = .tuple #[r0.at da dc na nc,.int .i64 r.err] ∧ (r.err = 0 → r0 = r) ∧ Rp g' NS)
 (HP.sep (OwB da r0.data.length dc r0.data) (HP.sep (OwS na r0.names.length nc r0.names) (HP.sep (RT b g') S)))
theorem DoR.code {b : Nat} {NS : List Nd} {r : AnsM} {S : HP} {g' : Nat → NodeE} {e : Int} (hg : Rp g' NS) (hr : r = { err := e }) :
  HP.ent (HP.sep (RT b g') S) (DoR b NS r S (.tuple #[.agg #[.int .i64 0,.int .i64 0,.int .i64 0,.int .i64 0,.slice none 0 0,.slice none 0 0],.int .i64 e])) := .of fun R h H => by
 subst hr
 exact ⟨{},none,0,none,0,g',⟨rfl,fun h => by rw [show e = 0 from h],hg⟩,AnsR.nil rfl rfl H⟩
theorem DoR.code0 {b : Nat} {NS : List Nd} {r : AnsM} {S : HP} {g' : Nat → NodeE} (hg : Rp g' NS) (hr : r = {}) :
  HP.ent (HP.sep (RT b g') S) (DoR b NS r S (.tuple #[.agg #[.int .i64 0,.int .i64 0,.int .i64 0,.int .i64 0,.slice none 0 0,.slice none 0 0],.int .i64 0])) := DoR.code hg hr
end Go.Proofs.YtdieogcemmnaaaaGreatDoor
