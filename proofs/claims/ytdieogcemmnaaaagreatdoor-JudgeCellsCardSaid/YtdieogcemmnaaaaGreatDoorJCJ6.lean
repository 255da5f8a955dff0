/- Texts of this claim, joined. No condition. -/
import Derived.Test.YtdieogcemmnaaaaGreatDoorJCJ1
import Derived.Test.YtdieogcemmnaaaaGreatDoorJCJ2
import Derived.Test.YtdieogcemmnaaaaGreatDoorJCJ4
import Derived.Test.YtdieogcemmnaaaaGreatDoorJCJ5
import Derived.KernelRfl
import Derived.OpenShut
import Derived.ProofKit
import Derived.ShutString
import Derived.ChangeOld
import Derived.Below
import Derived.SizedLaws
import Derived.Lay
import Derived.LaidMore
import Derived.Test.YtdieogcemmnaaaaGreatDoorTie
import Derived.Test.YtdieogcemmnaaaaGreatDoorCards
import Derived.SevenTiedAt
set_option linter.unusedSimpArgs false
set_option linter.unusedVariables false
namespace Go.Proofs.YtdieogcemmnaaaaGreatDoor
set_option linter.unusedSimpArgs false
set_option linter.unusedVariables false
open Go.Proofs.YtdieogcemmnaaaaGreatDoor RX
set_option maxRecDepth 100000
def FM (r:Nat) (f:IdM → Option Nat):HP:=HP.ex fun l=>HP.ex fun c=>FMl r f l c
theorem FM.new (r:Nat) {R h:PH} (H:(HP.one r (.map #[] 0)).p R h):(FM r fun _=>none).p R h:=⟨[],0,⟨MapI.nil 0,fun k=>rfl⟩,H⟩
theorem lookFM {r:Nat} {f:IdM → Option Nat} (k:IdM):ORead Tryz.prog (lookS 197 (.map (some r)) (idV k) true) (FM r f) (.tuple #[.int .i64 (fz f k),.bool (f k).isSome]) :=
 ORead.exI fun l=>ORead.exI fun c=>fun w R h F st a=>lookF2 (c:=c) a.1.2 k w R h F st a
theorem updF (r:Nat) (f:IdM → Option Nat) (k:IdM) (n:Nat) (x:Int) (hx:x=n):OTri Tryz.prog (updS 197 (.map (some r)) (idV k) (.int .i64 x)) (FM r f) (fun v=>HP.and (v = .tuple #[]) (FM r (fput f k (some n)))):=by
 subst hx
 refine OTri.exI fun l=>OTri.exI fun c=>OTri.pureI fun ⟨hI,hf⟩ => ?_
 refine (upd_ok (c:=c) (l:=l) (r:=r) idK undFM k (.int .i64 (n:Int))).weak (fun _ _ h=>h) ?_
 rintro v R h ⟨e,H⟩
 refine ⟨e,_,_,⟨hI.put k _,fun k' => ?_⟩,H⟩
 rw [alFind_put]
 unfold fput
 by_cases e:k'=k
 ·rw [if_pos e,if_pos e]; rfl
 ·rw [if_neg e,if_neg e]; exact hf k'
theorem lookFM0 {r:Nat} {f:IdM → Option Nat} (k:IdM):ORead Tryz.prog (lookS 197 (.map (some r)) (idV k) false) (FM r f) (.int .i64 (fz f k)) :=
 ORead.exI fun l=>ORead.exI fun c=>fun w R h F st a=>lookF (c:=c) a.1.2 k w R h F st a
def tF (es:List DeedE) (k:IdM):List AnsE:=(es.filter fun x=>okD x && decide (x.id=k)).map DeedE.a
def bG (es:List DeedE) (k:BegM):Nat:=(es.filter fun x=>decide (begOf x.id x.call=k)).length
theorem tF_snoc (es:List DeedE) (x:DeedE):tF (es ++ [x])=if okD x then putL (tF es) x.id (tF es x.id ++ [x.a]) else tF es:=by
 funext k
 unfold tF putL
 rw [List.filter_append,List.map_append]
 by_cases h:okD x=true
 ·rw [if_pos h]
  by_cases e:k=x.id
  ·subst e; simp [h]
  ·have e' : ¬ x.id=k:=fun h=>e h.symm
   simp [h,e,e']
 ·rw [if_neg h]
  have h':okD x=false:=by simpa using h
  simp [h']
theorem bG_snoc (es:List DeedE) (x:DeedE):bG (es ++ [x])=addB (bG es) (begOf x.id x.call):=by
 funext k
 unfold bG addB
 rw [List.filter_append,List.length_append]
 by_cases e:k=begOf x.id x.call
 ·subst e; simp
 ·have e' : ¬ begOf x.id x.call=k:=fun h=>e h.symm
  simp [e,e']
theorem bG_zero (es:List DeedE) (x:IdM × CallP):bG es (begOf x.1 x.2)=0 ↔ begun (es.map DeedE.p) x=false:=by
 unfold bG begun
 rw [List.length_eq_zero_iff,List.filter_eq_nil_iff,List.any_map,List.any_eq_false]
 rfl
theorem tF_wrong (es:List DeedE) (k:IdM) (r:AnsM):((tF es k).any fun y=>decide (y.m ≠ r))=wrongS (es.map DeedE.p) k r:=by
 unfold tF wrongS
 rw [List.any_map,List.any_map,List.any_filter]
 rfl
theorem tF_nil (es:List DeedE) (k:IdM):tF es k=[] ↔ ∀ x ∈ es,¬ (okD x=true ∧ x.id=k):=by
 unfold tF
 rw [List.map_eq_nil_iff,List.filter_eq_nil_iff]
 simp only [Bool.and_eq_true,decide_eq_true_eq]
def flg (tw nob miss wr late:Bool):List Bool:=[false,tw,nob,miss,wr,late]
def flk (l:List Bool) (k:Nat):List Int:=((List.range k).filter fun j=>(l[j]?).getD false).map fun j:Nat=>(j:Int)
theorem flk_succ (l:List Bool) (k:Nat):flk l (k + 1)=flk l k ++ if (l[k]?).getD false then [(k:Int)] else []:=by
 unfold flk
 rw [List.range_succ,List.filter_append,List.map_append]
 congr 1
 by_cases h:(l[k]?).getD false=true <;> simp [h]
theorem flk_len (l:List Bool) (k:Nat):(flk l k).length ≤ k:=by
 unfold flk
 rw [List.length_map]
 exact Nat.le_trans (List.length_filter_le _ _) (by simp)
theorem flk_all (a b c d e:Bool):flk (flg a b c d e) 6=flagsL a b c d e:=by
 cases a <;> cases b <;> cases c <;> cases d <;> cases e <;> rfl
set_option maxHeartbeats 8000000 in
theorem check_ok (ca:Option Addr) (cn cc:Nat) (ces:List CellE) (Sc:HP) (cr:CellRd Sc ca cn ces) (hcn:cn ≤ 1000) (a:Option Addr) (n c:Nat) (es:List DeedE) (S:HP) (dr:DeedRd S a n es) (hn:n ≤ 1000) :
  Tri Tryz.prog 47 #[.slice ca cn cc,.slice a n c] (HP.sep Sc S)
   (fun v=>HP.ex fun a'=>HP.ex fun c'=>HP.and (v = .slice a' (faultsS (es.map DeedE.p) (callsS ces)).length c') (HP.sep Sc (HP.sep S (OwI a' (faultsS (es.map DeedE.p) (callsS ces)).length c' (faultsS (es.map DeedE.p) (callsS ces)))))):=by
 refine tri_of_tree (ρ:=[.a ca,.n cn,.n cc,.p Sc,.a a,.n n,.n c,.p S]) mixed Tryz.func47 tree_jCheck ?_
 unfold t_jCheck
 simp (maxSteps:=3000000) only [T.den,E.prop,E.den,RX.look,F1.app,F2.app,Uni.int_i,Uni.nat_n,Uni.bool_c,Uni.str_s,Uni.adr_a,Uni.val_v,Uni.hp_p,hden,cden,V.den,W.den,A.den,BR.den,SA.den,FV.den,capV,exs,exP,allP,Cur.app,List.map_cons,List.map_nil,List.cons_append,List.nil_append,List.drop_succ_cons,List.drop_zero,List.length_cons,List.length_nil,Nat.zero_add,Nat.reduceAdd,Int.neg_neg,Bool.not_not,List.append_nil,Nat.add_zero,List.getElem?_cons_zero,List.getElem?_cons_succ,Decidable.not_not,semW_eq,semW_load,semW_store,semW_storeC,semW_append,semW_lookup,semW_lookupC,semW_update,semW_updateC,semW_updateK,semW_range,semW_next,semW_entry,ne_eq,Nat.reduceEqDiff,not_false_eq_true,semW_mapEntry,semW_entryStore]
 intro fo br _ tr _
 have hl:=dr.len
 refine ⟨fun i P1 P2 => ∃ k:Nat,i=k ∧ k ≤ n ∧ TQ P1 tr (tF (es.take k)) ∧ HP.ent P2 (BM br (bG (es.take k))),fun i _ _=>n - i.toNat,⟨0,rfl,Nat.zero_le _,TQ.new tr,.of fun R h H=>BM.new br H⟩,?_⟩
 rintro _ P1 P2 ⟨k,rfl,hk,tq,hB⟩
 refine ⟨fun hlt=>⟨by omega,fun _=>⟨dr.is (by omega),fun _ => ?_⟩⟩,fun hge => ?_⟩
 ·obtain ⟨x,hx⟩ : ∃ x,es[k]? = some x:=⟨_,List.getElem?_eq_getElem (by omega)⟩
  have hxm:=List.mem_of_getElem? hx
  have nxt:IntKind.i64.min ≤ (k:Int) + 1 ∧ (k:Int) + 1 ≤ IntKind.i64.max:=inI64D _ (by omega) (by omega)
  have hlt':=(List.getElem?_eq_some_iff.1 hx).1
  have htk:es.take (k + 1)=es.take k ++ [x]:=by
   rw [List.take_succ_eq_append_getElem hlt']
   rw [List.getElem?_eq_getElem hlt'] at hx
   rw [Option.some.inj hx]
  have hbl:bG (es.take k) (begOf x.id x.call) ≤ 1000:=by
   unfold bG
   exact Nat.le_trans (List.length_filter_le _ _) (by rw [List.length_take]; omega)
  have hbr:IntKind.i64.min ≤ ((bG (es.take k) (begOf x.id x.call):Nat):Int) + 1 ∧ ((bG (es.take k) (begOf x.id x.call):Nat):Int) + 1 ≤ IntKind.i64.max:=inI64D _ (by omega) (by omega)
  refine ⟨x.id.1,x.id.2.1,x.id.2.2,x.call.kind,x.call.path,x.call.other,x.call.off,x.call.n,x.ca,x.call.data.length,x.cc,x.be,x.en,x.ans.err,x.ans.kind,x.ans.size,x.ans.links,x.da,x.ans.data.length,x.dc,x.na,x.ans.names.length,x.nc,ldD dr.rd hx,fun _ => ?_⟩
  refine ⟨fun P=>HP.ent P (BM br (bG (es.take (k + 1)))),?_,?_⟩
  ·refine (beganOf_ok x.id x.call x.ca x.cc S (dr.cd x hxm)).weak (fun _ _ h=>h) ?_
   rintro v R h ⟨rfl,H⟩
   refine ⟨x.id.1,x.id.2.1,x.id.2.2,x.call.kind,x.call.off,x.call.n,x.call.path,x.call.other,x.call.data,rfl,⟨⟨_,(lookB (begOf x.id x.call)).ent hB,hbr,fun _ => ?_⟩,?_⟩,H⟩
   ·clear H
    refine OTri.preL ((begun_entry br _ (begOf x.id x.call)).weak (fun _ _ h=>h) ?_) hB
    rintro v R h ⟨b,rfl,H⟩
    refine ⟨_,(b:Int),_,rfl,?_,H⟩
    clear H
    refine (begun_store br _ (begOf x.id x.call) b _ rfl).weak (fun _ _ h=>h) ?_
    rintro v R h ⟨rfl,H⟩
    refine ⟨_,rfl,?_,H⟩
    show HP.ent _ _
    rw [htk,bG_snoc]; exact .refl _
   ·clear H
    refine OTri.preL ((begun_entry br _ (begOf x.id x.call)).weak (fun _ _ h=>h) ?_) hB
    rintro v R h ⟨b,rfl,H⟩
    refine ⟨_,(b:Int),_,rfl,?_,H⟩
    clear H
    refine ⟨_,lookBH (begOf x.id x.call),hbr,fun _ => ?_⟩
    refine (begun_store br _ (begOf x.id x.call) b _ rfl).weak (fun _ _ h=>h) ?_
    rintro v R h ⟨rfl,H⟩
    refine ⟨_,rfl,?_,H⟩
    show HP.ent _ _
    rw [htk,bG_snoc]; exact .refl _
  rintro P3 hB3
  refine (answered_ok x S).weak (fun _ _ h=>h) ?_
  rintro v R h ⟨rfl,H⟩
  refine ⟨_,rfl,⟨fun h1=>fun b => ?_,fun h1=>⟨nxt,fun _=>⟨⟨k + 1,by omega,by omega,?_,hB3⟩,by dsimp only; omega⟩⟩⟩,H⟩
  ·clear H
   have hok:okD x=true:=h1
   refine OTri.preL ((told_entry tr _ x.id).weak (fun _ _ h=>h) ?_) tq.ent
   rintro v R h ⟨ta,tc,tb,rfl,H⟩
   refine ⟨ta,_,tc,_,(tb:Int),_,rfl,?_,H⟩
   clear H
   have hro : ∀ R h,S.p R h → (HP.sep x.a.ro S).p R h:=fun R h H=>by
    have:=dr.ar x hxm R h H
    refine ⟨PH.none',h,PH.none_dj _,PH.none_le _,PH.le.refl _,⟨dr.nb x hxm,this.1,this.2⟩,H⟩
   obtain ⟨i,hi,hz,hzs,hs,hby⟩:=infoAp
   have htl:(tF (es.take k) x.id).length ≤ 1000:=by
    unfold tF
    rw [List.length_map]
    exact Nat.le_trans (List.length_filter_le _ _) (by rw [List.length_take]; omega)
   refine (PL.appK (K:=kAnsP) 196 196 undAs hi hz hzs hs (by omega) ta _ tc (tF (es.take k) x.id) b x.a S (by omega)).weak (fun R h H=>HP.sep_mono H (fun _ h=>h) fun z hz=>HP.sep_mono hz (fun _ h=>h) fun u hu=>hro _ _ hu) ?_
   rintro v R h ⟨a',c',rfl,H⟩
   refine ⟨a',_,c',_,rfl,?_,H⟩
   ·clear H
    refine (told_store tr _ x.id tb a' _ c' (tF (es.take k) x.id ++ [x.a]) (by simp)).weak (fun _ _ h=>h) ?_
    rintro v R h ⟨rfl,⟨l,lc,H⟩⟩
    refine ⟨_,rfl,⟨nxt,fun _=>⟨⟨k + 1,by omega,by omega,?_,hB3⟩,by dsimp only; omega⟩⟩,H⟩
    have:=TQ.of H
    rw [htk,tF_snoc,if_pos hok]
    exact this
  ·have hok:okD x=false:=by simpa [okD] using h1
   rw [htk,tF_snoc,if_neg (by rw [hok]; decide)]; exact tq
 obtain rfl:k=n:=by omega
 rw [List.take_of_length_le (by omega)] at tq hB
 intro fb _
 refine tNew_ok.weak (fun _ _ h=>h) ?_
 rintro v R h ⟨b,t0,⟨rfl,ht0⟩,H⟩
 refine ⟨b,TRep b t0,rfl,?_,H⟩
 clear H
 intro _ _
 refine (calls_ok ca cn cc Sc).weak (fun _ _ h=>h) ?_
 rintro v R h ⟨nb,rfl,H⟩
 refine ⟨.func (.func 167) #[] #[.pointer (some ⟨nb,0,none⟩)],HP.one nb (.cells #[.slice ca cn cc] 79 (0,0)),rfl,fun _ => ?_,H⟩
 clear H
 have hfew:(callsS ces).length ≤ cn:=by rw [← cr.len]; exact List.length_filterMap_le _ _
 refine ⟨List (IdM × CallP),fun _=>HP.tt,PrC,mayC,fun L=>L=[],callsS ces,fun g i P1 P2 P3 => ∃ (D:List (IdM × CallP)) (t:TS),callsS ces=D ++ g ∧ i=D.length ∧ P1=TRep b t ∧ TWf (1 + D.length) t.pub ∧ t.pub=(jrun (es.map DeedE.p) js0 D).T ∧ HP.ent P2 (FM fb (jrun (es.map DeedE.p) js0 D).first) ∧
  HP.ent P3 (FO fo (flg (jrun (es.map DeedE.p) js0 D).tw (jrun (es.map DeedE.p) js0 D).nob false (jrun (es.map DeedE.p) js0 D).wr false)),calls_seq nb ca cn cc ces Sc cr (by omega),?_,?_,?_,?_⟩
 ·refine ⟨[],t0,rfl,rfl,rfl,by rw [ht0]; exact newT_wf,by rw [ht0]; rfl,.of fun R h H=>FM.new fb H,.of fun R h H=>H⟩
 ·rintro g i P1 P2 P3 _; rfl
 ·rintro g args ⟨g',id,q,da,dc,rfl,rfl,hq1,hq2⟩ i Q1 Q2 Q3 ⟨D,t,hD,rfl,rfl,wf,ht,hF,hO⟩
  refine ⟨id.1,id.2.1,id.2.2,q.kind,q.path,q.other,q.off,q.n,da,q.data.length,dc,RoB da q.data.length q.data,rfl,.of fun R h H => ?_,fun _ _ => ?_⟩
  ·obtain ⟨⟨⟨id',q'⟩,da',dc',L'⟩,⟨h1,h2⟩,H⟩:=H
   cases h1
   simp [CallP.val] at h2
   obtain ⟨rfl,rfl⟩:=h2
   exact H
  have hDl:D.length + (g'.length + 1) ≤ cn:=by
   have:=congrArg List.length hD
   rw [List.length_append,List.length_cons] at this
   omega
  have hs':jrun (es.map DeedE.p) js0 (D ++ [(id,q)])=jstep (es.map DeedE.p) (jrun (es.map DeedE.p) js0 D) (id,q):=by rw [jrun_app]; rfl
  have hsn:=(jrun_T (es.map DeedE.p) D js0).2
  generalize jrun (es.map DeedE.p) js0 D=s at *
  have hsn:s.n=D.length:=by rw [hsn]; show 0 + _=_; omega
  refine (tDo_ok (by omega) wf (q.m da dc) (RoB da q.data.length q.data) q.data ⟨RdL.ro _ _ _ _,rfl,hq2⟩).weak (fun _ _ h=>h) ?_
  rintro v R h ⟨t',ht',da',dc',na',nc',rfl,H⟩
  have ht2:t'.pub=nextT s.T q:=by rw [ht',← ht]; rfl
  have hr:(doS t.pub (q.m da dc).kind (q.m da dc).path (q.m da dc).other (q.m da dc).off (q.m da dc).n q.data).2=ansOf s.T q:=by rw [← ht]; rfl
  have wf':TWf (1 + (D ++ [(id,q)]).length) t'.pub:=by
   have:=wf.do (by omega) q.kind q.path q.other q.off q.n q.data
   rw [List.length_append,List.length_singleton,show 1 + (D.length + 1)=1 + D.length + 1 by omega,ht']
   exact this
  rw [hr] at H ⊢
  clear hr ht'
  generalize hrr:ansOf s.T q=r at *
  refine ⟨_,_,_,_,da',_,dc',_,na',_,nc',_,TRep b t',RoB da q.data.length q.data,rfl,fun ab => ?_,H⟩
  clear H
  refine (beganOf_ok id q da dc _ (RdL.ro _ _ _ _)).weak (fun _ _ h=>h) ?_
  rintro v R h ⟨rfl,H⟩
  refine ⟨id.1,id.2.1,id.2.2,q.kind,q.off,q.n,q.path,q.other,q.data,rfl,⟨_,(lookB (begOf id q)).ent hB,?_⟩,H⟩
  clear H
  have nxt:IntKind.i64.min ≤ (D.length:Int) + 1 ∧ (D.length:Int) + 1 ≤ IntKind.i64.max:=inI64D _ (by omega) (by omega)
  have hD':callsS ces=D ++ [(id,q)] ++ g':=by rw [hD]; simp
  have hDn:(D.length:Int) + 1=((D ++ [(id,q)]).length:Nat):=by simp
  have htl:(tF es id).length ≤ 1000000:=by
   unfold tF
   rw [List.length_map]
   exact Nat.le_trans (List.length_filter_le _ _) (by omega)
  refine ⟨fun h0 => ?_,fun h0 => ?_⟩
  ·have hbg:begun (es.map DeedE.p) (id,q)=false:=(bG_zero es (id,q)).1 (by simpa using h0)
   refine OTri.preL ((foStore fo _ 2 (by show 2 < 6; decide) true).weak (fun _ _ h=>h) ?_) hO
   rintro v R h ⟨rfl,H⟩
   refine ⟨_,rfl,?_,H⟩
   clear H
   have hNB:true=(s.nob || !begun (es.map DeedE.p) (id,q)):=by rw [hbg]; simp
   clear hO
   have hO:HP.ent (FO fo (flg s.tw true false s.wr false)) (FO fo (flg s.tw true false s.wr false)) := .refl _
   refine ⟨_,_,(lookFM id).ent hF,⟨fun h1 => ?_,fun h1 => ?_⟩⟩
   ·refine OTri.preL ((foStore fo _ 1 (by show 1 < 6; decide) true).weak (fun _ _ h=>h) ?_) hO
    rintro v R h ⟨rfl,H⟩
    obtain ⟨j,hj⟩:=Option.isSome_iff_exists.1 h1
    refine ⟨_,rfl,⟨nxt,fun _=>⟨g',⟨id,q,da,dc,rfl,rfl,hq1,hq2⟩,D ++ [(id,q)],t',hD',hDn,rfl,wf',by rw [hs']; exact ht2,?_,?_⟩⟩,H⟩
    ·rw [hs']; show HP.ent _ (FM fb (putF s.first id s.n)); unfold putF; rw [hj]; exact hF
    ·rw [hs']; show HP.ent _ (FO fo (flg (s.tw || (s.first id).isSome) (s.nob || !begun (es.map DeedE.p) (id,q)) false (s.wr || ((s.first id).isNone && wrongS (es.map DeedE.p) id (ansOf s.T q))) false)); rw [← hNB,hrr]; rw [hj]; simp only [Option.isSome_some,Option.isNone_some,Bool.or_true,Bool.false_and,Bool.or_false]; exact .refl _
   ·have hno:s.first id=none:=by
     cases hh:s.first id with
     | none=>rfl
     | some j=>rw [hh] at h1; exact absurd rfl h1
    refine OTri.preL ((updF fb _ id s.n _ (by rw [hsn])).weak (fun _ _ h=>h) ?_) hF
    rintro v R h ⟨rfl,H⟩
    refine ⟨_,rfl,⟨s.wr,(foLoad fo _ 4 s.wr rfl).ent hO,⟨fun h2 => ?_,fun h2 => ?_⟩⟩,H⟩
    ·clear H
     refine OTri.preL ((foStore fo _ 4 (by show 4 < 6; decide) true).weak (fun _ _ h=>h) ?_) hO
     rintro v R h ⟨rfl,H⟩
     refine ⟨_,rfl,⟨nxt,fun _=>⟨g',⟨id,q,da,dc,rfl,rfl,hq1,hq2⟩,D ++ [(id,q)],t',hD',hDn,rfl,wf',by rw [hs']; exact ht2,?_,?_⟩⟩,H⟩
     ·rw [hs']; show HP.ent _ (FM fb (putF s.first id s.n)); unfold putF; rw [hno]; exact .refl _
     ·rw [hs']; show HP.ent _ (FO fo (flg (s.tw || (s.first id).isSome) (s.nob || !begun (es.map DeedE.p) (id,q)) false (s.wr || ((s.first id).isNone && wrongS (es.map DeedE.p) id (ansOf s.T q))) false)); rw [← hNB,hrr]; rw [hno,h2]; simp only [Option.isSome_none,Option.isNone_none,Bool.or_false,Bool.true_or]; exact .refl _
    ·clear H
     obtain ⟨ta,tc,hlk,har⟩:=tq.look id
     refine ⟨ta,_,tc,hlk,?_⟩
     refine (containsA_ok ta _ tc (tF es id) P1 har htl ab r da' dc' na' nc' _ _ (RdL.ow _ _ _ _ _ _) (RdL.ow _ _ _ _ _ _)).weak (fun _ _ h=>h) ?_
     rintro v R h ⟨rfl,H⟩
     refine ⟨_,rfl,?_,H⟩
     clear H
     refine OTri.preL ((foStore fo _ 4 (by show 4 < 6; decide) _).weak (fun _ _ h=>h) ?_) hO
     rintro v R h ⟨rfl,H⟩
     have h2':s.wr=false:=by simpa using h2
     refine ⟨_,rfl,⟨nxt,fun _=>⟨g',⟨id,q,da,dc,rfl,rfl,hq1,hq2⟩,D ++ [(id,q)],t',hD',hDn,rfl,wf',by rw [hs']; exact ht2,?_,?_⟩⟩,H⟩
     ·rw [hs']; show HP.ent _ (FM fb (putF s.first id s.n)); unfold putF; rw [hno]; exact .refl _
     ·rw [hs']; show HP.ent _ (FO fo (flg (s.tw || (s.first id).isSome) (s.nob || !begun (es.map DeedE.p) (id,q)) false (s.wr || ((s.first id).isNone && wrongS (es.map DeedE.p) id (ansOf s.T q))) false)); rw [← hNB,hrr]; rw [hno,h2',tF_wrong]; simp only [Option.isSome_none,Option.isNone_none,Bool.or_false,Bool.true_and,Bool.false_or]; exact .refl _
  ·have hbg:begun (es.map DeedE.p) (id,q)=true:=by
    cases hh:begun (es.map DeedE.p) (id,q) with
    | true=>rfl
    | false=>exact absurd (by rw [(bG_zero es (id,q)).2 hh]; rfl) h0
   have hNB:s.nob=(s.nob || !begun (es.map DeedE.p) (id,q)):=by rw [hbg]; simp
   refine ⟨_,_,(lookFM id).ent hF,⟨fun h1 => ?_,fun h1 => ?_⟩⟩
   ·refine OTri.preL ((foStore fo _ 1 (by show 1 < 6; decide) true).weak (fun _ _ h=>h) ?_) hO
    rintro v R h ⟨rfl,H⟩
    obtain ⟨j,hj⟩:=Option.isSome_iff_exists.1 h1
    refine ⟨_,rfl,⟨nxt,fun _=>⟨g',⟨id,q,da,dc,rfl,rfl,hq1,hq2⟩,D ++ [(id,q)],t',hD',hDn,rfl,wf',by rw [hs']; exact ht2,?_,?_⟩⟩,H⟩
    ·rw [hs']; show HP.ent _ (FM fb (putF s.first id s.n)); unfold putF; rw [hj]; exact hF
    ·rw [hs']; show HP.ent _ (FO fo (flg (s.tw || (s.first id).isSome) (s.nob || !begun (es.map DeedE.p) (id,q)) false (s.wr || ((s.first id).isNone && wrongS (es.map DeedE.p) id (ansOf s.T q))) false)); rw [← hNB,hrr]; rw [hj]; simp only [Option.isSome_some,Option.isNone_some,Bool.or_true,Bool.false_and,Bool.or_false]; exact .refl _
   ·have hno:s.first id=none:=by
     cases hh:s.first id with
     | none=>rfl
     | some j=>rw [hh] at h1; exact absurd rfl h1
    refine OTri.preL ((updF fb _ id s.n _ (by rw [hsn])).weak (fun _ _ h=>h) ?_) hF
    rintro v R h ⟨rfl,H⟩
    refine ⟨_,rfl,⟨s.wr,(foLoad fo _ 4 s.wr rfl).ent hO,⟨fun h2 => ?_,fun h2 => ?_⟩⟩,H⟩
    ·clear H
     refine OTri.preL ((foStore fo _ 4 (by show 4 < 6; decide) true).weak (fun _ _ h=>h) ?_) hO
     rintro v R h ⟨rfl,H⟩
     refine ⟨_,rfl,⟨nxt,fun _=>⟨g',⟨id,q,da,dc,rfl,rfl,hq1,hq2⟩,D ++ [(id,q)],t',hD',hDn,rfl,wf',by rw [hs']; exact ht2,?_,?_⟩⟩,H⟩
     ·rw [hs']; show HP.ent _ (FM fb (putF s.first id s.n)); unfold putF; rw [hno]; exact .refl _
     ·rw [hs']; show HP.ent _ (FO fo (flg (s.tw || (s.first id).isSome) (s.nob || !begun (es.map DeedE.p) (id,q)) false (s.wr || ((s.first id).isNone && wrongS (es.map DeedE.p) id (ansOf s.T q))) false)); rw [← hNB,hrr]; rw [hno,h2]; simp only [Option.isSome_none,Option.isNone_none,Bool.or_false,Bool.true_or]; exact .refl _
    ·clear H
     obtain ⟨ta,tc,hlk,har⟩:=tq.look id
     refine ⟨ta,_,tc,hlk,?_⟩
     refine (containsA_ok ta _ tc (tF es id) P1 har htl ab r da' dc' na' nc' _ _ (RdL.ow _ _ _ _ _ _) (RdL.ow _ _ _ _ _ _)).weak (fun _ _ h=>h) ?_
     rintro v R h ⟨rfl,H⟩
     refine ⟨_,rfl,?_,H⟩
     clear H
     refine OTri.preL ((foStore fo _ 4 (by show 4 < 6; decide) _).weak (fun _ _ h=>h) ?_) hO
     rintro v R h ⟨rfl,H⟩
     have h2':s.wr=false:=by simpa using h2
     refine ⟨_,rfl,⟨nxt,fun _=>⟨g',⟨id,q,da,dc,rfl,rfl,hq1,hq2⟩,D ++ [(id,q)],t',hD',hDn,rfl,wf',by rw [hs']; exact ht2,?_,?_⟩⟩,H⟩
     ·rw [hs']; show HP.ent _ (FM fb (putF s.first id s.n)); unfold putF; rw [hno]; exact .refl _
     ·rw [hs']; show HP.ent _ (FO fo (flg (s.tw || (s.first id).isSome) (s.nob || !begun (es.map DeedE.p) (id,q)) false (s.wr || ((s.first id).isNone && wrongS (es.map DeedE.p) id (ansOf s.T q))) false)); rw [← hNB,hrr]; rw [hno,h2',tF_wrong]; simp only [Option.isSome_none,Option.isNone_none,Bool.or_false,Bool.true_and,Bool.false_or]; exact .refl _
 ·rintro g rfl i Q1 Q2 Q3 ⟨D,t,hD,rfl,rfl,wf,ht,hF,hO⟩
  rw [List.append_nil] at hD
  rw [← hD] at hF hO
  clear hD ht wf
  have hfa:faultsS (es.map DeedE.p) (callsS ces)=flagsL (jrun (es.map DeedE.p) js0 (callsS ces)).tw (jrun (es.map DeedE.p) js0 (callsS ces)).nob (missS (jrun (es.map DeedE.p) js0 (callsS ces)).first (es.map DeedE.p)) (jrun (es.map DeedE.p) js0 (callsS ces)).wr (lateS (jrun (es.map DeedE.p) js0 (callsS ces)).first (es.map DeedE.p)):=rfl
  rw [hfa]
  clear hfa
  generalize jrun (es.map DeedE.p) js0 (callsS ces)=s at *
  refine OTri.preL (OTri.exI fun l=>OTri.exI fun lc => ?_) tq.ent
  refine OTri.fact (φ:=MapI l lc ∧ (∀ k,alFind k l=none ↔ tF es k=[]) ∧ ∀ y ∈ l,∃ a n c,y.2.1 = .slice a n c) (fun R h H=>⟨H.1.1,H.1.2,fun y hy=>by
   obtain ⟨a,c,e,_⟩:=sepN_mem (List.mem_map.2 ⟨y,hy,rfl⟩) (HP.sep_right H.2)
   exact ⟨a,_,c,e⟩⟩) fun ⟨hI,hfl,hsl⟩ => ?_
  have hm : ∀ R h,(TMl tr (tF es) l lc).p R h → h tr=some (mapObj idV l lc):=fun R h H=>HP.sep_left H.2
  have hms:missS s.first (es.map DeedE.p)=l.any fun y=>(s.first y.1).isNone:=by
   rw [Bool.eq_iff_iff]
   unfold missS
   rw [List.any_map,List.any_eq_true,List.any_eq_true]
   constructor
   ·rintro ⟨x,hx,h⟩
    simp only [Function.comp,Bool.and_eq_true] at h
    have h1 : ¬ alFind x.id l=none:=fun e=>by
     rw [hfl,tF_nil] at e
     exact e x hx ⟨h.1,rfl⟩
    have h2:(alFind x.id l).isSome=true:=by cases hh:alFind x.id l with | none=>exact absurd hh h1 | some _=>rfl
    obtain ⟨y,hy,e⟩:=List.mem_map.1 ((alFind_isSome _ _).1 h2)
    exact ⟨y,hy,by rw [e]; exact h.2⟩
   ·rintro ⟨y,hy,h⟩
    have h2:=(alFind_isSome y.1 l).2 (List.mem_map.2 ⟨y,hy,rfl⟩)
    have h1 : ¬ tF es y.1=[]:=fun e=>by rw [(hfl _).2 e] at h2; cases h2
    rw [tF_nil] at h1
    have : ∃ x ∈ es,okD x=true ∧ x.id=y.1:=Classical.byContradiction fun hn=>h1 fun x hx hh=>hn ⟨x,hx,hh⟩
    obtain ⟨x,hx,h3,h4⟩:=this
    refine ⟨x,hx,?_⟩
    simp only [Function.comp,Bool.and_eq_true]
    exact ⟨h3,by show (s.first x.id).isNone=true; rw [h4]; exact h⟩
  refine (rangA_ok (Q:=TMl tr (tF es) l lc) (enc:=idV) (l:=l) (c:=lc) undT hm).weak (fun _ _ h=>h) ?_
  rintro v R h ⟨it,rfl,H⟩
  let M:Array Nat → Bool:=fun S=>l.any fun y=>decide (y.2.2 ∈ S) && (s.first y.1).isNone
  let J:HP → HP → Nat → Prop:=fun Pi Pf N => ∃ S:Array Nat,Pi=HP.one it (.mapIter (some tr) lc S lc) ∧ HP.ent Pf (FO fo (flg s.tw s.nob (M S) s.wr false)) ∧ leftN l S=N
  have hM0:M #[]=false:=by show l.any _=false; rw [List.any_eq_false]; intro y _; simp
  refine ⟨it,HP.one it (.mapIter (some tr) lc #[] lc),TMl tr (tF es) l lc,rfl,⟨fun Pi Pf => ∃ N,J Pi Pf N,fun Pi Pf=>leastN (J Pi Pf),⟨_,#[],rfl,by rw [hM0]; exact hO,rfl⟩,?_⟩,H⟩
  clear H
  intro Pi Pf hJ
  have hJ':=leastN_spec hJ
  generalize hNe:leastN (J Pi Pf)=N at hJ'
  obtain ⟨S',rfl,hO2,hN⟩:=hJ'
  refine (nextA_ok (Q:=TMl tr (tF es) l lc) hI.2 hm).weak (fun _ _ h=>h) ?_
  rintro v R h ⟨e,he,H⟩
  rcases e with _ | y
  ·have hMe:M S'=missS s.first (es.map DeedE.p):=by
    rw [hms]
    show l.any _=l.any _
    rw [Bool.eq_iff_iff,List.any_eq_true,List.any_eq_true]
    exact ⟨fun ⟨y,hy,h⟩=>⟨y,hy,(Bool.and_eq_true_iff.1 h).2⟩,fun ⟨y,hy,h⟩=>⟨y,hy,Bool.and_eq_true_iff.2 ⟨decide_eq_true (he.2 y hy),h⟩⟩⟩
   rw [hMe] at hO2
   refine ⟨false,.tuple #[],.tuple #[],_,he.1,⟨fun h=>(by cases h),fun _ => ?_⟩,H⟩
   clear H
   refine (late_ok fb s.first Q2 (fun k=>(lookFM0 k).ent hF) (fun k=>(lookFM k).ent hF) a _ c es S dr (by omega)).weak (fun _ _ h=>h) ?_
   rintro v R h ⟨rfl,H⟩
   refine ⟨_,rfl,?_,H⟩
   clear H
   refine OTri.preL ((foStore fo _ 5 (by show 5 < 6; decide) (lateS s.first (es.map DeedE.p))).weak (fun _ _ h=>h) ?_) hO2
   rintro v R h ⟨rfl,H⟩
   refine ⟨_,rfl,?_,H⟩
   clear H
   refine ⟨false,s.tw,s.nob,missS s.first (es.map DeedE.p),s.wr,lateS s.first (es.map DeedE.p),foAll fo (flg s.tw s.nob (missS s.first (es.map DeedE.p)) s.wr (lateS s.first (es.map DeedE.p))) rfl,?_⟩
   generalize missS s.first (es.map DeedE.p)=ms
   generalize lateS s.first (es.map DeedE.p)=lt
   refine ⟨fun a1 n1 c1 P i => ∃ k:Nat,i=k ∧ k ≤ 6 ∧ n1=(flk (flg s.tw s.nob ms s.wr lt) k).length ∧ HP.ent P (OwI a1 n1 c1 (flk (flg s.tw s.nob ms s.wr lt) k)),fun _ _ _ _ i=>6 - i.toNat,⟨0,rfl,by omega,rfl,.of fun R h H=>OwC.nil _ _ R h⟩,?_⟩
   rintro a1 _ c1 P _ ⟨k,rfl,hk,rfl,hP⟩
   have hkl:=flk_len (flg s.tw s.nob ms s.wr lt) k
   have hks:=flk_succ (flg s.tw s.nob ms s.wr lt) k
   refine ⟨fun hlt => ?_,fun hge => ?_⟩
   ·obtain ⟨x,hx⟩ : ∃ x,(flg s.tw s.nob ms s.wr lt)[k]? = some x:=⟨_,List.getElem?_eq_getElem (show k < 6 by omega)⟩
    rw [hx,Option.getD_some] at hks
    have nxt:IntKind.i64.min ≤ (k:Int) + 1 ∧ (k:Int) + 1 ≤ IntKind.i64.max:=inI64D _ (by omega) (by omega)
    refine ⟨x,foIndex (by decide) (flg s.tw s.nob ms s.wr lt) rfl k x hx,⟨fun h1 q => ?_,fun h1=>⟨nxt,fun _=>⟨⟨k + 1,by omega,by omega,?_,?_⟩,by dsimp only; omega⟩⟩⟩⟩
    ·refine OTri.preL ((appendI a1 _ c1 (flk (flg s.tw s.nob ms s.wr lt) k) (HP.one q (.cells #[.int .i64 (k:Int)] 3 (0,0))) ⟨q,0,none⟩ 1 1 [(k:Int)] (one_rd q #[.int .i64 (k:Int)] 3) rfl (by omega)).weak (fun _ _ h=>h) ?_) (hP.sep _)
     rintro v R h ⟨a',c',rfl,H⟩
     rw [if_pos h1] at hks
     refine ⟨a',_,c',_,rfl,⟨nxt,fun _=>⟨⟨k + 1,by omega,by omega,?_,?_⟩,by dsimp only; omega⟩⟩,H⟩
     ·rw [hks]; simp
     ·rw [hks]; exact .refl _
    ·rw [hks,if_neg h1,List.append_nil]
    ·rw [hks,if_neg h1,List.append_nil]; exact hP
   ·obtain rfl:k=6:=by omega
    rw [flk_all] at hP
    rw [flk_all]
    refine ((HP.ent.refl Sc).sep2 ((HP.ent.refl S).sep2 hP)).trans (.of fun R h H=>⟨a1,c1,rfl,H⟩)
  ·obtain ⟨rfl,hyl,hyS⟩:=he
   obtain ⟨ya,yn,yc,hyv⟩:=hsl y hyl
   have hent:=entry_ok (enc:=idV) (it:=it) (m:=tr) (c:=lc) (S:=S') (x:=y) hI.2 hyl (A:=HP.sep (HP.one it (.mapIter (some tr) lc (nextI S' (some y)) lc)) (TMl tr (tF es) l lc)) (fun R h H=>HP.sep_left H) (fun R h H=>by
    obtain ⟨_,_,_,_,l2,_,b2⟩:=H
    exact l2 _ _ (hm _ _ b2))
   rw [hyv] at hent
   have hMp:M (S'.push y.2.2)=(M S' || (s.first y.1).isNone):=by
    show l.any _=(l.any _ || _)
    rw [Bool.eq_iff_iff,Bool.or_eq_true,List.any_eq_true,List.any_eq_true]
    constructor
    ·rintro ⟨z,hz,h⟩
     obtain ⟨h1,h2⟩:=Bool.and_eq_true_iff.1 h
     rcases stamp_push hI.2 hyl hz (of_decide_eq_true h1) with rfl | h3
     ·exact .inr h2
     ·exact .inl ⟨z,hz,Bool.and_eq_true_iff.2 ⟨decide_eq_true h3,h2⟩⟩
    ·rintro (⟨z,hz,h⟩ | h)
     ·obtain ⟨h1,h2⟩:=Bool.and_eq_true_iff.1 h
      exact ⟨z,hz,Bool.and_eq_true_iff.2 ⟨decide_eq_true (Array.mem_push.2 (.inl (of_decide_eq_true h1))),h2⟩⟩
     ·exact ⟨y,hyl,Bool.and_eq_true_iff.2 ⟨decide_eq_true (Array.mem_push.2 (.inr rfl)),h⟩⟩
   have hdec:leftN l (S'.push y.2.2) < N:=by rw [← hN]; exact leftN_push hyl hyS
   have hJ2 : ∀ P,HP.ent P (FO fo (flg s.tw s.nob (M (S'.push y.2.2)) s.wr false)) → (∃ N,J (HP.one it (.mapIter (some tr) lc (nextI S' (some y)) lc)) P N) ∧ leastN (J (HP.one it (.mapIter (some tr) lc (nextI S' (some y)) lc)) P) < leastN (J (HP.one it (.mapIter (some tr) lc S' lc)) Pf):=fun P hP=>by
    have hj:J (HP.one it (.mapIter (some tr) lc (nextI S' (some y)) lc)) P (leftN l (S'.push y.2.2)):=⟨S'.push y.2.2,rfl,hP,rfl⟩
    exact ⟨⟨_,hj⟩,Nat.lt_of_le_of_lt (leastN_le hj) (Nat.lt_of_lt_of_eq hdec hNe.symm)⟩
   refine ⟨true,idV y.1,y.2.1,_,rfl,⟨fun _=>⟨y.1.1,y.1.2.1,y.1.2.2,ya,yn,yc,hent,fun _=>⟨_,_,(lookFM y.1).ent hF,⟨fun h1 => ?_,fun h1 => ?_⟩⟩⟩,fun h=>absurd rfl h⟩,H⟩
   ·clear H
    refine OTri.preL ((foStore fo _ 3 (by show 3 < 6; decide) true).weak (fun _ _ h=>h) ?_) hO2
    rintro v R h ⟨rfl,H⟩
    refine ⟨_,rfl,hJ2 _ ?_,H⟩
    have:(s.first y.1).isNone=true:=by cases hh:s.first y.1 with | none=>rfl | some j=>rw [hh] at h1; exact absurd rfl h1
    rw [hMp,this,Bool.or_true]
    exact .refl _
   ·have:(s.first y.1).isNone=false:=by cases hh:s.first y.1 with | none=>rw [hh] at h1; cases h1 | some j=>rfl
    refine hJ2 _ ?_
    rw [hMp,this,Bool.or_false]
    exact hO2
end Go.Proofs.YtdieogcemmnaaaaGreatDoor

namespace Go.Proofs.YtdieogcemmnaaaaGreatDoor
open Go.Proofs.YtdieogcemmnaaaaGreatDoor RX
set_option maxRecDepth 100000
end Go.Proofs.YtdieogcemmnaaaaGreatDoor

namespace Go.Proofs.YtdieogcemmnaaaaGreatDoor.RX
set_option maxRecDepth 100000
-- tideline/tidelineref04.Right: ρ:=[.a la,.n ll,.n lc,.p lP]
end Go.Proofs.YtdieogcemmnaaaaGreatDoor.RX

namespace Go.Proofs.YtdieogcemmnaaaaGreatDoor
set_option linter.unusedSimpArgs false
set_option linter.unusedVariables false
open Go.Proofs.YtdieogcemmnaaaaGreatDoor RX
set_option maxRecDepth 100000
end Go.Proofs.YtdieogcemmnaaaaGreatDoor

namespace Go.Proofs.YtdieogcemmnaaaaGreatDoor.RX
set_option maxRecDepth 100000
-- tideline/tidelineref04.New: ρ:=[]
end Go.Proofs.YtdieogcemmnaaaaGreatDoor.RX

namespace Go.Proofs.YtdieogcemmnaaaaGreatDoor
open Go.Proofs.YtdieogcemmnaaaaGreatDoor RX
set_option maxRecDepth 100000
def nd0:Nd:=⟨0,0,0,[],[]⟩
def ne0:NodeE:=⟨nd0,none,0,none,0⟩
def upd (g:Nat → NodeE) (i:Nat) (x:NodeE) (j:Nat):NodeE:=if j=i then x else g j
def ndF (T:List Nd) (i:Nat):Nd:=(nodeAt T i).getD nd0
def Rp (g:Nat → NodeE) (T:List Nd):Prop := ∀ i,i < 64 → (g i).nd=ndF T i
end Go.Proofs.YtdieogcemmnaaaaGreatDoor

namespace Go.Proofs.YtdieogcemmnaaaaGreatDoor
set_option linter.unusedSimpArgs false
set_option linter.unusedVariables false
open Go.Proofs.YtdieogcemmnaaaaGreatDoor RX
set_option maxRecDepth 100000
end Go.Proofs.YtdieogcemmnaaaaGreatDoor

namespace Go.Proofs.YtdieogcemmnaaaaGreatDoor
set_option linter.unusedSimpArgs false
set_option linter.unusedVariables false
open Go.Proofs.YtdieogcemmnaaaaGreatDoor RX
set_option maxRecDepth 100000
end Go.Proofs.YtdieogcemmnaaaaGreatDoor

namespace Go.Proofs.YtdieogcemmnaaaaGreatDoor
set_option linter.unusedSimpArgs false
set_option linter.unusedVariables false
open Go.Proofs.YtdieogcemmnaaaaGreatDoor RX
set_option maxRecDepth 100000
end Go.Proofs.YtdieogcemmnaaaaGreatDoor

namespace Go.Proofs.YtdieogcemmnaaaaGreatDoor
set_option linter.unusedSimpArgs false
set_option linter.unusedVariables false
open Go.Proofs.YtdieogcemmnaaaaGreatDoor RX
set_option maxRecDepth 100000
theorem filter_lt {T:List Nd} (hs:(T.map (·.num)).Pairwise (· < ·)) (k:Nat):T.filter (fun n=>decide (n.num < k + 1))=T.filter (fun n=>decide (n.num < k)) ++ T.filter (fun n=>decide (n.num=k)):=by
 induction T with
 | nil=>rfl
 | cons z r ih =>
  rw [List.map_cons,List.pairwise_cons] at hs
  have ih:=ih hs.2
  rw [List.filter_cons,List.filter_cons,List.filter_cons]
  have hz : ∀ n ∈ r,z.num < n.num:=fun n hn=>hs.1 _ (List.mem_map.2 ⟨n,hn,rfl⟩)
  by_cases h1:z.num < k
  ·have : ¬ z.num=k:=by omega
   simp [h1,this,ih,show z.num < k + 1 by omega]
  ·by_cases h2:z.num=k
   ·have e1:r.filter (fun n=>decide (n.num < k))=[]:=List.filter_eq_nil_iff.2 fun n hn=>by have:=hz n hn; simp; omega
    simp only [h2,show k < k + 1 by omega,decide_true,if_true,show ¬ k < k by omega,decide_false,Bool.false_eq_true,if_false]
    rw [ih,e1]; simp
   ·have e1:r.filter (fun n=>decide (n.num < k))=[]:=List.filter_eq_nil_iff.2 fun n hn=>by have:=hz n hn; simp; omega
    have e2:r.filter (fun n=>decide (n.num=k))=[]:=List.filter_eq_nil_iff.2 fun n hn=>by have:=hz n hn; simp; omega
    have e3 : ¬ z.num < k + 1:=by omega
    simp only [h1,h2,e3,decide_false,Bool.false_eq_true,if_false]
    rw [ih,e1,e2]
def g0 (i:Nat):NodeE:=if i=0 then ⟨⟨0,1,1,[],[]⟩,none,0,none,0⟩ else ne0
end Go.Proofs.YtdieogcemmnaaaaGreatDoor

namespace Go.Proofs.YtdieogcemmnaaaaGreatDoor.RX
set_option maxRecDepth 100000
-- (*tideline/tidelineref04.Tree).do: ρ:=[.n t,.p tP,.i c_Kind,.s c_Path,.s c_Other,.i c_Off,.i c_N,.a c_Dataa,.n c_Datal,.n c_Datac,.p c_DataP]
end Go.Proofs.YtdieogcemmnaaaaGreatDoor.RX

namespace Go.Proofs.YtdieogcemmnaaaaGreatDoor
set_option linter.unusedSimpArgs false
set_option linter.unusedVariables false
open Go.Proofs.YtdieogcemmnaaaaGreatDoor RX
set_option maxRecDepth 100000
variable {B b:Nat} {g:Nat → NodeE} {NS:List Nd} {path other:Nm} {off n:Int} {S:HP} {da:Option Addr} {dl dc:Nat} {d:List UInt8}
theorem kinds (wf:TWf B NS) {i:Nat} {x:Nd} (hx:nodeAt NS i=some x):(x.kind=1 ∧ x.data=[] ∧ x.links=1) ∨ (x.kind=2 ∧ x.ents=[] ∧ ¬ x.kind=1):=by
 rcases (wf.at' hx).1.kind with ⟨h1,h2,h3⟩ | ⟨h1,h2⟩
 ·exact .inl ⟨h1,h2,h3⟩
 ·exact .inr ⟨h1,h2,by omega⟩
end Go.Proofs.YtdieogcemmnaaaaGreatDoor

namespace Go.Proofs.YtdieogcemmnaaaaGreatDoor
set_option linter.unusedSimpArgs false
set_option linter.unusedVariables false
open Go.Proofs.YtdieogcemmnaaaaGreatDoor RX
set_option maxRecDepth 100000
variable {B b:Nat} {g:Nat → NodeE} {NS:List Nd} {path other:Nm} {off n:Int} {S:HP} {da:Option Addr} {dl dc:Nat} {d:List UInt8}
end Go.Proofs.YtdieogcemmnaaaaGreatDoor

namespace Go.Proofs.YtdieogcemmnaaaaGreatDoor
open Go.Proofs.YtdieogcemmnaaaaGreatDoor RX
set_option maxRecDepth 100000
theorem four (l:List UInt8) (k:Nat):l.take (256 * k) ++ (l.drop (256 * k)).take 256=l.take (256 * (k + 1)):=by
 rw [Nat.mul_add,Nat.mul_one,List.take_add]
end Go.Proofs.YtdieogcemmnaaaaGreatDoor

namespace Go.Proofs.YtdieogcemmnaaaaGreatDoor
set_option linter.unusedSimpArgs false
set_option linter.unusedVariables false
open Go.Proofs.YtdieogcemmnaaaaGreatDoor RX
set_option maxRecDepth 100000
variable {B b:Nat} {g:Nat → NodeE} {NS:List Nd} {path other:Nm} {off n:Int} {S:HP} {da:Option Addr} {dl dc:Nat} {d:List UInt8}
end Go.Proofs.YtdieogcemmnaaaaGreatDoor

namespace Go.Proofs.YtdieogcemmnaaaaGreatDoor
open Go.Proofs.YtdieogcemmnaaaaGreatDoor RX
set_option maxRecDepth 100000
def linksOf (T:List Nd):Int:=(T.map fun n=>n.links).sum
end Go.Proofs.YtdieogcemmnaaaaGreatDoor

namespace Go.Proofs.YtdieogcemmnaaaaGreatDoor
set_option linter.unusedSimpArgs false
set_option linter.unusedVariables false
open Go.Proofs.YtdieogcemmnaaaaGreatDoor RX
set_option maxRecDepth 100000
end Go.Proofs.YtdieogcemmnaaaaGreatDoor

namespace Go.Proofs.YtdieogcemmnaaaaGreatDoor.RX
set_option maxRecDepth 100000
-- tideline/tidelinelaw04.TreeRenames: ρ:=[.a callsa,.n callsl,.n callsc,.p callsP,.s from,.s to]
end Go.Proofs.YtdieogcemmnaaaaGreatDoor.RX

namespace Go.Proofs.YtdieogcemmnaaaaGreatDoor
set_option linter.unusedSimpArgs false
set_option linter.unusedVariables false
open Go.Proofs.YtdieogcemmnaaaaGreatDoor RX
set_option maxRecDepth 100000
end Go.Proofs.YtdieogcemmnaaaaGreatDoor

namespace Go.Proofs.YtdieogcemmnaaaaGreatDoor
open Go.Proofs.YtdieogcemmnaaaaGreatDoor RX
set_option maxRecDepth 100000
end Go.Proofs.YtdieogcemmnaaaaGreatDoor

namespace Go.Proofs.YtdieogcemmnaaaaGreatDoor.RX
set_option maxRecDepth 100000
-- tideline/tidelinelaw04.TreeCalls: ρ:=[.a callsa,.n callsl,.n callsc,.p callsP]
end Go.Proofs.YtdieogcemmnaaaaGreatDoor.RX

namespace Go.Proofs.YtdieogcemmnaaaaGreatDoor
set_option linter.unusedSimpArgs false
set_option linter.unusedVariables false
open Go.Proofs.YtdieogcemmnaaaaGreatDoor RX
set_option maxRecDepth 100000
end Go.Proofs.YtdieogcemmnaaaaGreatDoor

namespace Go.Proofs.YtdieogcemmnaaaaGreatDoor.RX
set_option maxRecDepth 100000
-- tideline/tidelineref11.SameInts: ρ:=[.a aa,.n al,.n ac,.p aP,.a ba,.n bl,.n bc,.p bP]
def t_sameInts11:T :=
(.br (.o1 .not (.o2 .eq (.o1 .ofNat (.v 1)) (.o1 .ofNat (.v 5))))
(.ret (.w (.a (.bool (.c false)))) [(.a 0,.prop 3),(.a 4,.prop 7)])
(.loop [.c,.i] [.e (.o1 .not (.o1 .not (.c false))),.e (.o1 .neg (.o1 .neg (.i 0)))]
(.br (.o2 .lt (.v 9) (.o1 .ofNat (.v 1)))
(.need (.o2 .le (.i 0) (.v 9))
(.need (.o1 .isSome (.v 0))
(.read (.load 3 (.tmp 19)) 3 [(19,.w (.a (.eptr 0 (.v 9) 1 0)))] [(.a 0,.prop 3)] [.i] (.w (.a (.int .i64 (.v 10))))
(.need (.o2 .lt (.v 9) (.o1 .ofNat (.v 5)))
(.need (.o1 .isSome (.v 4))
(.read (.load 3 (.tmp 23)) 3 [(23,.w (.a (.eptr 4 (.v 9) 1 0)))] [(.a 4,.prop 7)] [.i] (.w (.a (.int .i64 (.v 11))))
(.br (.o1 .not (.o2 .eq (.v 10) (.v 11)))
(.ret (.w (.a (.bool (.c false)))) [(.a 0,.prop 3),(.a 4,.prop 7)])
(.need (.o1 (.inr .i64) (.o2 .add (.v 9) (.i 1)))
(.again 0 [.e (.o1 .not (.o1 .not (.v 8))),.e (.o1 .neg (.o1 .neg (.o2 .add (.v 9) (.i 1))))])))))))))
(.ret (.w (.a (.bool (.c true)))) [(.a 0,.prop 3),(.a 4,.prop 7)]))))
theorem tree_sameInts11:tree Tryz.prog { absT:=[142,144],keep:=[16,47,48,24,20,49,46,39,50],turn:=[(23,[0])],rdf:=true } Tryz.f49 [.a (.sl (.v 0) (.v 1) (.v 2)),.a (.sl (.v 4) (.v 5) (.v 6))] [(.a 0,.prop 3),(.a 4,.prop 7)] 8=t_sameInts11:=by kernel_rfl
def t_speaks21:T :=
(.new
(.call 47 [.a (.sl .nil (.n 0) (.n 0)),.a (.sl (.b (.v 0) 0) (.n 1) (.n 1))] [(.b (.v 0),.cells [.int .i64 (.i 0),.int .i64 (.i 0),.int .i64 (.i 0),.int .i64 (.i 0),.str (.s []),.str (.s []),.int .i64 (.i 0),.int .i64 (.i 0),.sl .nil (.n 0) (.n 0),.int .i64 (.i 0),.int .i64 (.i 3),.int .i64 (.i 0),.int .i64 (.i 0),.int .i64 (.i 0),.int .i64 (.i 0),.sl .nil (.n 0) (.n 0),.sl .nil (.n 0) (.n 0)] 88)] [.a,.n,.n,.p] (.w (.a (.sl (.v 1) (.v 2) (.v 3)))) [(.a 1,.prop 4),(.b (.v 0),.cells [.int .i64 (.i 0),.int .i64 (.i 0),.int .i64 (.i 0),.int .i64 (.i 0),.str (.s []),.str (.s []),.int .i64 (.i 0),.int .i64 (.i 0),.sl .nil (.n 0) (.n 0),.int .i64 (.i 0),.int .i64 (.i 3),.int .i64 (.i 0),.int .i64 (.i 0),.int .i64 (.i 0),.int .i64 (.i 0),.sl .nil (.n 0) (.n 0),.sl .nil (.n 0) (.n 0)] 88)]
(.new
(.call 49 [.a (.sl (.v 1) (.v 2) (.v 3)),.a (.sl (.b (.v 5) 0) (.n 1) (.n 1))] [(.a 1,.prop 4),(.b (.v 5),.cells [.int .i64 (.i 3)] 3)] [.c] (.w (.a (.bool (.v 6)))) [(.a 1,.prop 4),(.b (.v 5),.cells [.int .i64 (.i 3)] 3)]
(.br (.v 6)
(.call 48 [.a (.sl .nil (.n 0) (.n 0))] [] [.a,.n,.n,.p] (.w (.a (.sl (.v 7) (.v 8) (.v 9)))) [(.a 7,.prop 10)]
(.ret (.w (.a (.bool (.o2 .eq (.o1 .ofNat (.v 8)) (.i 1))))) []))
(.ret (.w (.a (.bool (.c false)))) []))))))
theorem tree_speaks21:tree Tryz.prog { absT:=[142,144],keep:=[16,47,48,24,20,49,46,39,50],turn:=[(23,[0])],rdf:=true } Tryz.f45 [] [] 0=t_speaks21:=by kernel_rfl
end Go.Proofs.YtdieogcemmnaaaaGreatDoor.RX

namespace Go.Proofs.YtdieogcemmnaaaaGreatDoor
set_option linter.unusedSimpArgs false
set_option linter.unusedVariables false
open Go.Proofs.YtdieogcemmnaaaaGreatDoor RX
set_option maxRecDepth 100000
theorem sameInts11_ok (a:Option Addr) (n c:Nat) (la:List Int) (b:Option Addr) (m d:Nat) (lb:List Int) (Sa Sb:HP) (hA:RdL Sa a n (la.map i64v)) (hB:RdL Sb b m (lb.map i64v)) (hla:la.length=n) (hlb:lb.length=m) (hn:n ≤ 1000000) :
  Tri Tryz.prog 49 #[.slice a n c,.slice b m d] (HP.sep Sa Sb) (fun v=>HP.and (v = .bool (decide (la=lb))) (HP.sep Sa Sb)):=by
 refine Tri.fact (φ:=(n ≠ 0 → a.isSome=true) ∧ (m ≠ 0 → b.isSome=true)) (fun R h H=>⟨hA.isSome (HP.sep_left H),hB.isSome (HP.sep_right H)⟩) fun ⟨ha,hb⟩ => ?_
 refine tri_of_tree (ρ:=[.a a,.n n,.n c,.p Sa,.a b,.n m,.n d,.p Sb]) mixed Tryz.func49 tree_sameInts11 ?_
 unfold t_sameInts11
 simp only [T.den,E.prop,E.den,RX.look,F1.app,F2.app,Uni.int_i,Uni.nat_n,Uni.bool_c,Uni.str_s,Uni.adr_a,Uni.val_v,Uni.hp_p,hden,cden,V.den,W.den,A.den,BR.den,SA.den,FV.den,capV,exs,exP,allP,Cur.app,List.map_cons,List.map_nil,List.cons_append,List.nil_append,List.drop_succ_cons,List.drop_zero,List.length_cons,List.length_nil,Nat.zero_add,Nat.reduceAdd,Int.neg_neg,Bool.not_not,List.append_nil,Nat.add_zero,List.getElem?_cons_zero,List.getElem?_cons_succ,Decidable.not_not,semW_eq,semW_load,ne_eq,Nat.reduceEqDiff,not_false_eq_true]
 refine ⟨fun h => .of fun R h' H=>⟨?_,H⟩,fun h => ?_⟩
 ·rw [decide_eq_false]
  intro e; subst e; omega
 have hnm:n=m:=by omega
 subst hnm
 refine ⟨fun _ i => ∃ k:Nat,i=k ∧ k ≤ n ∧ la.take k=lb.take k,fun _ i=>n - i.toNat,⟨0,rfl,Nat.zero_le _,rfl⟩,?_⟩
 rintro x _ ⟨k,rfl,hk,hpre⟩
 refine ⟨fun hlt=>⟨by omega,fun _=>⟨ha (by omega),fun _ => ?_⟩⟩,fun hge => .of fun R h' H=>⟨?_,H⟩⟩
 ·obtain ⟨x,hx⟩:=getN (l:=la) (k:=k) (by omega)
  obtain ⟨y,hy⟩:=getN (l:=lb) (k:=k) (by omega)
  have ra:ORead Tryz.prog (loadS 3 (.pointer (a.map fun y=>(y.add (k * 1)).add 0))) Sa (.int .i64 x):=load1_ok undIb aggI szI hA.rd (k:=k * 1) (off:=0) (by simp [hx,i64v])
  have rb:ORead Tryz.prog (loadS 3 (.pointer (b.map fun y=>(y.add (k * 1)).add 0))) Sb (.int .i64 y):=load1_ok undIb aggI szI hB.rd (k:=k * 1) (off:=0) (by simp [hy,i64v])
  refine ⟨x,ra,by omega,fun _=>⟨hb (by omega),fun _=>⟨y,rb,fun h1 => .of fun R h' H=>⟨?_,H⟩,fun h1=>⟨inI64D _ (by omega) (by omega),fun _=>⟨⟨k + 1,by omega,by omega,take_eq hx hy hpre (by simpa using h1)⟩,by dsimp only; omega⟩⟩⟩⟩⟩
  rw [decide_eq_false (get_ne hx hy h1)]
 ·have hke:k=n:=by omega
  subst hke
  rw [List.take_of_length_le (by omega),List.take_of_length_le (by omega)] at hpre
  rw [decide_eq_true hpre]
theorem one_int (b:Nat) (x:Int):RdL (HP.one b (.cells #[.int .i64 x] 3 (0,0))) (some ⟨b,0,none⟩) 1 ([x].map i64v):=⟨one_rd b #[.int .i64 x] 3,fun _ _ _ h=>by cases h⟩
def DeedE.hp (x:DeedE):HP:=HP.and (x.ans.names.length ≤ 1000000) (HP.both (RoB x.ca x.call.data.length x.call.data) (HP.both (RoB x.da x.ans.data.length x.ans.data) (RoS x.na x.ans.names.length x.ans.names)))
def kDeedP:PK DeedE where
 e:=88
 n:=17
 pos:=by decide
 vals:=DeedE.vals
 len:=DeedE.len
 one:=DeedE.one
 rep:=DeedE.hp
theorem deedAt {a:Option Addr} {n c:Nat} {es:List DeedE} {x:DeedE} (hx:x ∈ es) {R h:PH} (H:(PL kDeedP a n c es).p R h):x.hp.p R h:=sepN_mem (List.mem_map.2 ⟨x,hx,rfl⟩) (HP.sep_right H.2)
theorem DeedRd.pl {a:Option Addr} {n c:Nat} {es:List DeedE} (hl:es.length=n) (ha:n ≠ 0 → a.isSome=true) (hb : ∀ x ∈ es,x.ans.names.length ≤ 1000000):DeedRd (PL kDeedP a n c es) a n es where
 len:=hl
 is:=ha
 rd:=PL.rd (K:=kDeedP) a n c es
 cd x hx:=rdImp fun R h H=>(deedAt hx H).2.1
 ar x hx R h H:=⟨(deedAt hx H).2.2.1,(deedAt hx H).2.2.2⟩
 nb:=hb
theorem CellRd.pl {a:Option Addr} {n c:Nat} {es:List CellE} (hl:es.length=n) (ha:n ≠ 0 → a.isSome=true) (hb : ∀ x ∈ es,x.data.length ≤ x.dc ∧ (x.data.length ≠ 0 → x.da.isSome=true)):CellRd (PL kCellP a n c es) a n es where
 len:=hl
 is:=ha
 ld k x hx:=ldCellP hx
 rd x hx:=rdImp fun R h H=>(cellAt hx H).2
 le:=hb
theorem checkPL (ca:Option Addr) (cn cc:Nat) (ces:List CellE) (hcn:cn ≤ 1000) (a:Option Addr) (n c:Nat) (es:List DeedE) (hn:n ≤ 1000) (l:List Int) (hl:faultsS (es.map DeedE.p) (callsS ces)=l) :
  Tri Tryz.prog 47 #[.slice ca cn cc,.slice a n c] (HP.sep (PL kCellP ca cn cc ces) (PL kDeedP a n c es))
   (fun v=>HP.ex fun a'=>HP.ex fun c'=>HP.and (v = .slice a' l.length c') (HP.sep (OwI a' l.length c' l) (HP.sep (PL kCellP ca cn cc ces) (PL kDeedP a n c es)))):=by
 subst hl
 refine Tri.fact (φ:=(ces.length=cn ∧ (cn ≠ 0 → ca.isSome=true) ∧ ∀ x ∈ ces,x.data.length ≤ x.dc ∧ (x.data.length ≠ 0 → x.da.isSome=true)) ∧ es.length=n ∧ (n ≠ 0 → a.isSome=true) ∧ ∀ x ∈ es,x.ans.names.length ≤ 1000000)
  (fun R h H=>⟨⟨PL.len (HP.sep_left H),PL.isAt (HP.sep_left H),fun x hx=>(cellAt hx (HP.sep_left H)).1⟩,PL.len (HP.sep_right H),PL.isAt (HP.sep_right H),fun x hx=>(deedAt hx (HP.sep_right H)).1⟩) fun ⟨⟨h1,h2,h3⟩,h4,h5,h6⟩ => ?_
 refine (check_ok ca cn cc ces _ (CellRd.pl h1 h2 h3) hcn a n c es _ (DeedRd.pl h4 h5 h6) hn).weak (fun _ _ h=>h) ?_
 rintro v R h ⟨a',c',e,H⟩
 exact ⟨a',c',e,HP.pick [_,_,_] [2,0,1] (by decide) rfl H⟩
theorem one_of_ow {e:TypeId} {b n:Nat} {xs:List Value} (hl:xs.length=n) {R h:PH} (H:(OwC e n (some ⟨b,0,none⟩) 1 1 xs).p R h):(HP.one b (.cells xs.toArray e (0,0))).p R h:=by
 rcases H.2 with ⟨h0,_⟩ | ⟨g,cur,e1,hg,_,_,q3,q4⟩
 ·cases h0
 ·cases e1
  show h b=_
  rw [hg]
  have:cur.toList=xs:=by rw [← q4,List.take_of_length_le (by rw [Array.length_toList,q3]; omega)]
  rw [← this]
theorem speaks21_ok:Tri Tryz.prog 45 #[] HP.tt (fun v=>HP.pure (v = .bool true)):=by
 refine tri_of_tree (ρ:=[]) mixed Tryz.func45 tree_speaks21 ?_
 unfold t_speaks21
 simp only [T.den,E.prop,E.den,RX.look,F1.app,F2.app,Uni.int_i,Uni.nat_n,Uni.bool_c,Uni.str_s,Uni.adr_a,Uni.val_v,Uni.hp_p,hden,cden,V.den,W.den,A.den,BR.den,SA.den,FV.den,capV,exs,exP,allP,Cur.app,List.map_cons,List.map_nil,List.cons_append,List.nil_append,List.drop_succ_cons,List.drop_zero,List.length_cons,List.length_nil,Nat.zero_add,Nat.reduceAdd,Int.neg_neg,Bool.not_not,List.append_nil,Nat.add_zero,List.getElem?_cons_zero,List.getElem?_cons_succ,Decidable.not_not,semW_eq,ne_eq,Nat.reduceEqDiff,not_false_eq_true]
 intro b
 let x:DeedE:=⟨(0,0,0),⟨0,[],[],0,0,[]⟩,none,0,0,3,⟨0,0,0,0,[],[]⟩,none,0,none,0⟩
 have e:faultsS [x.p] (callsS [])=[3]:=by
  have hl:lateS (jrun [x.p] js0 (callsS [])).first [x.p]=false:=by
   unfold lateS
   rw [@decide_eq_false_iff_not _ (Classical.propDecidable _)]
   rintro ⟨d,_,e,_,i,j,h,_⟩
   cases h
  unfold faultsS
  rw [hl]
  rfl
 refine (checkPL none 0 0 [] (by omega) (some ⟨b,0,none⟩) 1 1 [x] (by omega) [3] e).weak (fun R h H => ?_) ?_
 ·refine HP.sep_mono (HP.tt_sep H) (fun y _=>⟨rfl,HP.sep_tt (OwC.nil _ _ R y)⟩) fun y hy => ?_
  refine PL.lit (K:=kDeedP) b [x] (by decide) (HP.sep_mono (HP.sep_tt hy) (fun _ h=>h) fun z _ => ?_)
  exact ⟨by show (0:Nat) ≤ 1000000; omega,RoC.nil _ _ R z,RoC.nil _ _ R z,RoC.nil _ _ R z⟩
 rintro v R h ⟨a',c',rfl,H⟩
 refine ⟨a',1,c',OwI a' 1 c' [3],rfl,fun y => ?_,HP.sep_mono H (fun _ h=>h) fun z hz=>one_of_ow (n:=17) rfl (HP.sep_left (HP.sep_right hz).2)⟩
 clear H
 refine (sameInts11_ok a' 1 c' [3] (some ⟨y,0,none⟩) 1 1 [3] _ _ (RdL.ow _ _ _ _ _ _) (one_int y 3) rfl rfl (by omega)).weak (fun _ _ h=>h) ?_
 rintro v R h ⟨rfl,H⟩
 refine ⟨true,rfl,⟨fun _ => ?_,fun h=>absurd rfl h⟩,H⟩
 clear H
 refine (jNodes_ok none 0 0 [] HP.tt ⟨rfl,fun h=>absurd rfl h,fun k x h=>(by simp at h),fun x h=>(by cases h),fun x h=>(by cases h)⟩ (by omega)).weak (fun _ _ h=>h) ?_
 rintro v R h ⟨a2,c2,rfl,H⟩
 exact ⟨a2,_,c2,_,rfl,.of fun _ _ _=>rfl,HP.sep_right H⟩
end Go.Proofs.YtdieogcemmnaaaaGreatDoor

namespace Go.Proofs.YtdieogcemmnaaaaGreatDoor.RX
set_option maxRecDepth 100000
-- tideline/tidelineref09.Encode: ρ:=[.i p_Kind,.i p_N,.i p_Ballot_Round,.i p_Ballot_Who,.a p_Bytesa,.n p_Bytesl,.n p_Bytesc,.p p_BytesP]
def t_q9Encode:T :=
(.new
(.new
(.call 102 [.a (.sl (.b (.v 9) 0) (.n 1) (.n 1)),.a (.int .u64 (.o1 (.wrap .u64) (.v 1))),.a (.int .i64 (.i 8))] [(.b (.v 9),.cells [.int .u8 (.o1 (.wrap .u8) (.v 0))] 5)] [.a,.n,.n,.p,.p] (.w (.a (.sl (.v 10) (.v 11) (.v 12)))) [(.a 10,.prop 13),(.b (.v 9),.prop 14)]
(.br (.o2 .le (.i 5) (.v 0))
(.call 102 [.a (.sl (.v 10) (.v 11) (.v 12)),.a (.int .u64 (.o1 (.wrap .u64) (.v 2))),.a (.int .i64 (.i 8))] [(.a 10,.prop 13)] [.a,.n,.n,.p,.p] (.w (.a (.sl (.v 15) (.v 16) (.v 17)))) [(.a 15,.prop 18),(.a 10,.prop 19)]
(.call 102 [.a (.sl (.v 15) (.v 16) (.v 17)),.a (.int .u64 (.o1 (.wrap .u64) (.v 3))),.a (.int .i64 (.i 8))] [(.a 15,.prop 18)] [.a,.n,.n,.p,.p] (.w (.a (.sl (.v 20) (.v 21) (.v 22)))) [(.a 20,.prop 23),(.a 15,.prop 24)]
(.br (.o2 .eq (.v 0) (.i 1))
(.call 104 [.a (.sl (.v 20) (.v 21) (.v 22)),.a (.sl (.v 4) (.v 5) (.v 6))] [(.a 20,.prop 23),(.a 4,.prop 7)] [.a,.n,.n,.p,.p] (.w (.a (.sl (.v 25) (.v 26) (.v 27)))) [(.a 25,.prop 28),(.a 20,.prop 29),(.a 4,.prop 7)]
(.ret (.w (.a (.sl (.v 25) (.v 26) (.v 27)))) [(.a 4,.prop 7),(.a 25,.prop 28)]))
(.br (.o2 .eq (.v 0) (.i 6))
(.call 104 [.a (.sl (.v 20) (.v 21) (.v 22)),.a (.sl (.v 4) (.v 5) (.v 6))] [(.a 20,.prop 23),(.a 4,.prop 7)] [.a,.n,.n,.p,.p] (.w (.a (.sl (.v 25) (.v 26) (.v 27)))) [(.a 25,.prop 28),(.a 20,.prop 29),(.a 4,.prop 7)]
(.ret (.w (.a (.sl (.v 25) (.v 26) (.v 27)))) [(.a 4,.prop 7),(.a 25,.prop 28)]))
(.ret (.w (.a (.sl (.v 20) (.v 21) (.v 22)))) [(.a 4,.prop 7),(.a 20,.prop 23)])))))
(.br (.o2 .eq (.v 0) (.i 1))
(.call 104 [.a (.sl (.v 10) (.v 11) (.v 12)),.a (.sl (.v 4) (.v 5) (.v 6))] [(.a 10,.prop 13),(.a 4,.prop 7)] [.a,.n,.n,.p,.p] (.w (.a (.sl (.v 15) (.v 16) (.v 17)))) [(.a 15,.prop 18),(.a 10,.prop 19),(.a 4,.prop 7)]
(.ret (.w (.a (.sl (.v 15) (.v 16) (.v 17)))) [(.a 4,.prop 7),(.a 15,.prop 18)]))
(.br (.o2 .eq (.v 0) (.i 6))
(.call 104 [.a (.sl (.v 10) (.v 11) (.v 12)),.a (.sl (.v 4) (.v 5) (.v 6))] [(.a 10,.prop 13),(.a 4,.prop 7)] [.a,.n,.n,.p,.p] (.w (.a (.sl (.v 15) (.v 16) (.v 17)))) [(.a 15,.prop 18),(.a 10,.prop 19),(.a 4,.prop 7)]
(.ret (.w (.a (.sl (.v 15) (.v 16) (.v 17)))) [(.a 4,.prop 7),(.a 15,.prop 18)]))
(.ret (.w (.a (.sl (.v 10) (.v 11) (.v 12)))) [(.a 4,.prop 7),(.a 10,.prop 13)])))))))
theorem tree_q9Encode:tree Tryz.prog { absT:=[5],keep:=[117,59,58,57,187,188,30,122,56],turn:=[(104,[0])],rdf:=true } Tryz.f52 [.agg [.int .i64 (.v 0),.int .i64 (.v 1),.int .i64 (.v 2),.int .i64 (.v 3),.sl (.v 4) (.v 5) (.v 6)]] [(.a 4,.prop 7)] 8=t_q9Encode:=by kernel_rfl
def t_q9Decode:T :=
(.new
(.new
(.call 95 [.a (.ptr (.v 5) 0),.a (.int .i64 (.i 1))] [(.b (.v 5),.cells [.sl (.v 0) (.v 1) (.v 2),.int .i64 (.i 0),.bool (.c false)] 171),(.a 0,.prop 3)] [.i,.p] (.w (.a (.int .u64 (.v 6)))) [(.b (.v 5),.prop 7)]
(.new
(.call 95 [.a (.ptr (.v 5) 0),.a (.int .i64 (.i 8))] [(.b (.v 5),.prop 7)] [.i,.p] (.w (.a (.int .u64 (.v 9)))) [(.b (.v 5),.prop 10)]
(.br (.o2 .lt (.o1 (.wrap .i64) (.v 6)) (.i 1))
(.ret (.tup [.agg [.int .i64 (.i 0),.int .i64 (.i 0),.int .i64 (.i 0),.int .i64 (.i 0),.sl .nil (.n 0) (.n 0)],.a (.bool (.c false))]) [])
(.br (.o2 .lt (.i 6) (.o1 (.wrap .i64) (.v 6)))
(.ret (.tup [.agg [.int .i64 (.i 0),.int .i64 (.i 0),.int .i64 (.i 0),.int .i64 (.i 0),.sl .nil (.n 0) (.n 0)],.a (.bool (.c false))]) [])
(.br (.o2 .le (.i 5) (.o1 (.wrap .i64) (.v 6)))
(.call 95 [.a (.ptr (.v 5) 0),.a (.int .i64 (.i 8))] [(.b (.v 5),.prop 10)] [.i,.p] (.w (.a (.int .u64 (.v 11)))) [(.b (.v 5),.prop 12)]
(.call 95 [.a (.ptr (.v 5) 0),.a (.int .i64 (.i 8))] [(.b (.v 5),.prop 12)] [.i,.p] (.w (.a (.int .u64 (.v 13)))) [(.b (.v 5),.prop 14)]
(.br (.o2 .eq (.o1 (.wrap .i64) (.v 6)) (.i 1))
(.call 96 [.a (.ptr (.v 5) 0),.a (.int .i64 (.i 65536))] [(.b (.v 5),.prop 14)] [.a,.n,.n,.p,.p] (.w (.a (.sl (.v 15) (.v 16) (.v 17)))) [(.a 15,.prop 18),(.b (.v 5),.prop 19)]
(.br (.o2 .eq (.o1 (.wrap .i64) (.v 6)) (.i 6))
(.call 96 [.a (.ptr (.v 5) 0),.a (.int .i64 (.i 1000))] [(.b (.v 5),.prop 19)] [.a,.n,.n,.p,.p] (.w (.a (.sl (.v 20) (.v 21) (.v 22)))) [(.a 20,.prop 23),(.b (.v 5),.prop 24)]
(.call 97 [.a (.ptr (.v 5) 0)] [(.b (.v 5),.prop 24)] [.i,.p] (.w (.a (.int .i64 (.v 25)))) [(.b (.v 5),.prop 26)]
(.br (.o1 .not (.o2 .eq (.v 25) (.i 0)))
(.ret (.tup [.agg [.int .i64 (.i 0),.int .i64 (.i 0),.int .i64 (.i 0),.int .i64 (.i 0),.sl .nil (.n 0) (.n 0)],.a (.bool (.c false))]) [])
(.br (.o2 .le (.i 0) (.o1 (.wrap .i64) (.v 9)))
(.br (.o2 .eq (.o1 (.wrap .i64) (.v 6)) (.i 4))
(.call 117 [.a (.int .i64 (.o1 (.wrap .i64) (.v 9)))] [] [.c] (.w (.a (.bool (.v 27)))) []
(.br (.o2 .le (.i 1) (.o1 (.wrap .i64) (.v 9)))
(.call 117 [.a (.int .i64 (.o1 (.wrap .i64) (.v 9)))] [] [.c] (.w (.a (.bool (.v 28)))) []
(.br (.v 28)
(.call 117 [.a (.int .i64 (.o1 (.wrap .i64) (.v 11)))] [] [.c] (.w (.a (.bool (.v 29)))) []
(.br (.v 29)
(.call 117 [.a (.int .i64 (.o1 (.wrap .i64) (.v 13)))] [] [.c] (.w (.a (.bool (.v 30)))) []
(.ret (.tup [.agg [.int .i64 (.o1 (.wrap .i64) (.v 6)),.int .i64 (.o1 (.wrap .i64) (.v 9)),.int .i64 (.o1 (.wrap .i64) (.v 11)),.int .i64 (.o1 (.wrap .i64) (.v 13)),.sl (.v 20) (.v 21) (.v 22)],.a (.bool (.v 30))]) [(.a 20,.prop 23)]))
(.ret (.tup [.agg [.int .i64 (.o1 (.wrap .i64) (.v 6)),.int .i64 (.o1 (.wrap .i64) (.v 9)),.int .i64 (.o1 (.wrap .i64) (.v 11)),.int .i64 (.o1 (.wrap .i64) (.v 13)),.sl (.v 20) (.v 21) (.v 22)],.a (.bool (.c false))]) [(.a 20,.prop 23)])))
(.ret (.tup [.agg [.int .i64 (.o1 (.wrap .i64) (.v 6)),.int .i64 (.o1 (.wrap .i64) (.v 9)),.int .i64 (.o1 (.wrap .i64) (.v 11)),.int .i64 (.o1 (.wrap .i64) (.v 13)),.sl (.v 20) (.v 21) (.v 22)],.a (.bool (.c false))]) [(.a 20,.prop 23)])))
(.ret (.tup [.agg [.int .i64 (.o1 (.wrap .i64) (.v 6)),.int .i64 (.o1 (.wrap .i64) (.v 9)),.int .i64 (.o1 (.wrap .i64) (.v 11)),.int .i64 (.o1 (.wrap .i64) (.v 13)),.sl (.v 20) (.v 21) (.v 22)],.a (.bool (.c false))]) [(.a 20,.prop 23)])))
(.br (.o2 .le (.i 1) (.o1 (.wrap .i64) (.v 9)))
(.call 117 [.a (.int .i64 (.o1 (.wrap .i64) (.v 9)))] [] [.c] (.w (.a (.bool (.v 27)))) []
(.br (.v 27)
(.call 117 [.a (.int .i64 (.o1 (.wrap .i64) (.v 11)))] [] [.c] (.w (.a (.bool (.v 28)))) []
(.br (.v 28)
(.call 117 [.a (.int .i64 (.o1 (.wrap .i64) (.v 13)))] [] [.c] (.w (.a (.bool (.v 29)))) []
(.ret (.tup [.agg [.int .i64 (.o1 (.wrap .i64) (.v 6)),.int .i64 (.o1 (.wrap .i64) (.v 9)),.int .i64 (.o1 (.wrap .i64) (.v 11)),.int .i64 (.o1 (.wrap .i64) (.v 13)),.sl (.v 20) (.v 21) (.v 22)],.a (.bool (.v 29))]) [(.a 20,.prop 23)]))
(.ret (.tup [.agg [.int .i64 (.o1 (.wrap .i64) (.v 6)),.int .i64 (.o1 (.wrap .i64) (.v 9)),.int .i64 (.o1 (.wrap .i64) (.v 11)),.int .i64 (.o1 (.wrap .i64) (.v 13)),.sl (.v 20) (.v 21) (.v 22)],.a (.bool (.c false))]) [(.a 20,.prop 23)])))
(.ret (.tup [.agg [.int .i64 (.o1 (.wrap .i64) (.v 6)),.int .i64 (.o1 (.wrap .i64) (.v 9)),.int .i64 (.o1 (.wrap .i64) (.v 11)),.int .i64 (.o1 (.wrap .i64) (.v 13)),.sl (.v 20) (.v 21) (.v 22)],.a (.bool (.c false))]) [(.a 20,.prop 23)])))
(.ret (.tup [.agg [.int .i64 (.o1 (.wrap .i64) (.v 6)),.int .i64 (.o1 (.wrap .i64) (.v 9)),.int .i64 (.o1 (.wrap .i64) (.v 11)),.int .i64 (.o1 (.wrap .i64) (.v 13)),.sl (.v 20) (.v 21) (.v 22)],.a (.bool (.c false))]) [(.a 20,.prop 23)])))
(.br (.o2 .eq (.o1 (.wrap .i64) (.v 6)) (.i 4))
(.call 117 [.a (.int .i64 (.o1 (.wrap .i64) (.v 9)))] [] [.c] (.w (.a (.bool (.v 27)))) []
(.br (.o2 .le (.i 1) (.o1 (.wrap .i64) (.v 9)))
(.call 117 [.a (.int .i64 (.o1 (.wrap .i64) (.v 9)))] [] [.c] (.w (.a (.bool (.v 28)))) []
(.br (.v 28)
(.call 117 [.a (.int .i64 (.o1 (.wrap .i64) (.v 11)))] [] [.c] (.w (.a (.bool (.v 29)))) []
(.br (.v 29)
(.call 117 [.a (.int .i64 (.o1 (.wrap .i64) (.v 13)))] [] [.c] (.w (.a (.bool (.v 30)))) []
(.ret (.tup [.agg [.int .i64 (.o1 (.wrap .i64) (.v 6)),.int .i64 (.o1 (.wrap .i64) (.v 9)),.int .i64 (.o1 (.wrap .i64) (.v 11)),.int .i64 (.o1 (.wrap .i64) (.v 13)),.sl (.v 20) (.v 21) (.v 22)],.a (.bool (.v 30))]) [(.a 20,.prop 23)]))
(.ret (.tup [.agg [.int .i64 (.o1 (.wrap .i64) (.v 6)),.int .i64 (.o1 (.wrap .i64) (.v 9)),.int .i64 (.o1 (.wrap .i64) (.v 11)),.int .i64 (.o1 (.wrap .i64) (.v 13)),.sl (.v 20) (.v 21) (.v 22)],.a (.bool (.c false))]) [(.a 20,.prop 23)])))
(.ret (.tup [.agg [.int .i64 (.o1 (.wrap .i64) (.v 6)),.int .i64 (.o1 (.wrap .i64) (.v 9)),.int .i64 (.o1 (.wrap .i64) (.v 11)),.int .i64 (.o1 (.wrap .i64) (.v 13)),.sl (.v 20) (.v 21) (.v 22)],.a (.bool (.c false))]) [(.a 20,.prop 23)])))
(.ret (.tup [.agg [.int .i64 (.o1 (.wrap .i64) (.v 6)),.int .i64 (.o1 (.wrap .i64) (.v 9)),.int .i64 (.o1 (.wrap .i64) (.v 11)),.int .i64 (.o1 (.wrap .i64) (.v 13)),.sl (.v 20) (.v 21) (.v 22)],.a (.bool (.c false))]) [(.a 20,.prop 23)])))
(.br (.o2 .le (.i 1) (.o1 (.wrap .i64) (.v 9)))
(.call 117 [.a (.int .i64 (.o1 (.wrap .i64) (.v 9)))] [] [.c] (.w (.a (.bool (.v 27)))) []
(.br (.v 27)
(.call 117 [.a (.int .i64 (.o1 (.wrap .i64) (.v 11)))] [] [.c] (.w (.a (.bool (.v 28)))) []
(.br (.v 28)
(.call 117 [.a (.int .i64 (.o1 (.wrap .i64) (.v 13)))] [] [.c] (.w (.a (.bool (.v 29)))) []
(.ret (.tup [.agg [.int .i64 (.o1 (.wrap .i64) (.v 6)),.int .i64 (.o1 (.wrap .i64) (.v 9)),.int .i64 (.o1 (.wrap .i64) (.v 11)),.int .i64 (.o1 (.wrap .i64) (.v 13)),.sl (.v 20) (.v 21) (.v 22)],.a (.bool (.v 29))]) [(.a 20,.prop 23)]))
(.ret (.tup [.agg [.int .i64 (.o1 (.wrap .i64) (.v 6)),.int .i64 (.o1 (.wrap .i64) (.v 9)),.int .i64 (.o1 (.wrap .i64) (.v 11)),.int .i64 (.o1 (.wrap .i64) (.v 13)),.sl (.v 20) (.v 21) (.v 22)],.a (.bool (.c false))]) [(.a 20,.prop 23)])))
(.ret (.tup [.agg [.int .i64 (.o1 (.wrap .i64) (.v 6)),.int .i64 (.o1 (.wrap .i64) (.v 9)),.int .i64 (.o1 (.wrap .i64) (.v 11)),.int .i64 (.o1 (.wrap .i64) (.v 13)),.sl (.v 20) (.v 21) (.v 22)],.a (.bool (.c false))]) [(.a 20,.prop 23)])))
(.ret (.tup [.agg [.int .i64 (.o1 (.wrap .i64) (.v 6)),.int .i64 (.o1 (.wrap .i64) (.v 9)),.int .i64 (.o1 (.wrap .i64) (.v 11)),.int .i64 (.o1 (.wrap .i64) (.v 13)),.sl (.v 20) (.v 21) (.v 22)],.a (.bool (.c false))]) [(.a 20,.prop 23)])))))))
(.call 97 [.a (.ptr (.v 5) 0)] [(.b (.v 5),.prop 19)] [.i,.p] (.w (.a (.int .i64 (.v 20)))) [(.b (.v 5),.prop 21)]
(.br (.o1 .not (.o2 .eq (.v 20) (.i 0)))
(.ret (.tup [.agg [.int .i64 (.i 0),.int .i64 (.i 0),.int .i64 (.i 0),.int .i64 (.i 0),.sl .nil (.n 0) (.n 0)],.a (.bool (.c false))]) [])
(.br (.o2 .le (.i 0) (.o1 (.wrap .i64) (.v 9)))
(.br (.o2 .eq (.o1 (.wrap .i64) (.v 6)) (.i 4))
(.call 117 [.a (.int .i64 (.o1 (.wrap .i64) (.v 9)))] [] [.c] (.w (.a (.bool (.v 22)))) []
(.br (.o2 .le (.i 1) (.o1 (.wrap .i64) (.v 9)))
(.call 117 [.a (.int .i64 (.o1 (.wrap .i64) (.v 9)))] [] [.c] (.w (.a (.bool (.v 23)))) []
(.br (.v 23)
(.call 117 [.a (.int .i64 (.o1 (.wrap .i64) (.v 11)))] [] [.c] (.w (.a (.bool (.v 24)))) []
(.br (.v 24)
(.call 117 [.a (.int .i64 (.o1 (.wrap .i64) (.v 13)))] [] [.c] (.w (.a (.bool (.v 25)))) []
(.ret (.tup [.agg [.int .i64 (.o1 (.wrap .i64) (.v 6)),.int .i64 (.o1 (.wrap .i64) (.v 9)),.int .i64 (.o1 (.wrap .i64) (.v 11)),.int .i64 (.o1 (.wrap .i64) (.v 13)),.sl (.v 15) (.v 16) (.v 17)],.a (.bool (.v 25))]) [(.a 15,.prop 18)]))
(.ret (.tup [.agg [.int .i64 (.o1 (.wrap .i64) (.v 6)),.int .i64 (.o1 (.wrap .i64) (.v 9)),.int .i64 (.o1 (.wrap .i64) (.v 11)),.int .i64 (.o1 (.wrap .i64) (.v 13)),.sl (.v 15) (.v 16) (.v 17)],.a (.bool (.c false))]) [(.a 15,.prop 18)])))
(.ret (.tup [.agg [.int .i64 (.o1 (.wrap .i64) (.v 6)),.int .i64 (.o1 (.wrap .i64) (.v 9)),.int .i64 (.o1 (.wrap .i64) (.v 11)),.int .i64 (.o1 (.wrap .i64) (.v 13)),.sl (.v 15) (.v 16) (.v 17)],.a (.bool (.c false))]) [(.a 15,.prop 18)])))
(.ret (.tup [.agg [.int .i64 (.o1 (.wrap .i64) (.v 6)),.int .i64 (.o1 (.wrap .i64) (.v 9)),.int .i64 (.o1 (.wrap .i64) (.v 11)),.int .i64 (.o1 (.wrap .i64) (.v 13)),.sl (.v 15) (.v 16) (.v 17)],.a (.bool (.c false))]) [(.a 15,.prop 18)])))
(.br (.o2 .le (.i 1) (.o1 (.wrap .i64) (.v 9)))
(.call 117 [.a (.int .i64 (.o1 (.wrap .i64) (.v 9)))] [] [.c] (.w (.a (.bool (.v 22)))) []
(.br (.v 22)
(.call 117 [.a (.int .i64 (.o1 (.wrap .i64) (.v 11)))] [] [.c] (.w (.a (.bool (.v 23)))) []
(.br (.v 23)
(.call 117 [.a (.int .i64 (.o1 (.wrap .i64) (.v 13)))] [] [.c] (.w (.a (.bool (.v 24)))) []
(.ret (.tup [.agg [.int .i64 (.o1 (.wrap .i64) (.v 6)),.int .i64 (.o1 (.wrap .i64) (.v 9)),.int .i64 (.o1 (.wrap .i64) (.v 11)),.int .i64 (.o1 (.wrap .i64) (.v 13)),.sl (.v 15) (.v 16) (.v 17)],.a (.bool (.v 24))]) [(.a 15,.prop 18)]))
(.ret (.tup [.agg [.int .i64 (.o1 (.wrap .i64) (.v 6)),.int .i64 (.o1 (.wrap .i64) (.v 9)),.int .i64 (.o1 (.wrap .i64) (.v 11)),.int .i64 (.o1 (.wrap .i64) (.v 13)),.sl (.v 15) (.v 16) (.v 17)],.a (.bool (.c false))]) [(.a 15,.prop 18)])))
(.ret (.tup [.agg [.int .i64 (.o1 (.wrap .i64) (.v 6)),.int .i64 (.o1 (.wrap .i64) (.v 9)),.int .i64 (.o1 (.wrap .i64) (.v 11)),.int .i64 (.o1 (.wrap .i64) (.v 13)),.sl (.v 15) (.v 16) (.v 17)],.a (.bool (.c false))]) [(.a 15,.prop 18)])))
(.ret (.tup [.agg [.int .i64 (.o1 (.wrap .i64) (.v 6)),.int .i64 (.o1 (.wrap .i64) (.v 9)),.int .i64 (.o1 (.wrap .i64) (.v 11)),.int .i64 (.o1 (.wrap .i64) (.v 13)),.sl (.v 15) (.v 16) (.v 17)],.a (.bool (.c false))]) [(.a 15,.prop 18)])))
(.br (.o2 .eq (.o1 (.wrap .i64) (.v 6)) (.i 4))
(.call 117 [.a (.int .i64 (.o1 (.wrap .i64) (.v 9)))] [] [.c] (.w (.a (.bool (.v 22)))) []
(.br (.o2 .le (.i 1) (.o1 (.wrap .i64) (.v 9)))
(.call 117 [.a (.int .i64 (.o1 (.wrap .i64) (.v 9)))] [] [.c] (.w (.a (.bool (.v 23)))) []
(.br (.v 23)
(.call 117 [.a (.int .i64 (.o1 (.wrap .i64) (.v 11)))] [] [.c] (.w (.a (.bool (.v 24)))) []
(.br (.v 24)
(.call 117 [.a (.int .i64 (.o1 (.wrap .i64) (.v 13)))] [] [.c] (.w (.a (.bool (.v 25)))) []
(.ret (.tup [.agg [.int .i64 (.o1 (.wrap .i64) (.v 6)),.int .i64 (.o1 (.wrap .i64) (.v 9)),.int .i64 (.o1 (.wrap .i64) (.v 11)),.int .i64 (.o1 (.wrap .i64) (.v 13)),.sl (.v 15) (.v 16) (.v 17)],.a (.bool (.v 25))]) [(.a 15,.prop 18)]))
(.ret (.tup [.agg [.int .i64 (.o1 (.wrap .i64) (.v 6)),.int .i64 (.o1 (.wrap .i64) (.v 9)),.int .i64 (.o1 (.wrap .i64) (.v 11)),.int .i64 (.o1 (.wrap .i64) (.v 13)),.sl (.v 15) (.v 16) (.v 17)],.a (.bool (.c false))]) [(.a 15,.prop 18)])))
(.ret (.tup [.agg [.int .i64 (.o1 (.wrap .i64) (.v 6)),.int .i64 (.o1 (.wrap .i64) (.v 9)),.int .i64 (.o1 (.wrap .i64) (.v 11)),.int .i64 (.o1 (.wrap .i64) (.v 13)),.sl (.v 15) (.v 16) (.v 17)],.a (.bool (.c false))]) [(.a 15,.prop 18)])))
(.ret (.tup [.agg [.int .i64 (.o1 (.wrap .i64) (.v 6)),.int .i64 (.o1 (.wrap .i64) (.v 9)),.int .i64 (.o1 (.wrap .i64) (.v 11)),.int .i64 (.o1 (.wrap .i64) (.v 13)),.sl (.v 15) (.v 16) (.v 17)],.a (.bool (.c false))]) [(.a 15,.prop 18)])))
(.br (.o2 .le (.i 1) (.o1 (.wrap .i64) (.v 9)))
(.call 117 [.a (.int .i64 (.o1 (.wrap .i64) (.v 9)))] [] [.c] (.w (.a (.bool (.v 22)))) []
(.br (.v 22)
(.call 117 [.a (.int .i64 (.o1 (.wrap .i64) (.v 11)))] [] [.c] (.w (.a (.bool (.v 23)))) []
(.br (.v 23)
(.call 117 [.a (.int .i64 (.o1 (.wrap .i64) (.v 13)))] [] [.c] (.w (.a (.bool (.v 24)))) []
(.ret (.tup [.agg [.int .i64 (.o1 (.wrap .i64) (.v 6)),.int .i64 (.o1 (.wrap .i64) (.v 9)),.int .i64 (.o1 (.wrap .i64) (.v 11)),.int .i64 (.o1 (.wrap .i64) (.v 13)),.sl (.v 15) (.v 16) (.v 17)],.a (.bool (.v 24))]) [(.a 15,.prop 18)]))
(.ret (.tup [.agg [.int .i64 (.o1 (.wrap .i64) (.v 6)),.int .i64 (.o1 (.wrap .i64) (.v 9)),.int .i64 (.o1 (.wrap .i64) (.v 11)),.int .i64 (.o1 (.wrap .i64) (.v 13)),.sl (.v 15) (.v 16) (.v 17)],.a (.bool (.c false))]) [(.a 15,.prop 18)])))
(.ret (.tup [.agg [.int .i64 (.o1 (.wrap .i64) (.v 6)),.int .i64 (.o1 (.wrap .i64) (.v 9)),.int .i64 (.o1 (.wrap .i64) (.v 11)),.int .i64 (.o1 (.wrap .i64) (.v 13)),.sl (.v 15) (.v 16) (.v 17)],.a (.bool (.c false))]) [(.a 15,.prop 18)])))
(.ret (.tup [.agg [.int .i64 (.o1 (.wrap .i64) (.v 6)),.int .i64 (.o1 (.wrap .i64) (.v 9)),.int .i64 (.o1 (.wrap .i64) (.v 11)),.int .i64 (.o1 (.wrap .i64) (.v 13)),.sl (.v 15) (.v 16) (.v 17)],.a (.bool (.c false))]) [(.a 15,.prop 18)]))))))))
(.br (.o2 .eq (.o1 (.wrap .i64) (.v 6)) (.i 6))
(.call 96 [.a (.ptr (.v 5) 0),.a (.int .i64 (.i 1000))] [(.b (.v 5),.prop 14)] [.a,.n,.n,.p,.p] (.w (.a (.sl (.v 15) (.v 16) (.v 17)))) [(.a 15,.prop 18),(.b (.v 5),.prop 19)]
(.call 97 [.a (.ptr (.v 5) 0)] [(.b (.v 5),.prop 19)] [.i,.p] (.w (.a (.int .i64 (.v 20)))) [(.b (.v 5),.prop 21)]
(.br (.o1 .not (.o2 .eq (.v 20) (.i 0)))
(.ret (.tup [.agg [.int .i64 (.i 0),.int .i64 (.i 0),.int .i64 (.i 0),.int .i64 (.i 0),.sl .nil (.n 0) (.n 0)],.a (.bool (.c false))]) [])
(.br (.o2 .le (.i 0) (.o1 (.wrap .i64) (.v 9)))
(.br (.o2 .eq (.o1 (.wrap .i64) (.v 6)) (.i 4))
(.call 117 [.a (.int .i64 (.o1 (.wrap .i64) (.v 9)))] [] [.c] (.w (.a (.bool (.v 22)))) []
(.br (.o2 .le (.i 1) (.o1 (.wrap .i64) (.v 9)))
(.call 117 [.a (.int .i64 (.o1 (.wrap .i64) (.v 9)))] [] [.c] (.w (.a (.bool (.v 23)))) []
(.br (.v 23)
(.call 117 [.a (.int .i64 (.o1 (.wrap .i64) (.v 11)))] [] [.c] (.w (.a (.bool (.v 24)))) []
(.br (.v 24)
(.call 117 [.a (.int .i64 (.o1 (.wrap .i64) (.v 13)))] [] [.c] (.w (.a (.bool (.v 25)))) []
(.ret (.tup [.agg [.int .i64 (.o1 (.wrap .i64) (.v 6)),.int .i64 (.o1 (.wrap .i64) (.v 9)),.int .i64 (.o1 (.wrap .i64) (.v 11)),.int .i64 (.o1 (.wrap .i64) (.v 13)),.sl (.v 15) (.v 16) (.v 17)],.a (.bool (.v 25))]) [(.a 15,.prop 18)]))
(.ret (.tup [.agg [.int .i64 (.o1 (.wrap .i64) (.v 6)),.int .i64 (.o1 (.wrap .i64) (.v 9)),.int .i64 (.o1 (.wrap .i64) (.v 11)),.int .i64 (.o1 (.wrap .i64) (.v 13)),.sl (.v 15) (.v 16) (.v 17)],.a (.bool (.c false))]) [(.a 15,.prop 18)])))
(.ret (.tup [.agg [.int .i64 (.o1 (.wrap .i64) (.v 6)),.int .i64 (.o1 (.wrap .i64) (.v 9)),.int .i64 (.o1 (.wrap .i64) (.v 11)),.int .i64 (.o1 (.wrap .i64) (.v 13)),.sl (.v 15) (.v 16) (.v 17)],.a (.bool (.c false))]) [(.a 15,.prop 18)])))
(.ret (.tup [.agg [.int .i64 (.o1 (.wrap .i64) (.v 6)),.int .i64 (.o1 (.wrap .i64) (.v 9)),.int .i64 (.o1 (.wrap .i64) (.v 11)),.int .i64 (.o1 (.wrap .i64) (.v 13)),.sl (.v 15) (.v 16) (.v 17)],.a (.bool (.c false))]) [(.a 15,.prop 18)])))
(.br (.o2 .le (.i 1) (.o1 (.wrap .i64) (.v 9)))
(.call 117 [.a (.int .i64 (.o1 (.wrap .i64) (.v 9)))] [] [.c] (.w (.a (.bool (.v 22)))) []
(.br (.v 22)
(.call 117 [.a (.int .i64 (.o1 (.wrap .i64) (.v 11)))] [] [.c] (.w (.a (.bool (.v 23)))) []
(.br (.v 23)
(.call 117 [.a (.int .i64 (.o1 (.wrap .i64) (.v 13)))] [] [.c] (.w (.a (.bool (.v 24)))) []
(.ret (.tup [.agg [.int .i64 (.o1 (.wrap .i64) (.v 6)),.int .i64 (.o1 (.wrap .i64) (.v 9)),.int .i64 (.o1 (.wrap .i64) (.v 11)),.int .i64 (.o1 (.wrap .i64) (.v 13)),.sl (.v 15) (.v 16) (.v 17)],.a (.bool (.v 24))]) [(.a 15,.prop 18)]))
(.ret (.tup [.agg [.int .i64 (.o1 (.wrap .i64) (.v 6)),.int .i64 (.o1 (.wrap .i64) (.v 9)),.int .i64 (.o1 (.wrap .i64) (.v 11)),.int .i64 (.o1 (.wrap .i64) (.v 13)),.sl (.v 15) (.v 16) (.v 17)],.a (.bool (.c false))]) [(.a 15,.prop 18)])))
(.ret (.tup [.agg [.int .i64 (.o1 (.wrap .i64) (.v 6)),.int .i64 (.o1 (.wrap .i64) (.v 9)),.int .i64 (.o1 (.wrap .i64) (.v 11)),.int .i64 (.o1 (.wrap .i64) (.v 13)),.sl (.v 15) (.v 16) (.v 17)],.a (.bool (.c false))]) [(.a 15,.prop 18)])))
(.ret (.tup [.agg [.int .i64 (.o1 (.wrap .i64) (.v 6)),.int .i64 (.o1 (.wrap .i64) (.v 9)),.int .i64 (.o1 (.wrap .i64) (.v 11)),.int .i64 (.o1 (.wrap .i64) (.v 13)),.sl (.v 15) (.v 16) (.v 17)],.a (.bool (.c false))]) [(.a 15,.prop 18)])))
(.br (.o2 .eq (.o1 (.wrap .i64) (.v 6)) (.i 4))
(.call 117 [.a (.int .i64 (.o1 (.wrap .i64) (.v 9)))] [] [.c] (.w (.a (.bool (.v 22)))) []
(.br (.o2 .le (.i 1) (.o1 (.wrap .i64) (.v 9)))
(.call 117 [.a (.int .i64 (.o1 (.wrap .i64) (.v 9)))] [] [.c] (.w (.a (.bool (.v 23)))) []
(.br (.v 23)
(.call 117 [.a (.int .i64 (.o1 (.wrap .i64) (.v 11)))] [] [.c] (.w (.a (.bool (.v 24)))) []
(.br (.v 24)
(.call 117 [.a (.int .i64 (.o1 (.wrap .i64) (.v 13)))] [] [.c] (.w (.a (.bool (.v 25)))) []
(.ret (.tup [.agg [.int .i64 (.o1 (.wrap .i64) (.v 6)),.int .i64 (.o1 (.wrap .i64) (.v 9)),.int .i64 (.o1 (.wrap .i64) (.v 11)),.int .i64 (.o1 (.wrap .i64) (.v 13)),.sl (.v 15) (.v 16) (.v 17)],.a (.bool (.v 25))]) [(.a 15,.prop 18)]))
(.ret (.tup [.agg [.int .i64 (.o1 (.wrap .i64) (.v 6)),.int .i64 (.o1 (.wrap .i64) (.v 9)),.int .i64 (.o1 (.wrap .i64) (.v 11)),.int .i64 (.o1 (.wrap .i64) (.v 13)),.sl (.v 15) (.v 16) (.v 17)],.a (.bool (.c false))]) [(.a 15,.prop 18)])))
(.ret (.tup [.agg [.int .i64 (.o1 (.wrap .i64) (.v 6)),.int .i64 (.o1 (.wrap .i64) (.v 9)),.int .i64 (.o1 (.wrap .i64) (.v 11)),.int .i64 (.o1 (.wrap .i64) (.v 13)),.sl (.v 15) (.v 16) (.v 17)],.a (.bool (.c false))]) [(.a 15,.prop 18)])))
(.ret (.tup [.agg [.int .i64 (.o1 (.wrap .i64) (.v 6)),.int .i64 (.o1 (.wrap .i64) (.v 9)),.int .i64 (.o1 (.wrap .i64) (.v 11)),.int .i64 (.o1 (.wrap .i64) (.v 13)),.sl (.v 15) (.v 16) (.v 17)],.a (.bool (.c false))]) [(.a 15,.prop 18)])))
(.br (.o2 .le (.i 1) (.o1 (.wrap .i64) (.v 9)))
(.call 117 [.a (.int .i64 (.o1 (.wrap .i64) (.v 9)))] [] [.c] (.w (.a (.bool (.v 22)))) []
(.br (.v 22)
(.call 117 [.a (.int .i64 (.o1 (.wrap .i64) (.v 11)))] [] [.c] (.w (.a (.bool (.v 23)))) []
(.br (.v 23)
(.call 117 [.a (.int .i64 (.o1 (.wrap .i64) (.v 13)))] [] [.c] (.w (.a (.bool (.v 24)))) []
(.ret (.tup [.agg [.int .i64 (.o1 (.wrap .i64) (.v 6)),.int .i64 (.o1 (.wrap .i64) (.v 9)),.int .i64 (.o1 (.wrap .i64) (.v 11)),.int .i64 (.o1 (.wrap .i64) (.v 13)),.sl (.v 15) (.v 16) (.v 17)],.a (.bool (.v 24))]) [(.a 15,.prop 18)]))
(.ret (.tup [.agg [.int .i64 (.o1 (.wrap .i64) (.v 6)),.int .i64 (.o1 (.wrap .i64) (.v 9)),.int .i64 (.o1 (.wrap .i64) (.v 11)),.int .i64 (.o1 (.wrap .i64) (.v 13)),.sl (.v 15) (.v 16) (.v 17)],.a (.bool (.c false))]) [(.a 15,.prop 18)])))
(.ret (.tup [.agg [.int .i64 (.o1 (.wrap .i64) (.v 6)),.int .i64 (.o1 (.wrap .i64) (.v 9)),.int .i64 (.o1 (.wrap .i64) (.v 11)),.int .i64 (.o1 (.wrap .i64) (.v 13)),.sl (.v 15) (.v 16) (.v 17)],.a (.bool (.c false))]) [(.a 15,.prop 18)])))
(.ret (.tup [.agg [.int .i64 (.o1 (.wrap .i64) (.v 6)),.int .i64 (.o1 (.wrap .i64) (.v 9)),.int .i64 (.o1 (.wrap .i64) (.v 11)),.int .i64 (.o1 (.wrap .i64) (.v 13)),.sl (.v 15) (.v 16) (.v 17)],.a (.bool (.c false))]) [(.a 15,.prop 18)])))))))
(.call 97 [.a (.ptr (.v 5) 0)] [(.b (.v 5),.prop 14)] [.i,.p] (.w (.a (.int .i64 (.v 15)))) [(.b (.v 5),.prop 16)]
(.br (.o1 .not (.o2 .eq (.v 15) (.i 0)))
(.ret (.tup [.agg [.int .i64 (.i 0),.int .i64 (.i 0),.int .i64 (.i 0),.int .i64 (.i 0),.sl .nil (.n 0) (.n 0)],.a (.bool (.c false))]) [])
(.br (.o2 .le (.i 0) (.o1 (.wrap .i64) (.v 9)))
(.br (.o2 .eq (.o1 (.wrap .i64) (.v 6)) (.i 4))
(.call 117 [.a (.int .i64 (.o1 (.wrap .i64) (.v 9)))] [] [.c] (.w (.a (.bool (.v 17)))) []
(.br (.o2 .le (.i 1) (.o1 (.wrap .i64) (.v 9)))
(.call 117 [.a (.int .i64 (.o1 (.wrap .i64) (.v 9)))] [] [.c] (.w (.a (.bool (.v 18)))) []
(.br (.v 18)
(.call 117 [.a (.int .i64 (.o1 (.wrap .i64) (.v 11)))] [] [.c] (.w (.a (.bool (.v 19)))) []
(.br (.v 19)
(.call 117 [.a (.int .i64 (.o1 (.wrap .i64) (.v 13)))] [] [.c] (.w (.a (.bool (.v 20)))) []
(.ret (.tup [.agg [.int .i64 (.o1 (.wrap .i64) (.v 6)),.int .i64 (.o1 (.wrap .i64) (.v 9)),.int .i64 (.o1 (.wrap .i64) (.v 11)),.int .i64 (.o1 (.wrap .i64) (.v 13)),.sl .nil (.n 0) (.n 0)],.a (.bool (.v 20))]) []))
(.ret (.tup [.agg [.int .i64 (.o1 (.wrap .i64) (.v 6)),.int .i64 (.o1 (.wrap .i64) (.v 9)),.int .i64 (.o1 (.wrap .i64) (.v 11)),.int .i64 (.o1 (.wrap .i64) (.v 13)),.sl .nil (.n 0) (.n 0)],.a (.bool (.c false))]) [])))
(.ret (.tup [.agg [.int .i64 (.o1 (.wrap .i64) (.v 6)),.int .i64 (.o1 (.wrap .i64) (.v 9)),.int .i64 (.o1 (.wrap .i64) (.v 11)),.int .i64 (.o1 (.wrap .i64) (.v 13)),.sl .nil (.n 0) (.n 0)],.a (.bool (.c false))]) [])))
(.ret (.tup [.agg [.int .i64 (.o1 (.wrap .i64) (.v 6)),.int .i64 (.o1 (.wrap .i64) (.v 9)),.int .i64 (.o1 (.wrap .i64) (.v 11)),.int .i64 (.o1 (.wrap .i64) (.v 13)),.sl .nil (.n 0) (.n 0)],.a (.bool (.c false))]) [])))
(.br (.o2 .le (.i 1) (.o1 (.wrap .i64) (.v 9)))
(.call 117 [.a (.int .i64 (.o1 (.wrap .i64) (.v 9)))] [] [.c] (.w (.a (.bool (.v 17)))) []
(.br (.v 17)
(.call 117 [.a (.int .i64 (.o1 (.wrap .i64) (.v 11)))] [] [.c] (.w (.a (.bool (.v 18)))) []
(.br (.v 18)
(.call 117 [.a (.int .i64 (.o1 (.wrap .i64) (.v 13)))] [] [.c] (.w (.a (.bool (.v 19)))) []
(.ret (.tup [.agg [.int .i64 (.o1 (.wrap .i64) (.v 6)),.int .i64 (.o1 (.wrap .i64) (.v 9)),.int .i64 (.o1 (.wrap .i64) (.v 11)),.int .i64 (.o1 (.wrap .i64) (.v 13)),.sl .nil (.n 0) (.n 0)],.a (.bool (.v 19))]) []))
(.ret (.tup [.agg [.int .i64 (.o1 (.wrap .i64) (.v 6)),.int .i64 (.o1 (.wrap .i64) (.v 9)),.int .i64 (.o1 (.wrap .i64) (.v 11)),.int .i64 (.o1 (.wrap .i64) (.v 13)),.sl .nil (.n 0) (.n 0)],.a (.bool (.c false))]) [])))
(.ret (.tup [.agg [.int .i64 (.o1 (.wrap .i64) (.v 6)),.int .i64 (.o1 (.wrap .i64) (.v 9)),.int .i64 (.o1 (.wrap .i64) (.v 11)),.int .i64 (.o1 (.wrap .i64) (.v 13)),.sl .nil (.n 0) (.n 0)],.a (.bool (.c false))]) [])))
(.ret (.tup [.agg [.int .i64 (.o1 (.wrap .i64) (.v 6)),.int .i64 (.o1 (.wrap .i64) (.v 9)),.int .i64 (.o1 (.wrap .i64) (.v 11)),.int .i64 (.o1 (.wrap .i64) (.v 13)),.sl .nil (.n 0) (.n 0)],.a (.bool (.c false))]) [])))
(.br (.o2 .eq (.o1 (.wrap .i64) (.v 6)) (.i 4))
(.call 117 [.a (.int .i64 (.o1 (.wrap .i64) (.v 9)))] [] [.c] (.w (.a (.bool (.v 17)))) []
(.br (.o2 .le (.i 1) (.o1 (.wrap .i64) (.v 9)))
(.call 117 [.a (.int .i64 (.o1 (.wrap .i64) (.v 9)))] [] [.c] (.w (.a (.bool (.v 18)))) []
(.br (.v 18)
(.call 117 [.a (.int .i64 (.o1 (.wrap .i64) (.v 11)))] [] [.c] (.w (.a (.bool (.v 19)))) []
(.br (.v 19)
(.call 117 [.a (.int .i64 (.o1 (.wrap .i64) (.v 13)))] [] [.c] (.w (.a (.bool (.v 20)))) []
(.ret (.tup [.agg [.int .i64 (.o1 (.wrap .i64) (.v 6)),.int .i64 (.o1 (.wrap .i64) (.v 9)),.int .i64 (.o1 (.wrap .i64) (.v 11)),.int .i64 (.o1 (.wrap .i64) (.v 13)),.sl .nil (.n 0) (.n 0)],.a (.bool (.v 20))]) []))
(.ret (.tup [.agg [.int .i64 (.o1 (.wrap .i64) (.v 6)),.int .i64 (.o1 (.wrap .i64) (.v 9)),.int .i64 (.o1 (.wrap .i64) (.v 11)),.int .i64 (.o1 (.wrap .i64) (.v 13)),.sl .nil (.n 0) (.n 0)],.a (.bool (.c false))]) [])))
(.ret (.tup [.agg [.int .i64 (.o1 (.wrap .i64) (.v 6)),.int .i64 (.o1 (.wrap .i64) (.v 9)),.int .i64 (.o1 (.wrap .i64) (.v 11)),.int .i64 (.o1 (.wrap .i64) (.v 13)),.sl .nil (.n 0) (.n 0)],.a (.bool (.c false))]) [])))
(.ret (.tup [.agg [.int .i64 (.o1 (.wrap .i64) (.v 6)),.int .i64 (.o1 (.wrap .i64) (.v 9)),.int .i64 (.o1 (.wrap .i64) (.v 11)),.int .i64 (.o1 (.wrap .i64) (.v 13)),.sl .nil (.n 0) (.n 0)],.a (.bool (.c false))]) [])))
(.br (.o2 .le (.i 1) (.o1 (.wrap .i64) (.v 9)))
(.call 117 [.a (.int .i64 (.o1 (.wrap .i64) (.v 9)))] [] [.c] (.w (.a (.bool (.v 17)))) []
(.br (.v 17)
(.call 117 [.a (.int .i64 (.o1 (.wrap .i64) (.v 11)))] [] [.c] (.w (.a (.bool (.v 18)))) []
(.br (.v 18)
(.call 117 [.a (.int .i64 (.o1 (.wrap .i64) (.v 13)))] [] [.c] (.w (.a (.bool (.v 19)))) []
(.ret (.tup [.agg [.int .i64 (.o1 (.wrap .i64) (.v 6)),.int .i64 (.o1 (.wrap .i64) (.v 9)),.int .i64 (.o1 (.wrap .i64) (.v 11)),.int .i64 (.o1 (.wrap .i64) (.v 13)),.sl .nil (.n 0) (.n 0)],.a (.bool (.v 19))]) []))
(.ret (.tup [.agg [.int .i64 (.o1 (.wrap .i64) (.v 6)),.int .i64 (.o1 (.wrap .i64) (.v 9)),.int .i64 (.o1 (.wrap .i64) (.v 11)),.int .i64 (.o1 (.wrap .i64) (.v 13)),.sl .nil (.n 0) (.n 0)],.a (.bool (.c false))]) [])))
(.ret (.tup [.agg [.int .i64 (.o1 (.wrap .i64) (.v 6)),.int .i64 (.o1 (.wrap .i64) (.v 9)),.int .i64 (.o1 (.wrap .i64) (.v 11)),.int .i64 (.o1 (.wrap .i64) (.v 13)),.sl .nil (.n 0) (.n 0)],.a (.bool (.c false))]) [])))
(.ret (.tup [.agg [.int .i64 (.o1 (.wrap .i64) (.v 6)),.int .i64 (.o1 (.wrap .i64) (.v 9)),.int .i64 (.o1 (.wrap .i64) (.v 11)),.int .i64 (.o1 (.wrap .i64) (.v 13)),.sl .nil (.n 0) (.n 0)],.a (.bool (.c false))]) []))))))))))
(.br (.o2 .eq (.o1 (.wrap .i64) (.v 6)) (.i 1))
(.call 96 [.a (.ptr (.v 5) 0),.a (.int .i64 (.i 65536))] [(.b (.v 5),.prop 10)] [.a,.n,.n,.p,.p] (.w (.a (.sl (.v 11) (.v 12) (.v 13)))) [(.a 11,.prop 14),(.b (.v 5),.prop 15)]
(.br (.o2 .eq (.o1 (.wrap .i64) (.v 6)) (.i 6))
(.call 96 [.a (.ptr (.v 5) 0),.a (.int .i64 (.i 1000))] [(.b (.v 5),.prop 15)] [.a,.n,.n,.p,.p] (.w (.a (.sl (.v 16) (.v 17) (.v 18)))) [(.a 16,.prop 19),(.b (.v 5),.prop 20)]
(.call 97 [.a (.ptr (.v 5) 0)] [(.b (.v 5),.prop 20)] [.i,.p] (.w (.a (.int .i64 (.v 21)))) [(.b (.v 5),.prop 22)]
(.br (.o1 .not (.o2 .eq (.v 21) (.i 0)))
(.ret (.tup [.agg [.int .i64 (.i 0),.int .i64 (.i 0),.int .i64 (.i 0),.int .i64 (.i 0),.sl .nil (.n 0) (.n 0)],.a (.bool (.c false))]) [])
(.br (.o2 .le (.i 0) (.o1 (.wrap .i64) (.v 9)))
(.br (.o2 .eq (.o1 (.wrap .i64) (.v 6)) (.i 4))
(.call 117 [.a (.int .i64 (.o1 (.wrap .i64) (.v 9)))] [] [.c] (.w (.a (.bool (.v 23)))) []
(.ret (.tup [.agg [.int .i64 (.o1 (.wrap .i64) (.v 6)),.int .i64 (.o1 (.wrap .i64) (.v 9)),.int .i64 (.i 0),.int .i64 (.i 0),.sl (.v 16) (.v 17) (.v 18)],.a (.bool (.v 23))]) [(.a 16,.prop 19)]))
(.ret (.tup [.agg [.int .i64 (.o1 (.wrap .i64) (.v 6)),.int .i64 (.o1 (.wrap .i64) (.v 9)),.int .i64 (.i 0),.int .i64 (.i 0),.sl (.v 16) (.v 17) (.v 18)],.a (.bool (.o2 .le (.o1 (.wrap .i64) (.v 9)) (.i 4294967296)))]) [(.a 16,.prop 19)]))
(.br (.o2 .eq (.o1 (.wrap .i64) (.v 6)) (.i 4))
(.call 117 [.a (.int .i64 (.o1 (.wrap .i64) (.v 9)))] [] [.c] (.w (.a (.bool (.v 23)))) []
(.ret (.tup [.agg [.int .i64 (.o1 (.wrap .i64) (.v 6)),.int .i64 (.o1 (.wrap .i64) (.v 9)),.int .i64 (.i 0),.int .i64 (.i 0),.sl (.v 16) (.v 17) (.v 18)],.a (.bool (.v 23))]) [(.a 16,.prop 19)]))
(.ret (.tup [.agg [.int .i64 (.o1 (.wrap .i64) (.v 6)),.int .i64 (.o1 (.wrap .i64) (.v 9)),.int .i64 (.i 0),.int .i64 (.i 0),.sl (.v 16) (.v 17) (.v 18)],.a (.bool (.c false))]) [(.a 16,.prop 19)]))))))
(.call 97 [.a (.ptr (.v 5) 0)] [(.b (.v 5),.prop 15)] [.i,.p] (.w (.a (.int .i64 (.v 16)))) [(.b (.v 5),.prop 17)]
(.br (.o1 .not (.o2 .eq (.v 16) (.i 0)))
(.ret (.tup [.agg [.int .i64 (.i 0),.int .i64 (.i 0),.int .i64 (.i 0),.int .i64 (.i 0),.sl .nil (.n 0) (.n 0)],.a (.bool (.c false))]) [])
(.br (.o2 .le (.i 0) (.o1 (.wrap .i64) (.v 9)))
(.br (.o2 .eq (.o1 (.wrap .i64) (.v 6)) (.i 4))
(.call 117 [.a (.int .i64 (.o1 (.wrap .i64) (.v 9)))] [] [.c] (.w (.a (.bool (.v 18)))) []
(.ret (.tup [.agg [.int .i64 (.o1 (.wrap .i64) (.v 6)),.int .i64 (.o1 (.wrap .i64) (.v 9)),.int .i64 (.i 0),.int .i64 (.i 0),.sl (.v 11) (.v 12) (.v 13)],.a (.bool (.v 18))]) [(.a 11,.prop 14)]))
(.ret (.tup [.agg [.int .i64 (.o1 (.wrap .i64) (.v 6)),.int .i64 (.o1 (.wrap .i64) (.v 9)),.int .i64 (.i 0),.int .i64 (.i 0),.sl (.v 11) (.v 12) (.v 13)],.a (.bool (.o2 .le (.o1 (.wrap .i64) (.v 9)) (.i 4294967296)))]) [(.a 11,.prop 14)]))
(.br (.o2 .eq (.o1 (.wrap .i64) (.v 6)) (.i 4))
(.call 117 [.a (.int .i64 (.o1 (.wrap .i64) (.v 9)))] [] [.c] (.w (.a (.bool (.v 18)))) []
(.ret (.tup [.agg [.int .i64 (.o1 (.wrap .i64) (.v 6)),.int .i64 (.o1 (.wrap .i64) (.v 9)),.int .i64 (.i 0),.int .i64 (.i 0),.sl (.v 11) (.v 12) (.v 13)],.a (.bool (.v 18))]) [(.a 11,.prop 14)]))
(.ret (.tup [.agg [.int .i64 (.o1 (.wrap .i64) (.v 6)),.int .i64 (.o1 (.wrap .i64) (.v 9)),.int .i64 (.i 0),.int .i64 (.i 0),.sl (.v 11) (.v 12) (.v 13)],.a (.bool (.c false))]) [(.a 11,.prop 14)])))))))
(.br (.o2 .eq (.o1 (.wrap .i64) (.v 6)) (.i 6))
(.call 96 [.a (.ptr (.v 5) 0),.a (.int .i64 (.i 1000))] [(.b (.v 5),.prop 10)] [.a,.n,.n,.p,.p] (.w (.a (.sl (.v 11) (.v 12) (.v 13)))) [(.a 11,.prop 14),(.b (.v 5),.prop 15)]
(.call 97 [.a (.ptr (.v 5) 0)] [(.b (.v 5),.prop 15)] [.i,.p] (.w (.a (.int .i64 (.v 16)))) [(.b (.v 5),.prop 17)]
(.br (.o1 .not (.o2 .eq (.v 16) (.i 0)))
(.ret (.tup [.agg [.int .i64 (.i 0),.int .i64 (.i 0),.int .i64 (.i 0),.int .i64 (.i 0),.sl .nil (.n 0) (.n 0)],.a (.bool (.c false))]) [])
(.br (.o2 .le (.i 0) (.o1 (.wrap .i64) (.v 9)))
(.br (.o2 .eq (.o1 (.wrap .i64) (.v 6)) (.i 4))
(.call 117 [.a (.int .i64 (.o1 (.wrap .i64) (.v 9)))] [] [.c] (.w (.a (.bool (.v 18)))) []
(.ret (.tup [.agg [.int .i64 (.o1 (.wrap .i64) (.v 6)),.int .i64 (.o1 (.wrap .i64) (.v 9)),.int .i64 (.i 0),.int .i64 (.i 0),.sl (.v 11) (.v 12) (.v 13)],.a (.bool (.v 18))]) [(.a 11,.prop 14)]))
(.ret (.tup [.agg [.int .i64 (.o1 (.wrap .i64) (.v 6)),.int .i64 (.o1 (.wrap .i64) (.v 9)),.int .i64 (.i 0),.int .i64 (.i 0),.sl (.v 11) (.v 12) (.v 13)],.a (.bool (.o2 .le (.o1 (.wrap .i64) (.v 9)) (.i 4294967296)))]) [(.a 11,.prop 14)]))
(.br (.o2 .eq (.o1 (.wrap .i64) (.v 6)) (.i 4))
(.call 117 [.a (.int .i64 (.o1 (.wrap .i64) (.v 9)))] [] [.c] (.w (.a (.bool (.v 18)))) []
(.ret (.tup [.agg [.int .i64 (.o1 (.wrap .i64) (.v 6)),.int .i64 (.o1 (.wrap .i64) (.v 9)),.int .i64 (.i 0),.int .i64 (.i 0),.sl (.v 11) (.v 12) (.v 13)],.a (.bool (.v 18))]) [(.a 11,.prop 14)]))
(.ret (.tup [.agg [.int .i64 (.o1 (.wrap .i64) (.v 6)),.int .i64 (.o1 (.wrap .i64) (.v 9)),.int .i64 (.i 0),.int .i64 (.i 0),.sl (.v 11) (.v 12) (.v 13)],.a (.bool (.c false))]) [(.a 11,.prop 14)]))))))
(.call 97 [.a (.ptr (.v 5) 0)] [(.b (.v 5),.prop 10)] [.i,.p] (.w (.a (.int .i64 (.v 11)))) [(.b (.v 5),.prop 12)]
(.br (.o1 .not (.o2 .eq (.v 11) (.i 0)))
(.ret (.tup [.agg [.int .i64 (.i 0),.int .i64 (.i 0),.int .i64 (.i 0),.int .i64 (.i 0),.sl .nil (.n 0) (.n 0)],.a (.bool (.c false))]) [])
(.br (.o2 .le (.i 0) (.o1 (.wrap .i64) (.v 9)))
(.br (.o2 .eq (.o1 (.wrap .i64) (.v 6)) (.i 4))
(.call 117 [.a (.int .i64 (.o1 (.wrap .i64) (.v 9)))] [] [.c] (.w (.a (.bool (.v 13)))) []
(.ret (.tup [.agg [.int .i64 (.o1 (.wrap .i64) (.v 6)),.int .i64 (.o1 (.wrap .i64) (.v 9)),.int .i64 (.i 0),.int .i64 (.i 0),.sl .nil (.n 0) (.n 0)],.a (.bool (.v 13))]) []))
(.ret (.tup [.agg [.int .i64 (.o1 (.wrap .i64) (.v 6)),.int .i64 (.o1 (.wrap .i64) (.v 9)),.int .i64 (.i 0),.int .i64 (.i 0),.sl .nil (.n 0) (.n 0)],.a (.bool (.o2 .le (.o1 (.wrap .i64) (.v 9)) (.i 4294967296)))]) []))
(.br (.o2 .eq (.o1 (.wrap .i64) (.v 6)) (.i 4))
(.call 117 [.a (.int .i64 (.o1 (.wrap .i64) (.v 9)))] [] [.c] (.w (.a (.bool (.v 13)))) []
(.ret (.tup [.agg [.int .i64 (.o1 (.wrap .i64) (.v 6)),.int .i64 (.o1 (.wrap .i64) (.v 9)),.int .i64 (.i 0),.int .i64 (.i 0),.sl .nil (.n 0) (.n 0)],.a (.bool (.v 13))]) []))
(.ret (.tup [.agg [.int .i64 (.o1 (.wrap .i64) (.v 6)),.int .i64 (.o1 (.wrap .i64) (.v 9)),.int .i64 (.i 0),.int .i64 (.i 0),.sl .nil (.n 0) (.n 0)],.a (.bool (.c false))]) [])))))))))))))))
theorem tree_q9Decode:tree Tryz.prog { absT:=[5,171],keep:=[117,59,58,57,187,188,30,122,56],rdf:=true } Tryz.f53 [.a (.sl (.v 0) (.v 1) (.v 2))] [(.a 0,.prop 3)] 4=t_q9Decode:=by kernel_rfl
def t_q9SameCell:T :=
(.new
(.new
(.br (.o2 .eq (.v 0) (.v 5))
(.call 30 [.a (.sl (.v 1) (.v 2) (.v 3)),.a (.sl (.v 6) (.v 7) (.v 8))] [(.a 1,.prop 4),(.a 6,.prop 9)] [.c] (.w (.a (.bool (.v 12)))) [(.a 1,.prop 4),(.a 6,.prop 9)]
(.ret (.w (.a (.bool (.v 12)))) [(.a 1,.prop 4),(.a 6,.prop 9)]))
(.ret (.w (.a (.bool (.c false)))) [(.a 1,.prop 4),(.a 6,.prop 9)]))))
theorem tree_q9SameCell:tree Tryz.prog { keep:=[117,59,58,57,187,188,30,122,56],rdf:=true } Tryz.f59 [.agg [.int .i64 (.v 0),.sl (.v 1) (.v 2) (.v 3)],.agg [.int .i64 (.v 5),.sl (.v 6) (.v 7) (.v 8)]] [(.a 1,.prop 4),(.a 6,.prop 9)] 10=t_q9SameCell:=by kernel_rfl
def t_cellAt:T :=
(.new
(.new
(.loop [.i,.i,.i,.a,.n,.n,.p,.p] [.e (.o1 .neg (.o1 .neg (.i (-1)))),.e (.o1 .neg (.o1 .neg (.i 0))),.e (.o1 .neg (.o1 .neg (.i 0))),.a .nil,.e (.o2 .nadd (.n 0) (.n 0)),.e (.o2 .nadd (.n 0) (.n 0)),.p [],.p [(.a 0,.prop 3)]]
(.br (.o2 .lt (.v 8) (.o1 .ofNat (.v 1)))
(.need (.o2 .le (.i 0) (.v 8))
(.need (.o1 .isSome (.v 0))
(.op (.load 113 (.tmp 16)) 113 [(16,.w (.a (.eptr 0 (.v 8) 1 0)))] [(.a 0,.prop 14)] [.n,.p,.p] (.w (.a (.ptr (.v 15) 0))) [(.b (.v 15),.prop 16),(.a 0,.prop 17)]
(.call 187 [.a (.ptr (.v 15) 0)] [(.b (.v 15),.prop 16)] [.i] (.w (.a (.int .i64 (.v 18)))) [(.b (.v 15),.prop 16)]
(.br (.o2 .le (.v 18) (.v 7))
(.need (.o1 (.inr .i64) (.o2 .add (.v 8) (.i 1)))
(.again 0 [.e (.o1 .neg (.o1 .neg (.v 7))),.e (.o1 .neg (.o1 .neg (.o2 .add (.v 8) (.i 1)))),.e (.o1 .neg (.o1 .neg (.v 9))),.a (.v 10),.e (.o2 .nadd (.v 11) (.n 0)),.e (.o2 .nadd (.v 12) (.n 0)),.p [(.a 10,.prop 13)],.p [(.a 0,.prop 17),(.b (.v 15),.prop 16)]]))
(.call 188 [.a (.ptr (.v 15) 0),.a (.int .i64 (.v 18)),.a (.int .i64 (.v 4))] [(.b (.v 15),.prop 16)] [.i,.a,.n,.n,.p,.i] (.tup [.agg [.int .i64 (.v 19),.sl (.v 20) (.v 21) (.v 22)],.a (.int .i64 (.v 24))]) [(.a 20,.prop 23),(.b (.v 15),.prop 16)]
(.new
(.br (.o2 .eq (.v 24) (.i 0))
(.need (.o1 (.inr .i64) (.o2 .add (.v 8) (.i 1)))
(.again 0 [.e (.o1 .neg (.o1 .neg (.v 18))),.e (.o1 .neg (.o1 .neg (.o2 .add (.v 8) (.i 1)))),.e (.o1 .neg (.o1 .neg (.v 19))),.a (.v 20),.e (.o2 .nadd (.v 21) (.n 0)),.e (.o2 .nadd (.v 22) (.n 0)),.p [(.a 20,.prop 23)],.p [(.a 0,.prop 17),(.b (.v 15),.prop 16)]]))
(.need (.o1 (.inr .i64) (.o2 .add (.v 8) (.i 1)))
(.again 0 [.e (.o1 .neg (.o1 .neg (.v 7))),.e (.o1 .neg (.o1 .neg (.o2 .add (.v 8) (.i 1)))),.e (.o1 .neg (.o1 .neg (.v 9))),.a (.v 10),.e (.o2 .nadd (.v 11) (.n 0)),.e (.o2 .nadd (.v 12) (.n 0)),.p [(.a 10,.prop 13)],.p [(.a 0,.prop 17),(.b (.v 15),.prop 16)]]))))))))))
(.ret (.w (.agg [.int .i64 (.v 9),.sl (.v 10) (.v 11) (.v 12)])) [(.a 0,.prop 14),(.a 10,.prop 13)])))))
theorem tree_cellAt:tree Tryz.prog { absT:=[213],hv:=[(0,[.a 0,.b (.v 6)])],keep:=[117,59,58,57,187,188,30,122,56],rdf:=true } Tryz.f122 [.a (.sl (.v 0) (.v 1) (.v 2)),.a (.int .i64 (.v 4))] [(.a 0,.prop 3)] 5=t_cellAt:=by kernel_rfl
def t_jCells:T :=
(.loop [.a,.n,.n,.p,.i] [.a .nil,.e (.o2 .nadd (.n 0) (.n 0)),.e (.o2 .nadd (.n 0) (.n 0)),.p [],.e (.o1 .neg (.o1 .neg (.i 0)))]
(.br (.o2 .lt (.v 9) (.o2 .mn (.v 4) (.i 65536)))
(.call 122 [.a (.sl (.v 0) (.v 1) (.v 2)),.a (.int .i64 (.v 9))] [(.a 0,.prop 3)] [.i,.a,.n,.n,.p] (.w (.agg [.int .i64 (.v 10),.sl (.v 11) (.v 12) (.v 13)])) [(.a 11,.prop 14),(.a 0,.prop 3)]
(.new
(.op (.call ⟨.builtin .append,#[.tmp 13,.tmp 17],#[79,79]⟩) 79 [(13,.w (.a (.sl (.v 5) (.v 6) (.v 7)))),(17,.w (.a (.sl (.b (.v 15) 0) (.n 1) (.n 1))))] [(.a 5,.prop 8),(.b (.v 15),.cells [.int .i64 (.v 10),.sl (.v 11) (.v 12) (.v 13)] 68),(.a 11,.prop 14)] [.a,.n,.n,.p] (.w (.a (.sl (.v 16) (.v 17) (.v 18)))) [(.a 16,.prop 19),(.b (.v 15),.cells [.int .i64 (.v 10),.sl (.v 11) (.v 12) (.v 13)] 68),(.a 11,.prop 14)]
(.need (.o1 (.inr .i64) (.o2 .add (.v 9) (.i 1)))
(.again 0 [.a (.v 16),.e (.o2 .nadd (.v 17) (.n 0)),.e (.o2 .nadd (.v 18) (.n 0)),.p [(.a 16,.prop 19)],.e (.o1 .neg (.o1 .neg (.o2 .add (.v 9) (.i 1))))])))))
(.ret (.w (.a (.sl (.v 5) (.v 6) (.v 7)))) [(.a 0,.prop 3),(.a 5,.prop 8)])))
theorem tree_jCells:tree Tryz.prog { absT:=[213],keep:=[117,59,58,57,187,188,30,122,56],rdf:=true } Tryz.f56 [.a (.sl (.v 0) (.v 1) (.v 2)),.a (.int .i64 (.v 4))] [(.a 0,.prop 3)] 5=t_jCells:=by kernel_rfl
end Go.Proofs.YtdieogcemmnaaaaGreatDoor.RX

namespace Go.Proofs.YtdieogcemmnaaaaGreatDoor
set_option linter.unusedSimpArgs false
set_option linter.unusedVariables false
open Go.Proofs.YtdieogcemmnaaaaGreatDoor RX
set_option maxRecDepth 100000
theorem q9SameCell_ok (x y:Int) (a:Option Addr) (n c:Nat) (la:List UInt8) (b:Option Addr) (m d:Nat) (lb:List UInt8) (Sa Sb:HP) (hA:RdL Sa a n (la.map u8v)) (hB:RdL Sb b m (lb.map u8v)) (hla:la.length=n) (hlb:lb.length=m) (hn:n ≤ 140737488355328) :
  Tri Tryz.prog 59 #[.agg #[.int .i64 x,.slice a n c],.agg #[.int .i64 y,.slice b m d]] (HP.sep Sa Sb) (fun v=>HP.and (v = .bool (decide (x=y) && decide (la=lb))) (HP.sep Sa Sb)):=by
 refine tri_of_tree (ρ:=[.i x,.a a,.n n,.n c,.p Sa,.i y,.a b,.n m,.n d,.p Sb]) mixed Tryz.func59 tree_q9SameCell ?_
 unfold t_q9SameCell
 simp only [T.den,E.prop,E.den,RX.look,F1.app,F2.app,Uni.int_i,Uni.nat_n,Uni.bool_c,Uni.str_s,Uni.adr_a,Uni.val_v,Uni.hp_p,hden,cden,V.den,W.den,A.den,BR.den,SA.den,FV.den,capV,exs,exP,allP,Cur.app,List.map_cons,List.map_nil,List.cons_append,List.nil_append,List.drop_succ_cons,List.drop_zero,List.length_cons,List.length_nil,Nat.zero_add,Nat.reduceAdd,Int.neg_neg,Bool.not_not,List.append_nil,Nat.add_zero,List.getElem?_cons_zero,List.getElem?_cons_succ,Decidable.not_not,semW_eq,ne_eq,Nat.reduceEqDiff,not_false_eq_true]
 intro _ _
 refine ⟨fun h => ?_,fun h => .of fun R h' H=>⟨by simp [h],H⟩⟩
 refine (same01_ok a n c la b m d lb Sa Sb hA hB hla hlb hn).weak (fun _ _ h=>h) ?_
 rintro v R h' ⟨rfl,H⟩
 exact ⟨_,rfl,.of fun R h'' H=>⟨by simp [h],H⟩,H⟩
set_option maxHeartbeats 2000000 in
theorem q9Encode_ok (x:RPg) (a:Option Addr) (c:Nat) (S:HP) (hr:RdL S a x.bytes.length (x.bytes.map u8v)) (ha:x.bytes.length ≠ 0 → a.isSome=true) (hb:x.bytes.length ≤ 1000) :
  Tri Tryz.prog 52 #[.agg #[.int .i64 x.kind,.int .i64 x.n,.int .i64 x.r,.int .i64 x.w,.slice a x.bytes.length c]] S
  (fun v=>HP.ex fun q:List UInt8=>HP.ex fun a':Option Addr=>HP.ex fun c':Nat=>HP.and (v = .slice a' q.length c' ∧ q.length ≤ 2000) (HP.sep (OwB a' q.length c' q) S)):=by
 refine tri_of_tree (ρ:=[.i x.kind,.i x.n,.i x.r,.i x.w,.a a,.n x.bytes.length,.n c,.p S]) mixed Tryz.func52 tree_q9Encode ?_
 unfold t_q9Encode
 simp only [T.den,E.prop,E.den,RX.look,F1.app,F2.app,Uni.int_i,Uni.nat_n,Uni.bool_c,Uni.str_s,Uni.adr_a,Uni.val_v,Uni.hp_p,hden,cden,V.den,W.den,A.den,BR.den,SA.den,FV.den,capV,exs,exP,allP,Cur.app,List.map_cons,List.map_nil,List.cons_append,List.nil_append,List.drop_succ_cons,List.drop_zero,List.length_cons,List.length_nil,Nat.zero_add,Nat.reduceAdd,Int.neg_neg,Bool.not_not,List.append_nil,Nat.add_zero,List.getElem?_cons_zero,List.getElem?_cons_succ,Decidable.not_not,semW_eq,ne_eq,Nat.reduceEqDiff,not_false_eq_true]
 intro y z
 rw [← byteI_val,← linksN_val,← linksN_val,← linksN_val]
 have bs : ∀ (a1:Option Addr) (c1:Nat) (l:List UInt8),l.length ≤ 100 → Tri Tryz.prog 104 #[.slice a1 l.length c1,.slice a x.bytes.length c] (HP.sep (OwB a1 l.length c1 l) S) (fun v=>HP.ex fun a'=>HP.ex fun n'=>HP.ex fun c'=>HP.ex fun p'=>HP.ex fun q'=>HP.and (v = .slice a' n' c') (HP.and (HP.ent (HP.sep S p') (HP.ex fun q:List UInt8=>HP.ex fun a'':Option Addr=>HP.ex fun c'':Nat=>HP.and (Value.slice a' n' c' = .slice a'' q.length c'' ∧ q.length ≤ 2000) (HP.sep (OwB a'' q.length c'' q) S))) (HP.sep p' (HP.sep q' S)))):=fun a1 c1 l hl=>by
  refine (r1Bytes_ok a1 c1 l a c x.bytes S hr ha (by omega)).weak (fun _ _ h=>h) ?_
  rintro v R h ⟨a2,c2,rfl,H⟩
  exact ⟨a2,_,c2,_,HP.tt,rfl,.of fun R h H=>⟨_,a2,c2,⟨rfl,by simp [lenB'_len]; omega⟩,HP.sep_comm H⟩,HP.sep_mono H (fun _ h=>h) fun w hw=>HP.tt_sep hw⟩
 refine (r1PutE (some ⟨z,0,none⟩) 1 [byteI x.kind] (linksN x.n) 8 (by omega) (linksN_lt' _) (by simp)).weak (fun R h H=>one_ow H) ?_
 rintro v R h ⟨a1,c1,rfl,H⟩
 refine ⟨a1,_,c1,OwB a1 ([byteI x.kind] ++ beN (linksN x.n) 8).length c1 ([byteI x.kind] ++ beN (linksN x.n) 8),HP.tt,rfl,?_,H⟩
 clear H
 have rt : ∀ (a1:Option Addr) (c1:Nat) (l:List UInt8),l.length ≤ 100 → HP.ent (HP.sep S (OwB a1 l.length c1 l)) (HP.ex fun q:List UInt8=>HP.ex fun a'':Option Addr=>HP.ex fun c'':Nat=>HP.and (Value.slice a1 l.length c1 = .slice a'' q.length c'' ∧ q.length ≤ 2000) (HP.sep (OwB a'' q.length c'' q) S)):=fun a1 c1 l hl => .of fun R h H=>⟨l,a1,c1,⟨rfl,by omega⟩,HP.sep_comm H⟩
 refine ⟨fun h5 => ?_,fun h5=>⟨fun _=>bs a1 c1 _ (by simp [beN_len]),fun _=>⟨fun _=>bs a1 c1 _ (by simp [beN_len]),fun _=>rt a1 c1 _ (by simp [beN_len])⟩⟩⟩
 refine (r1PutE a1 c1 _ (linksN x.r) 8 (by omega) (linksN_lt' _) (by simp [beN_len])).weak (fun _ _ h=>h) ?_
 rintro v R h ⟨a2,c2,rfl,H⟩
 refine ⟨a2,_,c2,_,HP.tt,rfl,?_,H⟩
 clear H
 refine (r1PutE a2 c2 _ (linksN x.w) 8 (by omega) (linksN_lt' _) (by simp [beN_len])).weak (fun _ _ h=>h) ?_
 rintro v R h ⟨a3,c3,rfl,H⟩
 refine ⟨a3,_,c3,_,HP.tt,rfl,?_,H⟩
 clear H
 exact ⟨fun _=>bs a3 c3 _ (by simp [beN_len]),fun _=>⟨fun _=>bs a3 c3 _ (by simp [beN_len]),fun _=>rt a3 c3 _ (by simp [beN_len])⟩⟩
theorem led1 {l:List UInt8} (h1:(numR (l,false) 1).1=1) (h2:endedR (bytesR (numR (numR (l,false) 1).2 8).2 65536).2=true) (h3:addrOk (intOf64 (numR (numR (l,false) 1).2 8).1)=true) (hd:(bytesR (numR (numR (l,false) 1).2 8).2 65536).1.length ≤ 65536) (r w:Int):Led l ⟨1,intOf64 (numR (numR (l,false) 1).2 8).1,r,w,(bytesR (numR (numR (l,false) 1).2 8).2 65536).1⟩ where
 kind:=by show (1:Int) ≤ 1; omega
 len:=hd
 step s:=⟨{ s with cells:=fput s.cells (intOf64 (numR (numR (l,false) 1).2 8).1) (some ⟨1,(bytesR (numR (numR (l,false) 1).2 8).2 65536).1⟩),top:=max s.top ((intOf64 (numR (numR (l,false) 1).2 8).1) + 1) },by unfold followS; simp only [h1]; rw [if_pos (by rw [h2,h3]; rfl)],rfl,rfl,rfl⟩
theorem led2 {l:List UInt8} (h1:(numR (l,false) 1).1=2) (h2:endedR (numR (numR (l,false) 1).2 8).2=true) (h3:addrOk (intOf64 (numR (numR (l,false) 1).2 8).1)=true) (r w:Int):Led l ⟨2,intOf64 (numR (numR (l,false) 1).2 8).1,r,w,[]⟩ where
 kind:=by show (1:Int) ≤ 2; omega
 len:=Nat.zero_le _
 step s:=⟨{ s with cells:=fput s.cells (intOf64 (numR (numR (l,false) 1).2 8).1) (some ⟨2,[]⟩),top:=max s.top ((intOf64 (numR (numR (l,false) 1).2 8).1) + 1) },by unfold followS; simp only [h1]; rw [if_pos (by rw [h2,h3]; rfl)],rfl,rfl,rfl⟩
theorem led3 {l:List UInt8} (h1:(numR (l,false) 1).1=3) (h2:endedR (numR (numR (l,false) 1).2 8).2=true) (h3:addrOk (intOf64 (numR (numR (l,false) 1).2 8).1)=true) (r w:Int):Led l ⟨3,intOf64 (numR (numR (l,false) 1).2 8).1,r,w,[]⟩ where
 kind:=by show (1:Int) ≤ 3; omega
 len:=Nat.zero_le _
 step s:=⟨{ s with low:=(intOf64 (numR (numR (l,false) 1).2 8).1) },by unfold followS; simp only [h1]; rw [if_pos (by rw [h2,h3]; rfl)],rfl,rfl,rfl⟩
theorem led4 {l:List UInt8} (h1:(numR (l,false) 1).1=4) (h2:endedR (numR (numR (l,false) 1).2 8).2=true) (h3:numOk (intOf64 (numR (numR (l,false) 1).2 8).1)=true) (r w:Int):Led l ⟨4,intOf64 (numR (numR (l,false) 1).2 8).1,r,w,[]⟩ where
 kind:=by show (1:Int) ≤ 4; omega
 len:=Nat.zero_le _
 step s:=⟨{ s with epoch:=(intOf64 (numR (numR (l,false) 1).2 8).1) },by unfold followS; simp only [h1]; rw [if_pos (by rw [h2,h3]; rfl)],rfl,rfl,rfl⟩
theorem led5 {l:List UInt8} (h1:(numR (l,false) 1).1=5) (h2:endedR (numR (numR (numR (numR (l,false) 1).2 8).2 8).2 8).2=true)
  (h3:propOk (intOf64 (numR (numR (l,false) 1).2 8).1) (intOf64 (numR (numR (numR (l,false) 1).2 8).2 8).1) (intOf64 (numR (numR (numR (numR (l,false) 1).2 8).2 8).2 8).1)=true) (r w:Int):Led l ⟨5,intOf64 (numR (numR (l,false) 1).2 8).1,r,w,[]⟩ where
 kind:=by show (1:Int) ≤ 5; omega
 len:=Nat.zero_le _
 step s:=⟨promS s (intOf64 (numR (numR (l,false) 1).2 8).1) (intOf64 (numR (numR (numR (l,false) 1).2 8).2 8).1) (intOf64 (numR (numR (numR (numR (l,false) 1).2 8).2 8).2 8).1),by unfold followS; simp only [h1]; rw [if_pos (by rw [h2,h3]; rfl)],rfl,rfl,rfl⟩
theorem led6 {l:List UInt8} (h1:(numR (l,false) 1).1=6) (h2:endedR (bytesR (numR (numR (numR (numR (l,false) 1).2 8).2 8).2 8).2 1000).2=true)
  (h3:propOk (intOf64 (numR (numR (l,false) 1).2 8).1) (intOf64 (numR (numR (numR (l,false) 1).2 8).2 8).1) (intOf64 (numR (numR (numR (numR (l,false) 1).2 8).2 8).2 8).1)=true) (r w:Int) (d:List UInt8) (hd:d.length ≤ 65536):Led l ⟨6,intOf64 (numR (numR (l,false) 1).2 8).1,r,w,d⟩ where
 kind:=by show (1:Int) ≤ 6; omega
 len:=hd
 step s:=⟨accS s (intOf64 (numR (numR (l,false) 1).2 8).1) (intOf64 (numR (numR (numR (l,false) 1).2 8).2 8).1) (intOf64 (numR (numR (numR (numR (l,false) 1).2 8).2 8).2 8).1) (bytesR (numR (numR (numR (numR (l,false) 1).2 8).2 8).2 8).2 1000).1,by unfold followS; simp only [h1]; rw [if_pos (by rw [h2,h3]; rfl)],rfl,rfl,rfl⟩
end Go.Proofs.YtdieogcemmnaaaaGreatDoor

namespace Go.Proofs.YtdieogcemmnaaaaGreatDoor
set_option linter.unusedSimpArgs false
set_option linter.unusedVariables false
open Go.Proofs.YtdieogcemmnaaaaGreatDoor RX
set_option maxRecDepth 100000
theorem sepN_pers {α:Type} {f:α → HP} {R h:PH} : ∀ {l:List α},(∀ x ∈ l,∀ h',(f x).p R h') → (sepN (l.map f)).p R h
 | [],_=>trivial
 | x :: l,H=>sepN_cons.2 ⟨PH.none',h,PH.none_dj _,PH.none_le _,PH.le.refl _,H x (by simp) _,sepN_pers fun y hy=>H y (by simp [hy])⟩
end Go.Proofs.YtdieogcemmnaaaaGreatDoor

namespace Go.Proofs.YtdieogcemmnaaaaGreatDoor
set_option linter.unusedSimpArgs false
set_option linter.unusedVariables false
open Go.Proofs.YtdieogcemmnaaaaGreatDoor RX
set_option maxRecDepth 100000
structure UE where
 ub:Nat
 bd:Nat
 ps:List Pg
 lasts:Nat
 s:USt
def kU:PK UE:=⟨113,1,by decide,fun x=>[.pointer (some ⟨x.ub,0,none⟩)],fun _=>rfl,fun e u hu=>by simp at hu; rcases hu with rfl; rfl,fun x=>URep x.ub x.bd (DvRep x.bd 50 x.ps x.lasts) x.s⟩
structure CeN where
 cs:CellS
 a:Option Addr
 c:Nat
def kCN:PK CeN:=⟨68,2,by decide,fun x=>[.int .i64 x.cs.what,.slice x.a x.cs.data.length x.c],fun _=>rfl,fun e u hu=>by simp at hu; rcases hu with rfl | rfl <;> rfl,fun x=>RoB x.a x.cs.data.length x.cs.data⟩
theorem take_snocJ {α:Type} {l:List α} {k:Nat} {x:α} (h:l[k]? = some x):l.take (k + 1)=l.take k ++ [x]:=by
 obtain ⟨hk,rfl⟩:=List.getElem?_eq_some_iff.1 h
 rw [List.take_succ_eq_append_getElem hk]
def unitsT (l:List UE) (at':Int):List (Int × (CellS × Int)):=l.map fun x=>unitT at' x.s
theorem undUj:Tryz.prog.underlying 113=some (.pointer 213):=by kernel_rfl
theorem aggUp:aggT Tryz.prog 113=false:=by kernel_rfl
theorem szUp:szT Tryz.prog 113=1:=by kernel_rfl
theorem unitsT_snoc {us:List UE} {k:Nat} {x:UE} (h:us[k]? = some x) (a:Int):unitsT (us.take (k + 1)) a=unitsT (us.take k) a ++ [unitT a x.s]:=by
 unfold unitsT
 rw [take_snocJ h,List.map_append]; rfl
set_option maxHeartbeats 2000000 in
theorem cellAt_ok (a:Option Addr) (n c:Nat) (us:List UE) (at':Int) (hn:n ≤ 1000) :
  Tri Tryz.prog 122 #[.slice a n c,.int .i64 at'] (PL kU a n c us)
   (fun v=>HP.ex fun a'=>HP.ex fun c'=>HP.and (v = .agg #[.int .i64 (newC (unitsT us at')).1.what,.slice a' (newC (unitsT us at')).1.data.length c']) (HP.sep (RoB a' (newC (unitsT us at')).1.data.length (newC (unitsT us at')).1.data) (PL kU a n c us))):=by
 refine Tri.fact (φ:=us.length=n ∧ (n ≠ 0 → a.isSome=true)) (fun R h H=>⟨PL.len H,fun hn=>PL.isAt H hn⟩) fun ⟨hl,ha⟩ => ?_
 refine tri_of_tree (ρ:=[.a a,.n n,.n c,.p (PL kU a n c us),.i at']) mixed Tryz.func122 tree_cellAt ?_
 unfold t_cellAt
 simp only [T.den,E.prop,E.den,RX.look,F1.app,F2.app,Uni.int_i,Uni.nat_n,Uni.bool_c,Uni.str_s,Uni.adr_a,Uni.val_v,Uni.hp_p,hden,cden,V.den,W.den,A.den,BR.den,SA.den,FV.den,capV,exs,exP,allP,Cur.app,List.map_cons,List.map_nil,List.cons_append,List.nil_append,List.drop_succ_cons,List.drop_zero,List.length_cons,List.length_nil,Nat.zero_add,Nat.reduceAdd,Int.neg_neg,Bool.not_not,List.append_nil,Nat.add_zero,List.getElem?_cons_zero,List.getElem?_cons_succ,Decidable.not_not,semW_eq,semW_load,ne_eq,Nat.reduceEqDiff,not_false_eq_true]
 intro _ _
 refine ⟨fun nw i w a1 n1 c1 Q P => ∃ k:Nat,i=k ∧ k ≤ n ∧ newC (unitsT (us.take k) at')=((newC (unitsT (us.take k) at')).1,nw) ∧ w=(newC (unitsT (us.take k) at')).1.what ∧ n1=(newC (unitsT (us.take k) at')).1.data.length ∧ HP.ent Q (RoB a1 n1 (newC (unitsT (us.take k) at')).1.data) ∧ HP.ent P (PL kU a n c us),fun _ i _ _ _ _ _ _=>n - i.toNat,⟨0,rfl,Nat.zero_le _,rfl,rfl,rfl,.of fun R h H=>RoC.nil 1 none R h,.refl _⟩,?_⟩
 rintro nw _ _ a1 _ c1 Q P ⟨k,rfl,hk,hN,rfl,rfl,hQ,hP⟩
 refine ⟨fun hlt=>⟨by omega,fun _=>⟨ha (by omega),fun _ => ?_⟩⟩,fun hge => ?_⟩
 ·obtain ⟨x,hx⟩ : ∃ x,us[k]? = some x:=⟨_,List.getElem?_eq_getElem (by omega)⟩
  have nxt:IntKind.i64.min ≤ (k:Int) + 1 ∧ (k:Int) + 1 ≤ IntKind.i64.max:=inI64 _ (by omega) (by omega)
  have e:us.set k x=us:=by
   obtain ⟨hk',rfl⟩:=List.getElem?_eq_some_iff.1 hx
   exact List.set_getElem_self hk'
  have hj:HP.ent (HP.sep (PRest kU a n c us k) (URep x.ub x.bd (DvRep x.bd 50 x.ps x.lasts) x.s)) (PL kU a n c us) := .of fun R h H=>by
   have:=PL.join (K:=kU) (y:=x) hx rfl H
   rwa [e] at this
  have sn:newC (unitsT (us.take (k + 1)) at')=if (ureadS x.s x.s.epoch at').2=0 ∧ nw < x.s.epoch then ((ureadS x.s x.s.epoch at').1,x.s.epoch) else newC (unitsT (us.take k) at'):=by
   rw [unitsT_snoc hx,newC_snoc,show (newC (unitsT (us.take k) at')).2=nw from congrArg Prod.snd hN]; rfl
  rw [Int.toNat_natCast]
  refine (OTri.preL (PL.load1 (K:=kU) undUj aggUp szUp rfl rfl hx) hP).weak (fun _ _ h=>h) ?_
  rintro v R h ⟨rfl,H⟩
  refine ⟨x.ub,URep x.ub x.bd (DvRep x.bd 50 x.ps x.lasts) x.s,PRest kU a n c us k,rfl,?_,H⟩
  clear H
  have keep:newC (unitsT (us.take (k + 1)) at')=newC (unitsT (us.take k) at') → ∃ k':Nat,(k:Int) + 1=k' ∧ k' ≤ n ∧ newC (unitsT (us.take k') at')=((newC (unitsT (us.take k') at')).1,nw) ∧ (newC (unitsT (us.take k) at')).1.what=(newC (unitsT (us.take k') at')).1.what ∧ (newC (unitsT (us.take k) at')).1.data.length=(newC (unitsT (us.take k') at')).1.data.length ∧ HP.ent Q (RoB a1 (newC (unitsT (us.take k) at')).1.data.length (newC (unitsT (us.take k') at')).1.data) ∧ HP.ent (HP.sep (PRest kU a n c us k) (URep x.ub x.bd (DvRep x.bd 50 x.ps x.lasts) x.s)) (PL kU a n c us):=fun hE =>
   ⟨k + 1,by omega,by omega,by rw [hE]; exact hN,by rw [hE],by rw [hE],by rw [hE]; exact hQ,hj⟩
  refine (uEpoch_ok x.ub x.bd _ x.s).weak (fun _ _ h=>h) ?_
  rintro v R h ⟨rfl,H⟩
  refine ⟨_,rfl,⟨fun hle=>⟨nxt,fun _=>⟨keep (by rw [sn,if_neg (fun h=>absurd h.2 (by omega))]),by dsimp only; omega⟩⟩,fun hgt => ?_⟩,H⟩
  clear H
  refine (uRead_ok x.ub x.bd _ x.s x.s.epoch at').weak (fun _ _ h=>h) ?_
  rintro v R h ⟨a2,c2,rfl,H⟩
  refine ⟨_,a2,_,c2,RoB a2 (ureadS x.s x.s.epoch at').1.data.length (ureadS x.s x.s.epoch at').1.data,_,rfl,fun _=>⟨fun h0=>⟨nxt,fun _=>⟨?_,by dsimp only; omega⟩⟩,fun h0=>⟨nxt,fun _=>⟨keep (by rw [sn,if_neg (fun h=>absurd h.1 h0)]),by dsimp only; omega⟩⟩⟩,HP.sep_comm H⟩
  have hE:newC (unitsT (us.take (k + 1)) at')=((ureadS x.s x.s.epoch at').1,x.s.epoch):=by rw [sn,if_pos ⟨h0,by omega⟩]
  exact ⟨k + 1,by omega,by omega,by rw [hE],by rw [hE],by rw [hE],by rw [hE]; exact .refl _,hj⟩
 ·obtain rfl:k=n:=by omega
  rw [List.take_of_length_le (by omega)] at *
  exact (hP.sep2 hQ).trans (.of fun R h H=>⟨a1,c1,rfl,HP.sep_comm H⟩)
theorem appCN (a:Option Addr) (n c:Nat) (l:List CeN) (q:Nat) (x:CeN) (hb:n ≤ 1000000) :
  OTri Tryz.prog (appS 79 79 (.slice a n c) (.slice (some ⟨q,0,none⟩) 1 1)) (HP.sep (PL kCN a n c l) (HP.sep (HP.one q (.cells #[.int .i64 x.cs.what,.slice x.a x.cs.data.length x.c] 68 (0,0))) (RoB x.a x.cs.data.length x.cs.data)))
   (fun v=>HP.ex fun a'=>HP.ex fun c'=>HP.and (v = .slice a' (n + 1) c') (HP.sep (PL kCN a' (n + 1) c' (l ++ [x])) (HP.sep (HP.one q (.cells #[.int .i64 x.cs.what,.slice x.a x.cs.data.length x.c] 68 (0,0))) (RoB x.a x.cs.data.length x.cs.data)))):=by
 refine OTri.fact (φ:=l.length=n) (fun R h H=>PL.len (HP.sep_left H)) fun hl => ?_
 obtain ⟨i,z,hi,i1,i2,i3,i4⟩:=info_pz infoCe
 have:=append_ok 79 79 68 i z undCs hi i1 (by rw [i2,i3]) (by omega) a n c (l.flatMap kCN.vals) (HP.one q (.cells #[.int .i64 x.cs.what,.slice x.a x.cs.data.length x.c] 68 (0,0))) ⟨q,0,none⟩ 1 1 [.int .i64 x.cs.what,.slice x.a x.cs.data.length x.c] (one_rd q _ _) (by rw [i3]; rfl)
  (fun u hu=>by simp only [List.mem_cons,List.not_mem_nil,or_false] at hu; rcases hu with rfl | rfl <;> rfl) (by unfold maxLen; omega) (by rw [i4]; omega)
 rw [i3] at this
 refine (this.frame (HP.sep (sepN (l.map kCN.rep)) (RoB x.a x.cs.data.length x.cs.data))).weak (fun R h H => ?_) ?_
 ·have H1:=HP.sep_assoc (HP.sep_mono H (fun _ h=>h.2) fun _ h=>h)
  exact HP.sep_assoc' (HP.pick [_,_,_,_] [0,2,1,3] (by decide) rfl H1)
 rintro v R h ⟨x1,x2,dj,l1,l2,⟨a',c',rfl,H1⟩,H2⟩
 have hro : ∀ y ∈ l ++ [x],∀ h',(kCN.rep y).p R h':=fun y hy h'=>by
  rcases List.mem_append.1 hy with hy | hy
  ·have:=sepN_mem (List.mem_map.2 ⟨y,hy,rfl⟩) (HP.sep_left H2)
   exact this
  ·simp only [List.mem_cons,List.not_mem_nil,or_false] at hy
   subst hy
   have:=HP.sep_right H2
   exact this
 refine ⟨a',c',rfl,?_⟩
 have H3:(HP.sep (HP.sep (OwC 68 2 a' (n + 1) c' (l.flatMap kCN.vals ++ [.int .i64 x.cs.what,.slice x.a x.cs.data.length x.c])) (HP.one q (.cells #[.int .i64 x.cs.what,.slice x.a x.cs.data.length x.c] 68 (0,0)))) (RoB x.a x.cs.data.length x.cs.data)).p R h:=⟨x1,x2,dj,l1,l2,H1,HP.sep_right H2⟩
 refine HP.sep_mono (HP.sep_assoc H3) (fun y hy=>⟨by simp [hl],?_⟩) fun _ h=>h
 have e:(l ++ [x]).flatMap kCN.vals=l.flatMap kCN.vals ++ [.int .i64 x.cs.what,.slice x.a x.cs.data.length x.c]:=by
  rw [List.flatMap_append]; rfl
 rw [e]
 exact ⟨y,PH.none',PH.dj_none _,PH.le.refl _,PH.none_le _,hy,sepN_pers hro⟩
def cellsT (us:List UE) (m:Nat):List CellS:=(List.range m).map fun i=>(newC (unitsT us (i:Nat))).1
theorem cellsT_succ (us:List UE) (m:Nat):cellsT us (m + 1)=cellsT us m ++ [(newC (unitsT us (m:Nat))).1]:=by
 unfold cellsT; rw [List.range_succ,List.map_append]; rfl
set_option maxHeartbeats 2000000 in
theorem jCells_ok (a:Option Addr) (n c:Nat) (us:List UE) (m:Int) (hn:n ≤ 1000) (hm:m ≤ 1000) :
  Tri Tryz.prog 56 #[.slice a n c,.int .i64 m] (PL kU a n c us)
   (fun v=>HP.ex fun a'=>HP.ex fun c'=>HP.ex fun es:List CeN=>HP.and (v = .slice a' (max m 0).toNat c' ∧ es.map CeN.cs=cellsT us (max m 0).toNat) (HP.sep (PL kCN a' (max m 0).toNat c' es) (PL kU a n c us))):=by
 have hM:(((max m 0).toNat:Nat):Int)=max m 0:=by omega
 generalize (max m 0).toNat=M at *
 refine tri_of_tree (ρ:=[.a a,.n n,.n c,.p (PL kU a n c us),.i m]) mixed Tryz.func56 tree_jCells ?_
 unfold t_jCells
 simp only [T.den,E.prop,E.den,RX.look,F1.app,F2.app,Uni.int_i,Uni.nat_n,Uni.bool_c,Uni.str_s,Uni.adr_a,Uni.val_v,Uni.hp_p,hden,cden,V.den,W.den,A.den,BR.den,SA.den,FV.den,capV,exs,exP,allP,Cur.app,List.map_cons,List.map_nil,List.cons_append,List.nil_append,List.drop_succ_cons,List.drop_zero,List.length_cons,List.length_nil,Nat.zero_add,Nat.reduceAdd,Int.neg_neg,Bool.not_not,List.append_nil,Nat.add_zero,List.getElem?_cons_zero,List.getElem?_cons_succ,Decidable.not_not,semW_eq,semW_append,ne_eq,Nat.reduceEqDiff,not_false_eq_true]
 refine ⟨fun a1 n1 c1 Q i => ∃ (k:Nat) (es:List CeN),i=k ∧ k ≤ M ∧ n1=k ∧ es.map CeN.cs=cellsT us k ∧ HP.ent Q (PL kCN a1 k c1 es),fun _ _ _ _ i=>M - i.toNat,⟨0,[],rfl,Nat.zero_le _,rfl,rfl,.of fun R h H=>⟨rfl,h,PH.none',PH.dj_none _,PH.le.refl _,PH.none_le _,OwC.nil _ _ R h,trivial⟩⟩,?_⟩
 rintro a1 k c1 Q _ ⟨_,es,rfl,hk,rfl,hes,hQ⟩
 refine ⟨fun hlt => ?_,fun hge => ?_⟩
 ·have nxt:IntKind.i64.min ≤ (k:Int) + 1 ∧ (k:Int) + 1 ≤ IntKind.i64.max:=inI64 _ (by omega) (by omega)
  refine (cellAt_ok a n c us k hn).weak (fun _ _ h=>h) ?_
  rintro v R h ⟨a2,c2,rfl,H⟩
  refine ⟨(newC (unitsT us k)).1.what,a2,(newC (unitsT us k)).1.data.length,c2,RoB a2 (newC (unitsT us k)).1.data.length (newC (unitsT us k)).1.data,rfl,fun q => ?_,H⟩
  clear H
  refine (OTri.preL (appCN a1 k c1 es q ⟨(newC (unitsT us k)).1,a2,c2⟩ (by omega)) (hQ.sep _)).weak (fun _ _ h=>h) ?_
  rintro v R h ⟨a3,c3,rfl,H⟩
  refine ⟨a3,_,c3,_,rfl,⟨nxt,fun _=>⟨⟨k + 1,_,by omega,by omega,rfl,?_,.refl _⟩,by dsimp only; omega⟩⟩,H⟩
  rw [List.map_append,hes,cellsT_succ]; rfl
 ·have hkM:k=M:=by omega
  subst hkM
  exact ((HP.ent.refl _).sep2 hQ).trans (.of fun R h H=>⟨a1,c1,es,⟨rfl,hes⟩,HP.sep_comm H⟩)
end Go.Proofs.YtdieogcemmnaaaaGreatDoor

namespace Go.Proofs.YtdieogcemmnaaaaGreatDoor
set_option linter.unusedSimpArgs false
set_option linter.unusedVariables false
open Go.Proofs.YtdieogcemmnaaaaGreatDoor RX
set_option maxRecDepth 100000
def pgV (x:RPg) (a:Option Addr) (c:Nat):Value := .agg #[.int .i64 x.kind,.int .i64 x.n,.int .i64 x.r,.int .i64 x.w,.slice a x.bytes.length c]
def Dec9 (l:List UInt8) (v:Value):HP:=HP.ex fun x:RPg=>HP.ex fun a:Option Addr=>HP.ex fun c:Nat=>HP.ex fun ok:Bool=>HP.and (v = .tuple #[pgV x a c,.bool ok] ∧ (ok=true → Led l x)) (OwB a x.bytes.length c x.bytes)
theorem no9 {l:List UInt8} {k n r w:Int} {a:Option Addr} {m c:Nat} {d:List UInt8} (hm:d.length=m):HP.ent (OwB a m c d) (Dec9 l (.tuple #[.agg #[.int .i64 k,.int .i64 n,.int .i64 r,.int .i64 w,.slice a m c],.bool false])):=by
 subst hm
 exact .of fun R h H=>⟨⟨k,n,r,w,d⟩,a,c,false,⟨rfl,fun e=>by cases e⟩,H⟩
theorem no9' {l:List UInt8} {k n r w:Int} {A:HP}:HP.ent A (Dec9 l (.tuple #[.agg #[.int .i64 k,.int .i64 n,.int .i64 r,.int .i64 w,.slice none 0 0],.bool false])) :=
 .of fun R h H=>⟨⟨k,n,r,w,[]⟩,none,0,false,⟨rfl,fun e=>by cases e⟩,OwC.nil _ _ R h⟩
theorem yes9 {l:List UInt8} {k n r w:Int} {ok:Bool} {a:Option Addr} {m c:Nat} {d:List UInt8} (hm:d.length=m) (h:ok=true → Led l ⟨k,n,r,w,d⟩):HP.ent (OwB a m c d) (Dec9 l (.tuple #[.agg #[.int .i64 k,.int .i64 n,.int .i64 r,.int .i64 w,.slice a m c],.bool ok])):=by
 subst hm
 exact .of fun R h' H=>⟨⟨k,n,r,w,d⟩,a,c,ok,⟨rfl,h⟩,H⟩
theorem yes9' {l:List UInt8} {k n r w:Int} {ok:Bool} {A:HP} (h:ok=true → Led l ⟨k,n,r,w,[]⟩):HP.ent A (Dec9 l (.tuple #[.agg #[.int .i64 k,.int .i64 n,.int .i64 r,.int .i64 w,.slice none 0 0],.bool ok])) :=
 .of fun R h' H=>⟨⟨k,n,r,w,[]⟩,none,0,ok,⟨rfl,h⟩,OwC.nil _ _ R h'⟩
theorem bytesR_most (s:RS) (m:Nat):(bytesR s m).1.length ≤ m:=by
 have h1:(bytesR s m).1.length ≤ (toldR s m).1:=takeR_len _ _
 have h2:(toldR s m).1 ≤ m:=by
  unfold toldR
  split
  ·exact Nat.zero_le _
  split
  ·exact Nat.zero_le _
  ·omega
 omega
section
variable {l:List UInt8}
abbrev kd9 (l:List UInt8):Int:=((numR (l,false) 1).1:Int)
abbrev s9 (l:List UInt8):RS:=(numR (numR (l,false) 1).2 8).2
abbrev n9 (l:List UInt8):Int:=IntKind.i64.wrap ((numR (numR (l,false) 1).2 8).1:Int)
abbrev end9 (s:RS):Int:=if s.2=true ∨ s.1 ≠ [] then 3 else 0
theorem ledA (h1:kd9 l=1) (he:end9 (bytesR (s9 l) 65536).2=0) (h0:0 ≤ n9 l) (h:n9 l ≤ 4294967296) (r w:Int):Led l ⟨kd9 l,n9 l,r,w,(bytesR (s9 l) 65536).1⟩:=by
 rw [h1]
 exact led1 (by have:((numR (l,false) 1).1:Int)=1:=h1; omega) (endedR_yes he) (addr_iff.2 ⟨h0,h⟩) (bytesR_most _ 65536) r w
theorem ledB (h1 : ¬ kd9 l < 1) (h2 : ¬ 6 < kd9 l) (h3 : ¬ 5 ≤ kd9 l) (h4 : ¬ kd9 l=1) (h5 : ¬ kd9 l=4) (he:end9 (s9 l)=0) (h0:0 ≤ n9 l) (h:n9 l ≤ 4294967296) (r w:Int):Led l ⟨kd9 l,n9 l,r,w,[]⟩:=by
 have ha:addrOk (n9 l)=true:=addr_iff.2 ⟨h0,h⟩
 have hk:kd9 l=((numR (l,false) 1).1:Int):=rfl
 by_cases e:kd9 l=2
 ·rw [e]
  exact led2 (by omega) (endedR_yes he) ha r w
 ·have e3:kd9 l=3:=by omega
  rw [e3]
  exact led3 (by omega) (endedR_yes he) ha r w
theorem ledC (h1:kd9 l=4) (he:end9 (s9 l)=0) (h:numOk (n9 l)=true) (r w:Int):Led l ⟨kd9 l,n9 l,r,w,[]⟩:=by
 rw [h1]
 exact led4 (by have:((numR (l,false) 1).1:Int)=4:=h1; omega) (endedR_yes he) h r w
abbrev r9 (l:List UInt8):Int:=IntKind.i64.wrap ((numR (s9 l) 8).1:Int)
abbrev w9 (l:List UInt8):Int:=IntKind.i64.wrap ((numR (numR (s9 l) 8).2 8).1:Int)
theorem prop9 {n r w:Int} (h1:1 ≤ n) (h2:numOk n=true) (h3:numOk r=true) (h4:numOk w=true):propOk n r w=true:=by
 have:=num_iff.1 h2
 unfold propOk
 rw [h3,h4]
 simp; omega
theorem ledD (h2 : ¬ 6 < kd9 l) (h3:5 ≤ kd9 l) (h5 : ¬ kd9 l=6) (he:end9 (numR (numR (s9 l) 8).2 8).2=0) (g1:1 ≤ n9 l) (g2:numOk (n9 l)=true) (g3:numOk (r9 l)=true) (g4:numOk (w9 l)=true) (r w:Int):Led l ⟨kd9 l,n9 l,r,w,[]⟩:=by
 have e:kd9 l=5:=by omega
 have hk:kd9 l=((numR (l,false) 1).1:Int):=rfl
 rw [e]
 exact led5 (by omega) (endedR_yes he) (prop9 g1 g2 g3 g4) r w
theorem ledE (h5:kd9 l=6) (he:end9 (bytesR (numR (numR (s9 l) 8).2 8).2 1000).2=0) (g1:1 ≤ n9 l) (g2:numOk (n9 l)=true) (g3:numOk (r9 l)=true) (g4:numOk (w9 l)=true) (r w:Int):Led l ⟨kd9 l,n9 l,r,w,(bytesR (numR (numR (s9 l) 8).2 8).2 1000).1⟩:=by
 have hk:kd9 l=((numR (l,false) 1).1:Int):=rfl
 rw [h5]
 exact led6 (by omega) (endedR_yes he) (prop9 g1 g2 g3 g4) r w _ (Nat.le_trans (bytesR_most _ 1000) (by decide))
theorem x91 (h1:kd9 l=1) (h2:kd9 l=6):False:=by omega
theorem x92 (h1:5 ≤ kd9 l) (h2:kd9 l=1):False:=by omega
theorem x93 (h1:5 ≤ kd9 l) (h2:kd9 l=4):False:=by omega
theorem x94 (h1:kd9 l=6) (h2:kd9 l=4):False:=by omega
theorem x95 (h1:kd9 l=1) (h2:kd9 l=4):False:=by omega
theorem x96 (h1 : ¬ 5 ≤ kd9 l) (h2:kd9 l=6):False:=by omega
theorem x97 (h1 : ¬ 0 ≤ n9 l) (h2:1 ≤ n9 l):False:=by omega
end
set_option maxHeartbeats 2000000 in
theorem q9Dec0 (a:Option Addr) (c:Nat) (l:List UInt8) (hc:l.length ≤ c) (ha:l.length ≠ 0 → a.isSome=true) (hb:l.length ≤ 1000000) :
  Tri Tryz.prog 53 #[.slice a l.length c] (RoB a l.length l) (Dec9 l):=by
 refine tri_of_tree (ρ:=[.a a,.n l.length,.n c,.p (RoB a l.length l)]) mixed Tryz.func53 tree_q9Decode ?_
 unfold t_q9Decode
 simp (maxSteps:=3000000) only [T.den,E.prop,E.den,RX.look,F1.app,F2.app,Uni.int_i,Uni.nat_n,Uni.bool_c,Uni.str_s,Uni.adr_a,Uni.val_v,Uni.hp_p,hden,cden,V.den,W.den,A.den,BR.den,SA.den,FV.den,capV,exs,exP,allP,Cur.app,List.map_cons,List.map_nil,List.cons_append,List.nil_append,List.drop_succ_cons,List.drop_zero,List.length_cons,List.length_nil,Nat.zero_add,Nat.reduceAdd,Int.neg_neg,Bool.not_not,List.append_nil,Nat.add_zero,List.getElem?_cons_zero,List.getElem?_cons_succ,Decidable.not_not,semW_eq,ne_eq,Nat.reduceEqDiff,not_false_eq_true]
 intro _ b
 refine ((dNumber_ok b (l,false) 1 (by omega)).preE7 (.of fun R h H=>⟨a,c,l,0,⟨Nat.zero_le _,hc,by omega,ha,by simp⟩,H⟩)).weak (fun _ _ h=>h) ?_
 rintro v R h ⟨rfl,H⟩
 refine ⟨_,_,rfl,fun _ => ?_,H⟩
 clear H
 have hK:IntKind.i64.wrap ((numR (l,false) 1).1:Int)=((numR (l,false) 1).1:Int):=wrap_in (inI64D _ (by omega) (by have:=numR_lt (l,false) 1; omega))
 rw [hK]
 clear hK
 have num8 : ∀ (s:RS) {K:Int → HP → Prop},K ((numR s 8).1:Int) (DRep b (numR s 8).2) → Tri Tryz.prog 95 #[.pointer (some ⟨b,0,none⟩),.int .i64 8] (DRep b s) (fun v=>HP.ex fun i=>HP.ex fun p'=>HP.and (v = .int .u64 i) (HP.and (K i p') p')):=fun s K hK=>by
  refine (dNumber_ok b s 8 (by omega)).weak (fun _ _ h=>h) ?_
  rintro v R h ⟨rfl,H⟩
  exact ⟨_,_,rfl,hK,H⟩
 have byts : ∀ (s:RS) (m:Int) (h0:0 ≤ m) {K:Option Addr → Nat → Nat → HP → HP → Prop},(∀ a' c',K a' (bytesR s m).1.length c' (OwB a' (bytesR s m).1.length c' (bytesR s m).1) (DRep b (bytesR s m).2)) → Tri Tryz.prog 96 #[.pointer (some ⟨b,0,none⟩),.int .i64 m] (DRep b s) (fun v=>HP.ex fun a'=>HP.ex fun n'=>HP.ex fun c'=>HP.ex fun p'=>HP.ex fun q'=>HP.and (v = .slice a' n' c') (HP.and (K a' n' c' p' q') (HP.sep p' q'))):=fun s m h0 K hK=>by
  refine (dBytes_ok b s m h0).weak (fun _ _ h=>h) ?_
  rintro v R h ⟨a',c',rfl,H⟩
  exact ⟨a',_,c',_,_,rfl,hK a' c',HP.sep_comm H⟩
 have endd : ∀ (s:RS) {K:Int → HP → Prop},K (end9 s) (DRep b s) → Tri Tryz.prog 97 #[.pointer (some ⟨b,0,none⟩)] (DRep b s) (fun v=>HP.ex fun i=>HP.ex fun p'=>HP.and (v = .int .i64 i) (HP.and (K i p') p')):=fun s K hK=>by
  refine (dEnd_ok b s).weak (fun _ _ h=>h) ?_
  rintro v R h ⟨rfl,H⟩
  exact ⟨_,_,rfl,hK,H⟩
 have numb : ∀ (n:Int) {K:Bool → Prop},K (numOk n) → Tri Tryz.prog 117 #[.int .i64 n] HP.tt (fun v=>HP.ex fun x=>HP.and (v = .bool x) (HP.and (K x) HP.tt)):=fun n K hK=>by
  refine (qNumber_ok n).weak (fun _ _ h=>h) ?_
  rintro v R h rfl
  exact ⟨_,rfl,hK,trivial⟩
 refine num8 _ ?_
 repeat' (first
  | with_reducible (refine And.intro ?_ ?_)
  | with_reducible exact no9'
  | with_reducible exact no9 rfl
  | with_reducible (intro _)
  | with_reducible (refine False.elim (x91 (l:=l) ?_ ?_) <;> assumption)
  | with_reducible (refine False.elim (x92 (l:=l) ?_ ?_) <;> assumption)
  | with_reducible (refine False.elim (x93 (l:=l) ?_ ?_) <;> assumption)
  | with_reducible (refine False.elim (x94 (l:=l) ?_ ?_) <;> assumption)
  | with_reducible (refine False.elim (x95 (l:=l) ?_ ?_) <;> assumption)
  | with_reducible (refine False.elim (x96 (l:=l) ?_ ?_) <;> assumption)
  | with_reducible (refine False.elim (x97 (l:=l) ?_ ?_) <;> assumption)
  | with_reducible (refine num8 _ ?_)
  | with_reducible (refine byts _ _ (by decide) fun _ _ => ?_)
  | with_reducible (refine endd _ ?_)
  | with_reducible (refine numb _ ?_)
  | with_reducible (refine yes9' fun e => ?_)
  | with_reducible (refine yes9 rfl fun e => ?_)
  | fail)
 all_goals (try (have e':=of_decide_eq_true e; with_reducible (refine ledA ?_ ?_ ?_ e' _ _ <;> assumption)))
 all_goals (try (have e':=of_decide_eq_true e; with_reducible (refine ledB ?_ ?_ ?_ ?_ ?_ ?_ ?_ e' _ _ <;> assumption)))
 all_goals (try (with_reducible (refine ledC ?_ ?_ (by assumption) _ _ <;> assumption)))
 all_goals (try (with_reducible (refine ledD ?_ ?_ ?_ ?_ ?_ ?_ ?_ (by assumption) _ _ <;> assumption)))
 all_goals (try (with_reducible (refine ledE ?_ ?_ ?_ ?_ ?_ (by assumption) _ _ <;> assumption)))
theorem q9Decode_ok (a:Option Addr) (c:Nat) (l:List UInt8) (hc:l.length ≤ c) (ha:l.length ≠ 0 → a.isSome=true) (hb:l.length ≤ 1000000) :
  Tri Tryz.prog 53 #[.slice a l.length c] (RoB a l.length l) (fun v=>HP.sep (Dec9 l v) (RoB a l.length l)) :=
 ((q9Dec0 a c l hc ha hb).frame (RoB a l.length l)).weak (fun R h H=>RoC.joinR H H) fun _ _ _ h=>h
end Go.Proofs.YtdieogcemmnaaaaGreatDoor

namespace Go.Proofs.YtdieogcemmnaaaaGreatDoor
open Go.RowKit Go.ChangeShapes Go.WideShapes Go.Deep RX
set_option maxRecDepth 100000
set_option linter.unusedVariables false
set_option linter.unusedSimpArgs false
structure PgI where
 kind:Int
 n:Int
 br_r:Int
 br_w:Int
 bytes:List UInt8
 bytesa:Option Addr
 bytesc:Nat
abbrev PgI.vals (x:PgI):List Value:=[.int .i64 x.kind,.int .i64 x.n,.int .i64 x.br_r,.int .i64 x.br_w,.slice x.bytesa x.bytes.length x.bytesc]
def PgI.hp (x:PgI):HP:=HP.both (HP.pure (okI x.kind)) (HP.both (HP.pure (okI x.n)) (HP.both (HP.pure (okI x.br_r)) (HP.both (HP.pure (okI x.br_w)) (HP.and (x.bytes.length ≤ 140737488355328) (RoB x.bytesa x.bytes.length x.bytes)))))
theorem PgI.pers (x:PgI) (R h h':PH) (H:(x.hp).p R h):(x.hp).p R h':=⟨H.1,⟨H.2.1,⟨H.2.2.1,⟨H.2.2.2.1,H.2.2.2.2⟩⟩⟩⟩
instance:Inhabited PgI:=⟨⟨0,0,0,0,[],none,0⟩⟩
def kPgI:Kind PgI:=⟨5,by decide,PgI.vals,fun _=>rfl,PgI.hp,PgI.pers⟩
theorem PgI.of_trod {H:Type} {enc:TypeId × Value → H} {w:World} {cs:List Value} {n:Nat} {x:DataW H × List MemPlace} (h:DataW.trod enc Tryz.prog w 0 (fun _=>true) true n 108 cs=some x) (hs:Small Tryz.prog 108 x.1) : ∃ m:PgI,cs=kPgI.vals m ∧ ∀ h,(kPgI.hp m).p (allOf w) h:=by
 obtain ⟨xs0,n0,_,hx0,hl0,hxl0,hf0⟩:=DataW.trod_struct Tryz.underlying108 h
 replace hxl0:xs0.length=4:=hxl0
 have hs0:Small Tryz.prog 108 (.agg (xs0.map (·.1))):=by
  have e:=hx0
  first | (subst e; exact hs) | (rw [e] at hs; exact hs) | (have e2:=congrArg Prod.fst e; rw [← e2]; exact hs) | (rw [← e]; exact hs)
 obtain ⟨c0,e0,w0⟩:=field_int Tryz.underlying3 (show 0 < xs0.length by omega) (by kernel_rfl) (hf0 0 _ rfl)
 obtain ⟨c1,e1,w1⟩:=field_int Tryz.underlying3 (show 1 < xs0.length by omega) (by kernel_rfl) (hf0 1 _ rfl)
 have g0_2:=hf0 2 _ rfl
 rw [List.getElem?_eq_getElem (show 2 < xs0.length by omega)] at g0_2
 have hp0_2:Small Tryz.prog 106 xs0[2].1:=Small.part (i:=2) hs0 Tryz.underlying108 rfl (by rw [List.getElem?_map,List.getElem?_eq_getElem (show 2 < xs0.length by omega)]; rfl)
 obtain ⟨xs1,n1,_,hx1,hl1,hxl1,hf1⟩:=DataW.trod_struct Tryz.underlying106 g0_2
 replace hxl1:xs1.length=2:=hxl1
 have hs1:Small Tryz.prog 106 (.agg (xs1.map (·.1))):=by
  have e:=hx1
  first | (subst e; exact hp0_2) | (rw [e] at hp0_2; exact hp0_2) | (have e2:=congrArg Prod.fst e; rw [← e2]; exact hp0_2) | (rw [← e]; exact hp0_2)
 obtain ⟨c2,e2,w2⟩:=field_int Tryz.underlying3 (show 0 < xs1.length by omega) (by kernel_rfl) (hf1 0 _ rfl)
 rw [List.getElem?_take_of_lt (of_decide_eq_true (by kernel_rfl)),List.getElem?_drop] at e2
 obtain ⟨c3,e3,w3⟩:=field_int Tryz.underlying3 (show 1 < xs1.length by omega) (by kernel_rfl) (hf1 1 _ rfl)
 rw [List.getElem?_take_of_lt (of_decide_eq_true (by kernel_rfl)),List.getElem?_drop] at e3
 obtain ⟨a4,l4,k4,e4⟩:=field_slice Tryz.underlying28 (show 3 < xs0.length by omega) (by kernel_rfl) (hf0 3 _ rfl)
 have q4:=hf0 3 _ rfl
 rw [List.getElem?_eq_getElem (show 3 < xs0.length by omega)] at q4
 have g4:DataW.trod enc Tryz.prog w 0 (fun _=>true) true n0 28 [.slice a4 l4 k4]=some xs0[3]:=by
  rw [← take1' e4]
  exact q4
 have s4:Small Tryz.prog 28 xs0[3].1:=Small.part (i:=3) hs0 Tryz.underlying108 rfl (by rw [List.getElem?_map,List.getElem?_eq_getElem (show 3 < xs0.length by omega)]; rfl)
 obtain ⟨b4,d4,m4,r4,y4,z4⟩:=bytes_of_trod g4 s4
 simp only [Value.slice.injEq] at r4
 obtain ⟨rfl,rfl,rfl⟩:=r4
 have hlen:cs.length=5:=hl0.trans (by kernel_rfl)
 refine ⟨⟨c0,c1,c2,c3,d4,a4,k4⟩,?_,fun hh=>⟨int_wf w0,⟨int_wf w1,⟨int_wf w2,⟨int_wf w3,⟨y4,z4 hh⟩⟩⟩⟩⟩⟩
 clear h hl0 hf0 hl1 hf1 g0_2 q4 g4 s4
 revert e0 e1 e2 e3 e4
 match cs,hlen with
 | [u0,u1,u2,u3,u4],_ =>
  intro e0
  obtain rfl:u0 = .int _ c0:=Option.some.inj e0
  intro e1
  obtain rfl:u1 = .int _ c1:=Option.some.inj e1
  intro e2
  obtain rfl:u2 = .int _ c2:=Option.some.inj e2
  intro e3
  obtain rfl:u3 = .int _ c3:=Option.some.inj e3
  intro e4
  obtain rfl:u4 = .slice a4 d4.length k4:=Option.some.inj e4
  rfl
theorem PgI.load {a:Option Addr} {n:Nat} {l:List PgI} {k:Nat} {x:PgI} (hk:l[k]? = some x):ORead Tryz.prog (loadS 108 (.pointer (a.map fun y=>(y.add ((k:Int).toNat * 5)).add 0))) (Ls kPgI a n l) (.agg x.vals.toArray):=by
 obtain ⟨d,hd⟩ : ∃ d,Tryz.prog.underlying 108=some d:=Option.isSome_iff_exists.1 (by kernel_rfl)
 exact Ls.load (K:=kPgI) hd (by kernel_rfl) (by kernel_rfl) hk
end Go.Proofs.YtdieogcemmnaaaaGreatDoor

namespace Go.Proofs.YtdieogcemmnaaaaGreatDoor
open Go.RowKit Go.ChangeShapes Go.WideShapes Go.Deep RX
set_option maxRecDepth 100000
structure PgL where
 l:List PgI
 a:Option Addr
 c:Nat
instance:Inhabited PgL:=⟨⟨[],none,0⟩⟩
def PgL.hp (x:PgL):HP:=HP.and (x.l.length ≤ 140737488355328) (Ls kPgI x.a x.l.length x.l)
def kPgL:Kind PgL:=⟨1,by decide,fun x=>[.slice x.a x.l.length x.c],fun _=>rfl,PgL.hp,fun _ _ _ h' H=>⟨H.1,Ls.pers h' H.2⟩⟩
theorem PgL.of_trod {H:Type} {enc:TypeId × Value → H} {w:World} {cs:List Value} {n:Nat} {x:DataW H × List MemPlace} (h:DataW.trod enc Tryz.prog w 0 (fun _=>true) true n 98 cs=some x) (hs:Small Tryz.prog 98 x.1) : ∃ m:PgL,cs=kPgL.vals m ∧ ∀ h,(kPgL.hp m).p (allOf w) h:=by
 obtain ⟨a,l,k,rfl⟩:=Go.Joins.slice_form Tryz.underlying98 h
 obtain ⟨a,m,c,r,y,z⟩:=slice_of_trod kPgI Tryz.underlying98 (by kernel_rfl) (of_decide_eq_true (by kernel_rfl)) PgI.of_trod h hs
 exact ⟨⟨m,a,c⟩,by rw [r]; rfl,fun hh=>⟨y,z hh⟩⟩
end Go.Proofs.YtdieogcemmnaaaaGreatDoor

namespace Go.Proofs.YtdieogcemmnaaaaGreatDoor.RX
set_option maxRecDepth 100000
-- tideline/tidelinelaw21.JudgeCells: ρ:=[.a pagesa,.n pagesl,.n pagesc,.p pagesP,.i next]
def t_judgeCells:T :=
(.call 45 [] [] [.c] (.w (.a (.bool (.v 5)))) []
(.br (.o1 .not (.v 5))
(.ret (.w (.a (.bool (.c false)))) [(.a 0,.prop 3)])
(.br (.o2 .lt (.i 6) (.o1 .ofNat (.v 1)))
(.ret (.w (.a (.bool (.c true)))) [(.a 0,.prop 3)])
(.br (.o2 .lt (.i 100) (.v 4))
(.ret (.w (.a (.bool (.c true)))) [(.a 0,.prop 3)])
(.new
(.new
(.loop [.c,.a,.n,.n,.a,.n,.n,.i,.p,.p,.p] [.e (.o1 .not (.o1 .not (.c false))),.a (.b (.v 6) 0),.e (.o2 .nadd (.n 0) (.n 0)),.e (.o2 .nadd (.n 0) (.n 0)),.a (.b (.v 7) 0),.e (.o2 .nadd (.n 0) (.n 0)),.e (.o2 .nadd (.n 0) (.n 0)),.e (.o1 .neg (.o1 .neg (.i 0))),.p [(.b (.v 7),.cells [] 102)],.p [(.b (.v 6),.cells [] 113)],.p [(.a 0,.prop 3)]]
(.br (.o2 .lt (.v 15) (.o1 .ofNat (.v 1)))
(.need (.o2 .le (.i 0) (.v 15))
(.need (.o1 .isSome (.v 0))
(.read (.load 98 (.tmp 42)) 98 [(42,.w (.a (.eptr 0 (.v 15) 1 0)))] [(.a 0,.prop 18)] [.a,.n,.n] (.w (.a (.sl (.v 19) (.v 20) (.v 21))))
(.br (.o2 .lt (.i 40) (.o1 .ofNat (.v 20)))
(.ret (.w (.a (.bool (.c true)))) [(.a 0,.prop 18)])
(.call 51 [.a (.int .i64 (.i 50))] [] [.n,.p,.i] (.tup [.a (.ptr (.v 22) 0),.a (.int .i64 (.v 24))]) [(.b (.v 22),.prop 23)]
(.br (.o1 .not (.o2 .eq (.v 24) (.i 0)))
(.ret (.w (.a (.bool (.c false)))) [(.a 0,.prop 18)])
(.new
(.loop [.c,.i,.a,.n,.n,.p,.i,.p,.p] [.e (.o1 .not (.o1 .not (.v 8))),.e (.o1 .neg (.o1 .neg (.i 0))),.a .nil,.e (.o2 .nadd (.n 0) (.n 0)),.e (.o2 .nadd (.n 0) (.n 0)),.p [],.e (.o1 .neg (.o1 .neg (.i 50))),.p [(.b (.v 22),.prop 23)],.p [(.a 0,.prop 18)]]
(.br (.o2 .lt (.v 27) (.o1 .ofNat (.v 20)))
(.need (.o2 .le (.i 0) (.v 27))
(.need (.o1 .isSome (.v 19))
(.read (.load 108 (.tmp 63)) 108 [(63,.w (.a (.eptr 19 (.v 27) 5 0)))] [(.a 0,.prop 34)] [.i,.i,.i,.i,.a,.n,.n] (.w (.agg [.int .i64 (.v 35),.int .i64 (.v 36),.int .i64 (.v 37),.int .i64 (.v 38),.sl (.v 39) (.v 40) (.v 41)]))
(.new
(.br (.o2 .lt (.i 300) (.o1 .ofNat (.v 40)))
(.ret (.w (.a (.bool (.c true)))) [(.a 0,.prop 34)])
(.call 52 [.agg [.int .i64 (.v 35),.int .i64 (.v 36),.int .i64 (.v 37),.int .i64 (.v 38),.sl (.v 39) (.v 40) (.v 41)]] [(.a 0,.prop 34)] [.a,.n,.n,.p,.p] (.w (.a (.sl (.v 43) (.v 44) (.v 45)))) [(.a 43,.prop 46),(.a 0,.prop 47)]
(.call 53 [.a (.sl (.v 43) (.v 44) (.v 45))] [(.a 43,.prop 46)] [.i,.i,.i,.i,.a,.n,.n,.p,.c] (.tup [.agg [.int .i64 (.v 48),.int .i64 (.v 49),.int .i64 (.v 50),.int .i64 (.v 51),.sl (.v 52) (.v 53) (.v 54)],.a (.bool (.v 56))]) [(.a 52,.prop 55),(.a 43,.prop 46)]
(.new
(.br (.o1 .not (.v 56))
(.ret (.w (.a (.bool (.c true)))) [(.a 0,.prop 47)])
(.call 54 [.a (.ptr (.v 22) 0),.a (.sl (.v 43) (.v 44) (.v 45))] [(.b (.v 22),.prop 33),(.a 43,.prop 46)] [.i,.p,.p] (.w (.a (.int .i64 (.v 58)))) [(.b (.v 22),.prop 59),(.a 43,.prop 60)]
(.new
(.op (.call ⟨.builtin .append,#[.tmp 85,.tmp 87],#[98,98]⟩) 98 [(85,.w (.a (.sl (.v 28) (.v 29) (.v 30)))),(87,.w (.a (.sl (.b (.v 61) 0) (.n 1) (.n 1))))] [(.a 28,.prop 31),(.b (.v 61),.cells [.int .i64 (.v 48),.int .i64 (.v 49),.int .i64 (.v 50),.int .i64 (.v 51),.sl (.v 52) (.v 53) (.v 54)] 108),(.a 52,.prop 55)] [.a,.n,.n,.p] (.w (.a (.sl (.v 62) (.v 63) (.v 64)))) [(.a 62,.prop 65)]
(.need (.o1 (.inr .i64) (.o2 .add (.v 27) (.i 1)))
(.again 0 [.e (.o1 .not (.o1 .not (.v 26))),.e (.o1 .neg (.o1 .neg (.o2 .add (.v 27) (.i 1)))),.a (.v 62),.e (.o2 .nadd (.v 63) (.n 0)),.e (.o2 .nadd (.v 64) (.n 0)),.p [(.a 62,.prop 65)],.e (.o1 .neg (.o1 .neg (.v 32))),.p [(.b (.v 22),.prop 59)],.p [(.a 0,.prop 47)]]))))))))))))))
(.call 55 [.a (.ptr (.v 22) 0)] [(.b (.v 22),.prop 33)] [.n,.p,.i,.p] (.tup [.a (.ptr (.v 35) 0),.a (.int .i64 (.v 37))]) [(.b (.v 35),.prop 36),(.b (.v 22),.prop 38)]
(.br (.o1 .not (.o2 .eq (.v 37) (.i 0)))
(.ret (.w (.a (.bool (.c false)))) [(.a 0,.prop 34)])
(.new
(.op (.call ⟨.builtin .append,#[.tmp 103,.tmp 105],#[96,96]⟩) 96 [(103,.w (.a (.sl (.v 9) (.v 10) (.v 11)))),(105,.w (.a (.sl (.b (.v 39) 0) (.n 1) (.n 1))))] [(.a 9,.prop 17),(.b (.v 39),.cells [.ptr (.v 35) 0] 113),(.b (.v 35),.prop 36)] [.a,.n,.n,.p] (.w (.a (.sl (.v 40) (.v 41) (.v 42)))) [(.a 40,.prop 43)]
(.new
(.op (.call ⟨.builtin .append,#[.tmp 107,.tmp 109],#[97,97]⟩) 97 [(107,.w (.a (.sl (.v 12) (.v 13) (.v 14)))),(109,.w (.a (.sl (.b (.v 44) 0) (.n 1) (.n 1))))] [(.a 12,.prop 16),(.b (.v 44),.cells [.ptr (.v 25) 0] 102),(.b (.v 25),.cells [.sl (.v 28) (.v 29) (.v 30),.int .i64 (.v 32)] 104),(.a 28,.prop 31)] [.a,.n,.n,.p] (.w (.a (.sl (.v 45) (.v 46) (.v 47)))) [(.a 45,.prop 48)]
(.need (.o1 (.inr .i64) (.o2 .add (.v 15) (.i 1)))
(.again 1 [.e (.o1 .not (.o1 .not (.v 26))),.a (.v 40),.e (.o2 .nadd (.v 41) (.n 0)),.e (.o2 .nadd (.v 42) (.n 0)),.a (.v 45),.e (.o2 .nadd (.v 46) (.n 0)),.e (.o2 .nadd (.v 47) (.n 0)),.e (.o1 .neg (.o1 .neg (.o2 .add (.v 15) (.i 1)))),.p [(.a 45,.prop 48)],.p [(.a 40,.prop 43)],.p [(.a 0,.prop 34)]])))))))))))))))))
(.call 56 [.a (.sl (.v 9) (.v 10) (.v 11)),.a (.int .i64 (.v 4))] [(.a 9,.prop 17)] [.a,.n,.n,.p,.p] (.w (.a (.sl (.v 19) (.v 20) (.v 21)))) [(.a 19,.prop 22),(.a 9,.prop 23)]
(.br (.o1 .not (.o2 .eq (.o1 .ofNat (.v 20)) (.o2 .mx (.v 4) (.i 0))))
(.ret (.w (.a (.bool (.c false)))) [(.a 0,.prop 18)])
(.loop [.c,.i,.p] [.e (.o1 .not (.o1 .not (.v 8))),.e (.o1 .neg (.o1 .neg (.i 0))),.p [(.a 12,.prop 16)]]
(.br (.o2 .lt (.v 25) (.o1 .ofNat (.v 20)))
(.new
(.loop [.i,.i,.i,.a,.n,.n,.p,.p] [.e (.o1 .neg (.o1 .neg (.i (-1)))),.e (.o1 .neg (.o1 .neg (.i 0))),.e (.o1 .neg (.o1 .neg (.i 0))),.a .nil,.e (.o2 .nadd (.n 0) (.n 0)),.e (.o2 .nadd (.n 0) (.n 0)),.p [],.p [(.a 12,.prop 26)]]
(.br (.o2 .lt (.v 29) (.o1 .ofNat (.v 13)))
(.need (.o2 .le (.i 0) (.v 29))
(.need (.o1 .isSome (.v 12))
(.op (.load 102 (.tmp 130)) 102 [(130,.w (.a (.eptr 12 (.v 29) 1 0)))] [(.a 12,.prop 35)] [.n,.p,.p] (.w (.a (.ptr (.v 36) 0))) [(.b (.v 36),.prop 37),(.a 12,.prop 38)]
(.call 58 [.a (.ptr (.v 36) 0)] [(.b (.v 36),.prop 37)] [.i] (.w (.a (.int .i64 (.v 39)))) [(.b (.v 36),.prop 37)]
(.call 57 [.a (.ptr (.v 36) 0),.a (.int .i64 (.v 39)),.a (.int .i64 (.v 25))] [(.b (.v 36),.prop 37)] [.i,.a,.n,.n,.p,.i] (.tup [.agg [.int .i64 (.v 40),.sl (.v 41) (.v 42) (.v 43)],.a (.int .i64 (.v 45))]) [(.a 41,.prop 44),(.b (.v 36),.prop 37)]
(.new
(.br (.o2 .eq (.v 45) (.i 0))
(.call 58 [.a (.ptr (.v 36) 0)] [(.b (.v 36),.prop 37)] [.i] (.w (.a (.int .i64 (.v 47)))) [(.b (.v 36),.prop 37)]
(.br (.o2 .lt (.v 28) (.v 47))
(.call 58 [.a (.ptr (.v 36) 0)] [(.b (.v 36),.prop 37)] [.i] (.w (.a (.int .i64 (.v 48)))) [(.b (.v 36),.prop 37)]
(.need (.o1 (.inr .i64) (.o2 .add (.v 29) (.i 1)))
(.again 0 [.e (.o1 .neg (.o1 .neg (.v 48))),.e (.o1 .neg (.o1 .neg (.o2 .add (.v 29) (.i 1)))),.e (.o1 .neg (.o1 .neg (.v 40))),.a (.v 41),.e (.o2 .nadd (.v 42) (.n 0)),.e (.o2 .nadd (.v 43) (.n 0)),.p [(.a 41,.prop 44)],.p [(.a 12,.prop 38),(.b (.v 36),.prop 37)]])))
(.need (.o1 (.inr .i64) (.o2 .add (.v 29) (.i 1)))
(.again 0 [.e (.o1 .neg (.o1 .neg (.v 28))),.e (.o1 .neg (.o1 .neg (.o2 .add (.v 29) (.i 1)))),.e (.o1 .neg (.o1 .neg (.v 30))),.a (.v 31),.e (.o2 .nadd (.v 32) (.n 0)),.e (.o2 .nadd (.v 33) (.n 0)),.p [(.a 31,.prop 34)],.p [(.a 12,.prop 38),(.b (.v 36),.prop 37)]]))))
(.need (.o1 (.inr .i64) (.o2 .add (.v 29) (.i 1)))
(.again 0 [.e (.o1 .neg (.o1 .neg (.v 28))),.e (.o1 .neg (.o1 .neg (.o2 .add (.v 29) (.i 1)))),.e (.o1 .neg (.o1 .neg (.v 30))),.a (.v 31),.e (.o2 .nadd (.v 32) (.n 0)),.e (.o2 .nadd (.v 33) (.n 0)),.p [(.a 31,.prop 34)],.p [(.a 12,.prop 38),(.b (.v 36),.prop 37)]])))))))))
(.need (.o2 .le (.i 0) (.v 25))
(.need (.o1 .isSome (.v 19))
(.read (.load 68 (.tmp 154)) 68 [(154,.w (.a (.eptr 19 (.v 25) 2 0)))] [(.a 19,.prop 22)] [.i,.a,.n,.n] (.w (.agg [.int .i64 (.v 36),.sl (.v 37) (.v 38) (.v 39)]))
(.call 59 [.agg [.int .i64 (.v 36),.sl (.v 37) (.v 38) (.v 39)],.agg [.int .i64 (.v 30),.sl (.v 31) (.v 32) (.v 33)]] [(.a 19,.prop 22),(.a 31,.prop 34)] [.c] (.w (.a (.bool (.v 40)))) [(.a 19,.prop 22),(.a 31,.prop 34)]
(.br (.o1 .not (.v 40))
(.ret (.w (.a (.bool (.c false)))) [(.a 0,.prop 18)])
(.need (.o1 (.inr .i64) (.o2 .add (.v 25) (.i 1)))
(.again 1 [.e (.o1 .not (.o1 .not (.v 24))),.e (.o1 .neg (.o1 .neg (.o2 .add (.v 25) (.i 1)))),.p [(.a 12,.prop 35)]]))))))))))
(.ret (.w (.a (.bool (.c true)))) [(.a 0,.prop 18)])))))))))))))
theorem tree_judgeCells:tree Tryz.prog { absT:=[213,207],hv:=[(0,[.a 0,.b (.v 6),.b (.v 7)]),(2,[.b (.v 25),.b (.v 22),.a 0]),(4,[.a 12]),(6,[.b (.v 27),.a 12])],keep:=[117,59,58,57,187,188,53],rdf:=true,apa:=true } Tryz.f14 [.a (.sl (.v 0) (.v 1) (.v 2)),.a (.int .i64 (.v 4))] [(.a 0,.prop 3)] 5=t_judgeCells:=by kernel_rfl
end Go.Proofs.YtdieogcemmnaaaaGreatDoor.RX

namespace Go.Proofs.YtdieogcemmnaaaaGreatDoor
set_option linter.unusedSimpArgs false
set_option linter.unusedVariables false
open Go.Proofs.YtdieogcemmnaaaaGreatDoor RX
set_option maxRecDepth 100000
structure RE where
 rb:Nat
 l:List RPg
def kR:PK RE:=⟨102,1,by decide,fun x=>[.pointer (some ⟨x.rb,0,none⟩)],fun _=>rfl,fun e u hu=>by simp at hu; rcases hu with rfl; rfl,fun x=>RU x.rb 50 x.l⟩
theorem undRj:Tryz.prog.underlying 102=some (.pointer 104):=by kernel_rfl
theorem aggRj:aggT Tryz.prog 102=false:=by kernel_rfl
theorem szRj:szT Tryz.prog 102=1:=by kernel_rfl
theorem undPp:Tryz.prog.underlying 98=some (.slice 108):=by kernel_rfl
theorem undPps:Tryz.prog.underlying 98=some (.slice 108):=by kernel_rfl
theorem aggPp:aggT Tryz.prog 98=false:=by kernel_rfl
theorem szPp:szT Tryz.prog 98=1:=by kernel_rfl
theorem infoRj:(Tryz.prog.info? 102).map (fun i=>(i.zero.map (·.cells.size),i.size,i.bytes))=some (some 1,1,8):=by kernel_rfl
theorem infoUj:(Tryz.prog.info? 113).map (fun i=>(i.zero.map (·.cells.size),i.size,i.bytes))=some (some 1,1,8):=by kernel_rfl
theorem infoPj:(Tryz.prog.info? 108).map (fun i=>(i.zero.map (·.cells.size),i.size,i.bytes))=some (some 5,5,56):=by kernel_rfl
theorem undRs:Tryz.prog.underlying 97=some (.slice 102):=by kernel_rfl
theorem undUs:Tryz.prog.underlying 96=some (.slice 113):=by kernel_rfl
theorem app1 {α:Type} (K:PK α) (t:TypeId) {m:Nat} {by':Nat} (ht:Tryz.prog.underlying t=some (.slice K.e)) (hinf:(Tryz.prog.info? K.e).map (fun i=>(i.zero.map (·.cells.size),i.size,i.bytes))=some (some m,m,by')) (hm:m=K.n) (hb':by' ≤ 1000) (a:Option Addr) (n c:Nat) (l:List α) (b:Nat) (x:α) (hb:n ≤ 1000000000) :
  OTri Tryz.prog (appS t t (.slice a n c) (.slice (some ⟨b,0,none⟩) 1 1)) (HP.sep (PL K a n c l) (HP.sep (HP.one b (.cells (K.vals x).toArray K.e (0,0))) (K.rep x)))
   (fun v=>HP.ex fun a'=>HP.ex fun c'=>HP.and (v = .slice a' (n + 1) c') (PL K a' (n + 1) c' (l ++ [x]))):=by
 obtain ⟨i,z,hi,h1,h2,h3,h4⟩:=info_pz hinf
 refine (PL.app (K:=K) t t ht hi h1 (by rw [h2,h3]) (by rw [h3,hm]) (by rw [h4]; exact hb') a n c l b x HP.tt hb).weak (fun R h H=>HP.sep_mono H (fun _ h=>h) fun y hy=>HP.sep_mono hy (fun _ h=>h) fun _ h=>HP.sep_tt h) ?_
 rintro v R h ⟨a',c',e,H⟩
 exact ⟨a',c',e,HP.sep_left H⟩
def PrOk (ps:List (USt × List RPg)):Prop := ∀ p ∈ ps,RelC p.1 p.2
theorem same_T {us:List UE} {rs:List RE} {ps:List (USt × List RPg)} (ok:PrOk ps) (hu:us.map UE.s=ps.map fun p=>forgS p.1) (hr:rs.map RE.l=ps.map Prod.snd) (a:Int):unitsT us a=rs.map fun y=>refT a y.l:=by
 have h1:unitsT us a=(us.map UE.s).map (unitT a):=by unfold unitsT; rw [List.map_map]; rfl
 have h2:(rs.map fun y=>refT a y.l)=(rs.map RE.l).map (refT a):=by rw [List.map_map]; rfl
 rw [h1,h2,hu,hr,List.map_map,List.map_map]
 exact List.map_congr_left fun p hp=>(ok p hp).same a
set_option maxHeartbeats 4000000 in
theorem judgeCells_ok (a:Option Addr) (n c:Nat) (L:List PgL) (z:Int):Tri Tryz.prog 14 #[.slice a n c,.int .i64 z] (Ls kPgL a n L) (fun v=>HP.pure (v = .bool true)):=by
 refine Tri.fact (φ:=L.length=n ∧ (n ≠ 0 → a.isSome=true) ∧ (∀ x ∈ L,x.l.length ≠ 0 → x.a.isSome=true) ∧ ∀ x ∈ L,∀ y ∈ x.l,y.bytes.length ≠ 0 → y.bytesa.isSome=true) (fun R h H=>⟨H.1,fun hn=>Ls.some H hn,fun x hx hn=>Ls.some (H.2.2 x hx).2 hn,fun x hx y hy hn=>RoC.some ((H.2.2 x hx).2.2.2 y hy).2.2.2.2.2 (Nat.pos_of_ne_zero hn)⟩) fun ⟨hl,ha,hia,hib⟩ => ?_
 refine tri_of_tree (ρ:=[.a a,.n n,.n c,.p (Ls kPgL a n L),.i z]) mixed Tryz.func14 tree_judgeCells ?_
 unfold t_judgeCells
 simp (maxSteps:=3000000) only [T.den,E.prop,E.den,RX.look,F1.app,F2.app,Uni.int_i,Uni.nat_n,Uni.bool_c,Uni.str_s,Uni.adr_a,Uni.val_v,Uni.hp_p,hden,cden,V.den,W.den,A.den,BR.den,SA.den,FV.den,capV,exs,exP,allP,Cur.app,List.map_cons,List.map_nil,List.cons_append,List.nil_append,List.drop_succ_cons,List.drop_zero,List.length_cons,List.length_nil,Nat.zero_add,Nat.reduceAdd,Int.neg_neg,Bool.not_not,List.append_nil,Nat.add_zero,List.getElem?_cons_zero,List.getElem?_cons_succ,Decidable.not_not,semW_eq,semW_load,semW_append,ne_eq,Nat.reduceEqDiff,not_false_eq_true]
 refine speaks21_ok.weak (fun _ _ _=>trivial) ?_
 rintro v R h rfl
 refine ⟨true,rfl,⟨fun h=>by simp at h,fun _ => ?_⟩,trivial⟩
 refine ⟨fun _ => .of fun R h H=>trivial,fun h6=>⟨fun _ => .of fun R h H=>trivial,fun h100 b6 b7 => ?_⟩⟩
 refine ⟨fun _ ua un uc ra rn rc i PR PU PP => ∃ (k:Nat) (us:List UE) (rs:List RE) (ps:List (USt × List RPg)),i=k ∧ k ≤ n ∧ k=un ∧ k=rn ∧ PrOk ps ∧ us.map UE.s=(ps.map fun p=>forgS p.1) ∧ rs.map RE.l=ps.map Prod.snd ∧ us.length=k ∧ rs.length=k ∧ (k ≠ 0 → ra.isSome=true) ∧ HP.ent PR (PL kR ra rn rc rs) ∧ HP.ent PU (PL kU ua un uc us) ∧ HP.ent PP (Ls kPgL a n L),fun _ _ _ _ _ _ _ i _ _ _=>n - i.toNat,
  ⟨0,[],[],[],rfl,Nat.zero_le _,rfl,rfl,fun p hp=>(by cases hp),rfl,rfl,rfl,rfl,fun h=>absurd rfl h,.of fun R h H=>PL.zero (K:=kR) b7 H,.of fun R h H=>PL.zero (K:=kU) b6 H,.refl _⟩,?_⟩
 rintro f0 ua _ uc ra _ rc _ PR PU PP ⟨k,us,rs,ps,rfl,hk,rfl,rfl,ok,hus,hrs,hul,hrl,hra,hPR,hPU,hPP⟩
 refine ⟨fun hlt=>⟨by omega,fun _=>⟨ha (by omega),fun _ => ?_⟩⟩,fun hge => ?_⟩
 ·obtain ⟨x,hx⟩ : ∃ x,L[k]? = some x:=⟨_,List.getElem?_eq_getElem (by omega)⟩
  have hxm:=List.mem_of_getElem? hx
  have nxt:IntKind.i64.min ≤ (k:Int) + 1 ∧ (k:Int) + 1 ≤ IntKind.i64.max:=inI64 _ (by omega) (by omega)
  refine ⟨x.a,x.l.length,x.c,ORead.ent hPP (Ls.load1 (K:=kPgL) undPp aggPp szPp hx rfl),⟨fun _ => .of fun R h H=>trivial,fun h40 => ?_⟩⟩
  refine (dNew_ok 50 (by omega) (by omega)).weak (fun _ _ h=>h) ?_
  rintro v R h ⟨d,rfl,H⟩
  refine ⟨d,DvRep d 50 [] 0,0,rfl,⟨fun h=>absurd rfl h,fun _ q => ?_⟩,H⟩
  clear H
  refine ⟨fun _ i pa pn pc Q room D PP => ∃ (j:Nat) (es:List PgE) (s:USt) (ds:List Pg),i=j ∧ j ≤ x.l.length ∧ j=pn ∧ room=50 ∧ es.length=j ∧ ds.length=j ∧ RelC s (es.map PgE.pg) ∧ foldS s0 (wholes ds)=some s ∧ HP.ent Q (PL kPg pa pn pc es) ∧ HP.ent D (DvRep d 50 ds 0) ∧ HP.ent PP (Ls kPgL a n L),fun _ i _ _ _ _ _ _ _=>x.l.length - i.toNat,
   ⟨0,[],s0,[],rfl,Nat.zero_le _,rfl,rfl,rfl,rfl,RelC.new,rfl,.of fun R h H=>⟨rfl,h,PH.none',PH.dj_none _,PH.le.refl _,PH.none_le _,OwC.nil _ _ R h,trivial⟩,.refl _,hPP⟩,?_⟩
  rintro f1 _ pa _ pc Q _ D P2 ⟨j,es,s,ds,rfl,hj,rfl,rfl,hel,hdl,rel,hfo,hQ,hD,hP2⟩
  refine ⟨fun hlt2=>⟨by omega,fun _=>⟨hia x hxm (by omega),fun _ => ?_⟩⟩,fun hge2 => ?_⟩
  ·obtain ⟨y,hy⟩ : ∃ y,x.l[j]? = some y:=⟨_,List.getElem?_eq_getElem (by omega)⟩
   have hym:=List.mem_of_getElem? hy
   have hlt3:j + 1 ≤ x.l.length:=by omega
   have nxj:IntKind.i64.min ≤ (j:Int) + 1 ∧ (j:Int) + 1 ≤ IntKind.i64.max:=inI64 _ (by omega) (by omega)
   have eIn:HP.ent P2 (Ls kPgI x.a x.l.length x.l):=hP2.trans (.of fun R h H=>(H.2.2 x hxm).2)
   refine ⟨y.kind,y.n,y.br_r,y.br_w,y.bytesa,y.bytes.length,y.bytesc,ORead.ent eIn (PgI.load hy),fun q2=>⟨fun _ => .of fun R h H=>trivial,fun h300 => ?_⟩⟩
   have hrd:RdL (Ls kPgL a n L) y.bytesa y.bytes.length (y.bytes.map u8v):=RdL.imp fun R h H=>((H.2.2 x hxm).2.2.2 y hym).2.2.2.2.2
   refine ((q9Encode_ok ⟨y.kind,y.n,y.br_r,y.br_w,y.bytes⟩ y.bytesa y.bytesc (Ls kPgL a n L) hrd (hib x hxm y hym) (by show y.bytes.length ≤ 1000; omega)).preE7 hP2).post fun v => ?_
   rintro R h dd ⟨bq,ba,bc,⟨rfl,hbq⟩,H⟩
   have hc2:=OwC.le (HP.sep_left H)
   have hs2:bq.length ≠ 0 → ba.isSome=true:=fun hn=>OwC.some (HP.sep_left H) (Nat.pos_of_ne_zero hn)
   obtain ⟨R1,h1,q1,q2',q3,q4,H1⟩:=(HP.ent.sep (OwC.share _ _ _ _ _ _) _) R h dd H
   refine ⟨R1,h1,q1,q2',q3,q4,ba,bq.length,bc,RoB ba bq.length bq,Ls kPgL a n L,rfl,?_,H1⟩
   clear H H1 q1 q2' q3 q4
   refine (q9Decode_ok ba bc bq hc2 hs2 (by omega)).post fun v => ?_
   rintro R h dd ⟨x1,x2,dj,l1,l2,⟨pg,ga,gc,okb,⟨rfl,hled⟩,Hb⟩,Hr⟩
   have hsg:(HP.sep (OwB ga pg.bytes.length gc pg.bytes) (RoB ba bq.length bq)).p R h:=⟨x1,x2,dj,l1,l2,Hb,Hr⟩
   obtain ⟨R1,h1,q1,q2',q3,q4,H1⟩:=(HP.ent.sep (OwC.share _ _ _ _ _ _) _) R h dd hsg
   refine ⟨R1,h1,q1,q2',q3,q4,pg.kind,pg.n,pg.r,pg.w,ga,pg.bytes.length,gc,RoB ga pg.bytes.length pg.bytes,okb,rfl,fun q5=>⟨fun _ => .of fun R h H=>trivial,fun hok => ?_⟩,H1⟩
   clear H1 q1 q2' q3 q4 hsg
   have hok':okb=true:=by simpa using hok
   have led:=hled hok'
   obtain ⟨s',hs',rel'⟩:=rel.page led
   refine ((dAppend_ok d 50 ds 0 ba bq.length bc bq (RoB ba bq.length bq) (RdL.ro _ _ _ _) rfl (by omega)).preE7 (hD.sep _)).weak (fun _ _ h=>h) ?_
   rintro v R h ⟨e,H⟩
   have hput:putPg 50 ds ⟨1,bq⟩=(0,ds ++ [⟨1,bq⟩]):=if_neg (by omega)
   rw [hput] at e H
   subst e
   dsimp only at H
   refine ⟨0,DvRep d 50 (ds ++ [⟨1,bq⟩]) 0,RoB ba bq.length bq,?_,?_,?_⟩
   ·rfl
   rotate_left
   ·exact H
   clear H
   intro q6
   refine (OTri.preL (app1 kPg 98 undPps infoPj rfl (by decide) pa j pc es q6 ⟨pg,ga,gc⟩ (by omega)) (hQ.sep2 ((HP.ent.refl _).sep2 (.of fun R h H=>⟨by have:=led.len; show pg.bytes.length ≤ _; omega,H⟩)))).weak (fun _ _ h=>h) ?_
   rintro v R h ⟨pa',pc',rfl,H⟩
   refine ⟨pa',j + 1,pc',PL kPg pa' (j + 1) pc' (es ++ [⟨pg,ga,gc⟩]),?_,?_,?_⟩
   ·rfl
   rotate_left
   ·exact H
   clear H
   refine ⟨nxj,fun _=>⟨?_,by dsimp only; omega⟩⟩
   have e1:es.length + 1=j + 1:=by omega
   have e2:ds.length + 1=j + 1:=by omega
   refine ⟨j + 1,es ++ [⟨pg,ga,gc⟩],s',ds ++ [⟨1,bq⟩],?_,?_,?_,?_,?_,?_,?_,?_,?_,?_,?_⟩
   ·exact (Int.natCast_succ j).symm
   ·exact hlt3
   ·rfl
   ·rfl
   ·rw [List.length_append,List.length_singleton]; exact e1
   ·rw [List.length_append,List.length_singleton]; exact e2
   ·rw [List.map_append]; exact rel'
   ·have:wholes (ds ++ [⟨1,bq⟩])=wholes ds ++ [bq]:=by unfold wholes; rw [List.filterMap_append]; rfl
    rw [this]; exact foldS_snoc hfo hs'
   ·exact HP.ent.refl _
   ·exact HP.ent.refl _
   ·exact HP.ent.refl _
  ·obtain rfl:j=x.l.length:=by omega
   refine ((uOpen_ok d 50 ds 0 s hfo).preE7 hD).weak (fun _ _ h=>h) ?_
   rintro v R h ⟨ub,rfl,H⟩
   refine ⟨ub,URep ub d (DvRep d 50 ds 0) (forgS s),0,HP.tt,rfl,⟨fun h=>absurd rfl h,fun _ q7 => ?_⟩,HP.sep_tt H⟩
   clear H
   refine (OTri.preL (app1 kU 96 undUs infoUj rfl (by decide) ua k uc us q7 ⟨ub,d,ds,0,forgS s⟩ (by omega)) (hPU.sep _)).weak (fun _ _ h=>h) ?_
   rintro v R h ⟨ua',uc',rfl,H⟩
   refine ⟨ua',_,uc',_,rfl,fun q8 => ?_,H⟩
   clear H
   refine (OTri.preL (app1 kR 97 undRs infoRj rfl (by decide) ra k rc rs q8 ⟨q,es.map PgE.pg⟩ (by omega)) (hPR.sep2 ((HP.ent.refl _).sep2 (((HP.ent.refl _).sep2 hQ).trans (.of fun R h H=>RU.of rfl (by rw [List.length_map]; omega) (by rw [List.length_map]; exact hel.symm) H))))).weak (fun _ _ h=>h) ?_
   rintro v R h ⟨ra',rc',rfl,H⟩
   have hra':=PL.isAt H (Nat.succ_ne_zero _)
   refine ⟨ra',_,rc',_,rfl,⟨nxt,fun _=>⟨⟨k + 1,us ++ [⟨ub,d,ds,0,forgS s⟩],rs ++ [⟨q,es.map PgE.pg⟩],ps ++ [(s,es.map PgE.pg)],by omega,by omega,rfl,rfl,?_,?_,?_,by simp [hul],by simp [hrl],fun _=>hra',.refl _,.refl _,hP2⟩,by dsimp only; omega⟩⟩,H⟩
   ·intro p hp
    rcases List.mem_append.1 hp with h | h
    ·exact ok p h
    ·simp only [List.mem_singleton] at h; subst h; exact rel
   ·rw [List.map_append,List.map_append,hus]; rfl
   ·rw [List.map_append,List.map_append,hrs]; rfl
 ·have hk6:k ≤ 6:=by omega
  refine ((jCells_ok ua k uc us z (by omega) (by omega)).preE7 hPU).weak (fun _ _ h=>h) ?_
  rintro v R h ⟨ca,cc,es,⟨rfl,hes⟩,H⟩
  have hM:(((max z 0).toNat:Nat):Int)=max z 0:=by omega
  have hM2:(max z 0).toNat ≤ 100:=by omega
  have hel:es.length=(max z 0).toNat:=PL.len (HP.sep_left H)
  have hca:(max z 0).toNat ≠ 0 → ca.isSome=true:=fun hn=>PL.isAt (HP.sep_left H) hn
  refine ⟨ca,(max z 0).toNat,cc,PL kCN ca (max z 0).toNat cc es,PL kU ua k uc us,?_,?_,?_⟩
  ·rfl
  rotate_left
  ·exact H
  clear H
  generalize (max z 0).toNat=M at *
  refine ⟨fun h=>absurd hM h,fun _ => ?_⟩
  refine ⟨fun _ i P => ∃ j:Nat,i=j ∧ j ≤ M ∧ HP.ent P (PL kR ra k rc rs),fun _ i _=>M - i.toNat,⟨0,rfl,Nat.zero_le _,hPR⟩,?_⟩
  rintro f2 _ P ⟨j,rfl,hj,hP⟩
  refine ⟨fun hlt q => ?_,fun _ => .of fun R h H=>trivial⟩
  have hsT:=same_T ok hus hrs (j:Int)
  have hTl:(rs.map fun y=>refT (j:Int) y.l).length=k:=by rw [List.length_map]; exact hrl
  have hTn : ∀ u ∈ rs.map (fun y=>refT (j:Int) y.l),u.2.1.data.length ≤ 65536:=by
   intro u hu
   obtain ⟨y,hy,rfl⟩:=List.mem_map.1 hu
   have:y.l ∈ ps.map Prod.snd:=by rw [← hrs]; exact List.mem_map.2 ⟨y,hy,rfl⟩
   obtain ⟨p,hp,hpe⟩:=List.mem_map.1 this
   rw [← hpe]
   exact (ok p hp).rlen _ _
  have hTg : ∀ (m:Nat) (y:RE),rs[m]? = some y → (rs.map fun y=>refT (j:Int) y.l)[m]? = some (refT (j:Int) y.l):=fun m y h=>by rw [List.getElem?_map,h]; rfl
  generalize (rs.map fun y=>refT (j:Int) y.l)=TT at *
  refine ⟨fun nw i w a1 n1 c1 Q P => ∃ m:Nat,i=m ∧ m ≤ k ∧ newC (TT.take m)=((newC (TT.take m)).1,nw) ∧ w=(newC (TT.take m)).1.what ∧ n1=(newC (TT.take m)).1.data.length ∧ RdL Q a1 n1 ((newC (TT.take m)).1.data.map u8v) ∧ HP.ent P (PL kR ra k rc rs),fun _ i _ _ _ _ _ _=>k - i.toNat,⟨0,rfl,Nat.zero_le _,rfl,rfl,rfl,?_,hP⟩,?_⟩
  ·exact RdL.imp (l:=[]) fun R h H=>RoC.nil 1 none R h
  rintro nw _ _ a1 _ c1 Q P2 ⟨m,rfl,hm,hN,rfl,rfl,hQ,hP2⟩
  refine ⟨fun hlt2=>⟨by omega,fun _=>⟨hra (by omega),fun _ => ?_⟩⟩,fun hge2 => ?_⟩
  ·obtain ⟨y,hy⟩ : ∃ y,rs[m]? = some y:=⟨_,List.getElem?_eq_getElem (by omega)⟩
   have nxm:IntKind.i64.min ≤ (m:Int) + 1 ∧ (m:Int) + 1 ≤ IntKind.i64.max:=inI64 _ (by omega) (by omega)
   have e:rs.set m y=rs:=by
    obtain ⟨hk',rfl⟩:=List.getElem?_eq_some_iff.1 hy
    exact List.set_getElem_self hk'
   have hjn:HP.ent (HP.sep (PRest kR ra k rc rs m) (RU y.rb 50 y.l)) (PL kR ra k rc rs) := .of fun R h H=>by
    have:=PL.join (K:=kR) (y:=y) hy rfl H
    rwa [e] at this
   have sn:newC (TT.take (m + 1))=if (readR y.l (lastR y.l 4) j).2=0 ∧ nw < lastR y.l 4 then ((readR y.l (lastR y.l 4) j).1,lastR y.l 4) else newC (TT.take m):=by
    rw [take_snocJ (hTg m y hy),newC_snoc,show (newC (TT.take m)).2=nw from congrArg Prod.snd hN]; rfl
   have keep:newC (TT.take (m + 1))=newC (TT.take m) → ∃ m':Nat,(m:Int) + 1=m' ∧ m' ≤ k ∧ newC (TT.take m')=((newC (TT.take m')).1,nw) ∧ (newC (TT.take m)).1.what=(newC (TT.take m')).1.what ∧ (newC (TT.take m)).1.data.length=(newC (TT.take m')).1.data.length ∧ RdL Q a1 (newC (TT.take m)).1.data.length ((newC (TT.take m')).1.data.map u8v) ∧ HP.ent (HP.sep (PRest kR ra k rc rs m) (RU y.rb 50 y.l)) (PL kR ra k rc rs):=fun hE =>
    ⟨m + 1,by omega,by omega,by rw [hE]; exact hN,by rw [hE],by rw [hE],by rw [hE]; exact hQ,hjn⟩
   rw [Int.toNat_natCast]
   refine (OTri.preL (PL.load1 (K:=kR) undRj aggRj szRj rfl rfl hy) hP2).weak (fun _ _ h=>h) ?_
   rintro v R h ⟨rfl,H⟩
   refine ⟨y.rb,RU y.rb 50 y.l,PRest kR ra k rc rs m,rfl,?_,H⟩
   clear H
   refine (qEpoch_ok y.rb 50 y.l).weak (fun _ _ h=>h) ?_
   rintro v R h ⟨rfl,H⟩
   refine ⟨lastR y.l 4,rfl,?_,H⟩
   clear H
   refine (qRead_ok y.rb 50 y.l (lastR y.l 4) j).weak (fun _ _ h=>h) ?_
   rintro v R h ⟨xa,xc,⟨rfl,hlen⟩,H⟩
   refine ⟨(readR y.l (lastR y.l 4) j).1.what,xa,(readR y.l (lastR y.l 4) j).1.data.length,xc,RoB xa (readR y.l (lastR y.l 4) j).1.data.length (readR y.l (lastR y.l 4) j).1.data,(readR y.l (lastR y.l 4) j).2,rfl,?_,H⟩
   clear H
   intro _
   refine ⟨fun h0 => ?_,fun h0=>⟨nxm,fun _=>⟨keep (by rw [sn,if_neg (fun h=>absurd h.1 h0)]),by dsimp only; omega⟩⟩⟩
   refine (qEpoch_ok y.rb 50 y.l).weak (fun _ _ h=>h) ?_
   rintro v R h ⟨rfl,H⟩
   refine ⟨lastR y.l 4,rfl,⟨fun hn => ?_,fun hn=>⟨nxm,fun _=>⟨keep (by rw [sn,if_neg (fun h=>absurd h.2 hn)]),by dsimp only; omega⟩⟩⟩,H⟩
   clear H
   refine (qEpoch_ok y.rb 50 y.l).weak (fun _ _ h=>h) ?_
   rintro v R h ⟨rfl,H⟩
   refine ⟨lastR y.l 4,rfl,⟨nxm,fun _=>⟨?_,by dsimp only; omega⟩⟩,H⟩
   have hE:newC (TT.take (m + 1))=((readR y.l (lastR y.l 4) j).1,lastR y.l 4):=by rw [sn,if_pos ⟨h0,hn⟩]
   exact ⟨m + 1,by omega,by omega,by rw [hE],by rw [hE],by rw [hE],by rw [hE]; exact RdL.ro _ _ _ _,hjn⟩
  ·have hmk:TT.take m=TT:=List.take_of_length_le (by omega)
   rw [hmk] at hQ ⊢
   obtain ⟨x,hx⟩ : ∃ x,es[j]? = some x:=⟨_,List.getElem?_eq_getElem (by omega)⟩
   have hxe:x.cs=(newC TT).1:=by
    have h1:(es.map CeN.cs)[j]? = some x.cs:=by rw [List.getElem?_map,hx]; rfl
    rw [hes] at h1
    unfold cellsT at h1
    rw [List.getElem?_map,List.getElem?_range (by omega)] at h1
    rw [← hsT]
    exact (Option.some.inj h1).symm
   have nxj:IntKind.i64.min ≤ (j:Int) + 1 ∧ (j:Int) + 1 ≤ IntKind.i64.max:=inI64 _ (by omega) (by omega)
   refine ⟨by omega,fun _=>⟨hca (by omega),fun _ => ?_⟩⟩
   have hld:ORead Tryz.prog (loadS 68 (.pointer (ca.map fun y=>(y.add ((j:Int).toNat * 2)).add 0))) (PL kCN ca M cc es) (.agg (kCN.vals x).toArray):=by
    obtain ⟨d,hd⟩ : ∃ d,Tryz.prog.underlying 68=some d:=Option.isSome_iff_exists.1 (by kernel_rfl)
    rw [Int.toNat_natCast]
    refine loadN_ok (vs:=kCN.vals x) hd (by kernel_rfl) (PL.rd (K:=kCN) ca M cc es) (k:=j * 2) (off:=0) (by kernel_rfl) (Nat.succ_pos _) fun o v ho => ?_
    have hlt3:o < 2:=(List.getElem?_eq_some_iff.1 ho).1
    rw [Nat.add_zero,flat_getL kCN.vals 2 kCN.len es j o x hx hlt3]
    exact ho
   have hA:RdL (PL kCN ca M cc es) x.a x.cs.data.length (x.cs.data.map u8v):=RdL.imp fun R h H=>by
    have:=sepN_mem (List.mem_map.2 ⟨x,List.mem_of_getElem? hx,rfl⟩) (HP.sep_right H.2)
    exact this
   refine ⟨x.cs.what,x.a,x.cs.data.length,x.c,hld,?_⟩
   have hnl:=newC_len hTn
   refine (q9SameCell_ok x.cs.what (newC TT).1.what x.a x.cs.data.length x.c x.cs.data a1 (newC TT).1.data.length c1 (newC TT).1.data (PL kCN ca M cc es) Q hA hQ rfl rfl (by rw [hxe]; omega)).weak (fun _ _ h=>h) ?_
   rintro v R h ⟨rfl,H⟩
   have ht:(decide (x.cs.what=(newC TT).1.what) && decide (x.cs.data=(newC TT).1.data))=true:=by rw [hxe]; simp
   rw [ht]
   refine ⟨true,rfl,⟨fun h=>absurd rfl h,fun _=>⟨nxj,fun _=>⟨⟨j + 1,by omega,by omega,hP2⟩,by dsimp only; omega⟩⟩⟩,H⟩
end Go.Proofs.YtdieogcemmnaaaaGreatDoor

namespace Go.Proofs.YtdieogcemmnaaaaGreatDoor
open Go.Proofs.YtdieogcemmnaaaaGreatDoor RX
open Go.ChangeShapes Go.WideShapes Go.ChangeAt Go.RowKit
set_option maxRecDepth 100000
theorem fours_name:Tryz.prog.globalNamed "tideline/check.fours" = some 0:=by kernel_rfl
theorem fours_type:(Tryz.prog.globals[(0:Nat)]?).map (·.type)=some 316:=by kernel_rfl
theorem cells32:Tryz.prog.cellsOf 243=1:=by kernel_rfl
theorem gr_of {w:World} {x:String × DataW Unit} {r:List (String × DataW Unit)} {ps:List MemPlace} (h:DataW.LaidVars Tryz.prog w (x :: ("tideline/check.fours",Rows.laid_tideline_check_fours) :: r) ps):GR (allOf w):=by
 obtain ⟨_,_,_,_,_,q1,_,_,_,_,h2,_⟩:=h
 obtain ⟨g,t,cs,fuel,p,q,hg,ht,hv,htr,_,_⟩:=h2
 rw [fours_name] at hg
 cases hg
 rw [fours_type] at ht
 cases ht
 unfold World.var? at hv
 rw [fours_name] at hv
 simp only [Option.bind_some] at hv
 obtain ⟨ty,fr,hh⟩ : ∃ ty fr,w.heap[(0:Nat)]? = some (.cells cs ty fr):=by
  split at hv
  ·rename_i c ty fr e; cases hv; exact ⟨ty,fr,e⟩
  ·cases hv
 refine ⟨cs,ty,fr,hh,fun i v hi => ?_⟩
 obtain ⟨xs,m,_,hx,hl,hn,hel⟩:=DataW.trod_array undF htr
 have hi16:i < 16:=(List.getElem?_eq_some_iff.1 hi).1
 have hd:xs.map (·.1)=fours.map fun n:Nat=>DataW.lit (.int .u32 ((n:Nat):Int)):=by
  have:=congrArg Prod.fst hx
  unfold Rows.laid_tideline_check_fours at this
  injection this with this
  exact this.symm
 have h1:=hel i hi16
 rw [cells32,Nat.mul_one] at h1
 have h3:(xs.map (·.1))[i]? = some (DataW.lit (.int .u32 (v:Int))):=by rw [hd,List.getElem?_map,hi]; rfl
 rw [List.getElem?_map] at h3
 obtain ⟨y,hy,hy2⟩:=Option.map_eq_some_iff.1 h3
 rw [hy] at h1
 obtain ⟨z,hz,hz2,_⟩:=DataW.trod_int und32 h1
 rw [hz2] at hy2
 have e:z=(v:Int):=by
  injection hy2 with e
  injection e
 subst e
 have h5:(List.take 1 (cs.toList.drop i))[0]? = some (Value.int .u32 (v:Int)):=by rw [hz]; rfl
 rw [List.getElem?_take,if_pos (by decide),List.getElem?_drop,Nat.add_zero] at h5
 simpa using h5
end Go.Proofs.YtdieogcemmnaaaaGreatDoor

namespace Go.Proofs.YtdieogcemmnaaaaGreatDoor
open Go.RowKit Go.ChangeShapes Go.WideShapes Go.Deep RX
set_option maxRecDepth 100000 in
theorem judgeCells_walk {H:Type} (enc:TypeId × Value → H) (base:Nat) (v0 v1:Value) (w:World)
  (k0:Value.okWide Tryz.prog w .any base 95 v0) (h0 : ∃ d p,DataW.Trod enc Tryz.prog w 0 (fun _=>true) true 95 v0 d p ∧ Small Tryz.prog 95 d)
  (k1:Value.okWide Tryz.prog w .any base 3 v1) (h1 : ∃ d p,DataW.Trod enc Tryz.prog w 0 (fun _=>true) true 3 v1 d p ∧ Small Tryz.prog 3 d) (hG:GR (allOf w)) :
  Calls Tryz.prog 14 #[v0,v1] w fun e w'=>e = .returned (.bool true) ∧ Below w.heap.size w w':=by
 obtain ⟨a0,l0,c0,rfl,b0,z0⟩:=slice_open kPgL Tryz.underlying95 (by kernel_rfl) (of_decide_eq_true (by kernel_rfl)) PgL.of_trod k0 h0
 obtain ⟨n1,rfl,r1⟩:=int_openR k1 h1
 exact Tri.run (judgeCells_ok a0 l0.length c0 l0 n1) (z0 _) hG
end Go.Proofs.YtdieogcemmnaaaaGreatDoor

namespace Go.Proofs.YtdieogcemmnaaaaGreatDoor.judgeCells
open Go.ChangeShapes Go.WideShapes Go.ChangeAt Go.RowKit
set_option linter.unusedVariables false
theorem own:ownKnob Tryz.prog.godebug=none:=by kernel_rfl
theorem laidOut:laidOutB Tryz.prog=true:=by kernel_rfl
def laidL:List (String × DataW Unit):=[("unicode/utf8.acceptRanges",Rows.laid_unicode_utf8_acceptRanges),("tideline/check.fours",Rows.laid_tideline_check_fours),("unicode/utf8.first",Rows.laid_unicode_utf8_first)]
set_option maxRecDepth 100000 in
theorem plainL (w:World):laidMetH Tryz.prog laidL w=laidMet Tryz.prog laidL w:=MakeChecks.laidMetH_plain _ _ _ (by kernel_rfl)
set_option maxRecDepth 100000 in
theorem door_met (os:Os) (args:Array Value):laidMetH Tryz.prog laidL ((World.laidAll Tryz.prog os laidL).forCall (fun _ _=>0) ⟨#[],args,[]⟩).memory:=by
 rw [plainL]
 exact laidMet_laidAll _ (by kernel_rfl) (by kernel_rfl)
end Go.Proofs.YtdieogcemmnaaaaGreatDoor.judgeCells

namespace Go.Proofs.YtdieogcemmnaaaaGreatDoor.judgeCells
open Go.ChangeShapes Go.WideShapes Go.ChangeAt Go.RowKit
set_option linter.unusedVariables false
set_option maxRecDepth 100000 in
theorem lifted (os:Os) (started:os.Started) (H:Type) (enc:TypeId × Value → H) :
  ReturnsInHanded {} Tryz.checked os 14 .any (fun w args=>(Rows.judgeCellsSpec.pre enc Tryz.prog Tryz.f14 [] false w args ∧ laidMetH Tryz.prog laidL w) ∧ sizedMet enc Tryz.prog Tryz.f14 (OpenSpec.ofChange Rows.judgeCellsSpec) false w args) (Rows.judgeCellsSpec.post enc Tryz.prog Tryz.f14 false true false false):=by
 refine returnsInHanded_of_change_and (C:=Tryz.checked) (X:=fun w _=>laidMetH Tryz.prog laidL w) (fun _ _ _ hh h=>h.of_heap hh) own started (by kernel_rfl) Tryz.func14
  (ChangeSpec.witness_shaped (enc:=enc) (C:=Tryz.checked) (os:=os) (X:=fun w _=>laidMetH Tryz.prog laidL w) false (World.laidAll Tryz.prog os laidL) #[.slice none 0 0,.int .i64 0] 8 (World.laidAll_os _ _ _) (World.shaped_of_ZipB (by kernel_rfl) (by kernel_rfl)) (by kernel_rfl) (by kernel_rfl) (by kernel_rfl) (door_met os _)) ?_
 intro W base args ds gs before hval0 hW hcnd hsz0 hX _
 have hG:GR (allOf W):=by rw [plainL] at hX; obtain ⟨_,hv,_⟩:=hX; exact gr_of hv
 have hval : ∀ (j:Nat) t v,Tryz.f14.params[j]? = some t → args[j]? = some v → Value.okWide Tryz.prog W .any base t v:=hval0
 have hW':=hW
 obtain ⟨p,q,hA0,hV,rfl,hfz,hnd⟩:=hW
 have hA:DataW.TrodAll enc Tryz.prog W 0 (fun _=>true) true Tryz.f14.params.toList args.toList ds p:=hA0
 have hsz:(DataW.weightsEach Tryz.prog (Tryz.f14.params.toList ++ Rows.judgeCellsSpec.plain.varTypes Tryz.prog) (ds ++ gs)).all (· ≤ reachBytes)=true:=hsz0
 clear hsz0
 rw [Tryz.params14] at hA hval hsz
 obtain ⟨v0,vs0,d0,ds0,p0,q0,hargs,rfl,rfl,h0,r0⟩:=trodAll_cons hA
 obtain ⟨v1,vs1,d1,ds1,p1,q1,rfl,rfl,rfl,h1,r1⟩:=trodAll_cons r0
 obtain ⟨rfl,rfl,rfl⟩:=trodAll_nil r1
 obtain rfl:args = #[v0,v1]:=by cases args; simp_all
 obtain ⟨rfl,rfl⟩:=trodVars_none hV
 have lt0 : ∀ x ∈ p0,x.block < W.heap.size:=by obtain ⟨m,hm⟩:=h0; exact DataW.trod_lt m _ _ _ hm
 have lt1 : ∀ x ∈ p1,x.block < W.heap.size:=by obtain ⟨m,hm⟩:=h1; exact DataW.trod_lt m _ _ _ hm
 refine (judgeCells_walk enc base v0 v1 W (hval 0 95 v0 rfl rfl) ⟨_,_,h0,Small.arg hsz (j:=0) rfl rfl⟩ (hval 1 3 v1 rfl rfl) ⟨_,_,h1,Small.arg hsz (j:=1) rfl rfl⟩ hG).mono fun e W' ⟨he,bel⟩ => ?_
 subst he
 exact ⟨_,rfl,_,_,_,[],_,[],hW',trodAll_mk1 (shut_bool Tryz.underlying4 _),(trodAll_cons_mk (Below.trod laidOut (by kernel_rfl) (of_decide_eq_true (by kernel_rfl)) h0 bel lt0) (trodAll_cons_mk (Below.trod laidOut (by kernel_rfl) (of_decide_eq_true (by kernel_rfl)) h1 bel lt1) trodAll_mk0)),rfl,bel.frame _,fun h=>by cases h⟩
end Go.Proofs.YtdieogcemmnaaaaGreatDoor.judgeCells

namespace Go.Proofs.YtdieogcemmnaaaaGreatDoor.judgeCells
open Go.ChangeShapes Go.WideShapes Go.ChangeAt Go.RowKit
set_option linter.unusedVariables false
theorem and2 {a b:Bool} (h1:a=true) (h2:b=true):(a && b)=true:=by rw [h1,h2]; rfl
theorem c0:(fun (P:Program) (f:FuncId) (fn:Func) (s:ChangeSpec) (c:OpenClaim)=>(c.wf (OpenSpec.ofChange s):Bool)) Tryz.pinned.checked.prog 14 Tryz.f14 Rows.judgeCellsSpec Rows.judgeCellsRow=true:=by kernel_rfl
theorem c1:(fun (P:Program) (f:FuncId) (fn:Func) (s:ChangeSpec) (c:OpenClaim)=>(laidOutB P:Bool)) Tryz.pinned.checked.prog 14 Tryz.f14 Rows.judgeCellsSpec Rows.judgeCellsRow=true:=by kernel_rfl
theorem c2:(fun (P:Program) (f:FuncId) (fn:Func) (s:ChangeSpec) (c:OpenClaim)=>(mapsRowed P:Bool)) Tryz.pinned.checked.prog 14 Tryz.f14 Rows.judgeCellsSpec Rows.judgeCellsRow=true:=by kernel_rfl
theorem c3:(fun (P:Program) (f:FuncId) (fn:Func) (s:ChangeSpec) (c:OpenClaim)=>(fn.params.all (P.readableRec ·):Bool)) Tryz.pinned.checked.prog 14 Tryz.f14 Rows.judgeCellsSpec Rows.judgeCellsRow=true:=by kernel_rfl
theorem c4:(fun (P:Program) (f:FuncId) (fn:Func) (s:ChangeSpec) (c:OpenClaim)=>(namedTie P c.named s.vars:Bool)) Tryz.pinned.checked.prog 14 Tryz.f14 Rows.judgeCellsSpec Rows.judgeCellsRow=true:=by kernel_rfl
theorem c5:(fun (P:Program) (f:FuncId) (fn:Func) (s:ChangeSpec) (c:OpenClaim)=>((c.stops == []):Bool)) Tryz.pinned.checked.prog 14 Tryz.f14 Rows.judgeCellsSpec Rows.judgeCellsRow=true:=by kernel_rfl
theorem c6:(fun (P:Program) (f:FuncId) (fn:Func) (s:ChangeSpec) (c:OpenClaim)=>((P.stops == []):Bool)) Tryz.pinned.checked.prog 14 Tryz.f14 Rows.judgeCellsSpec Rows.judgeCellsRow=true:=by kernel_rfl
theorem c7:(fun (P:Program) (f:FuncId) (fn:Func) (s:ChangeSpec) (c:OpenClaim)=>((c.knobs == []):Bool)) Tryz.pinned.checked.prog 14 Tryz.f14 Rows.judgeCellsSpec Rows.judgeCellsRow=true:=by kernel_rfl
theorem c8:(fun (P:Program) (f:FuncId) (fn:Func) (s:ChangeSpec) (c:OpenClaim)=>((P.stopKnobs == []):Bool)) Tryz.pinned.checked.prog 14 Tryz.f14 Rows.judgeCellsSpec Rows.judgeCellsRow=true:=by kernel_rfl
theorem c9:(fun (P:Program) (f:FuncId) (fn:Func) (s:ChangeSpec) (c:OpenClaim)=>((c.inPlace == P.inPlace f):Bool)) Tryz.pinned.checked.prog 14 Tryz.f14 Rows.judgeCellsSpec Rows.judgeCellsRow=true:=by kernel_rfl
theorem c10:(fun (P:Program) (f:FuncId) (fn:Func) (s:ChangeSpec) (c:OpenClaim)=>((c.unfollowed == P.unfollowed f):Bool)) Tryz.pinned.checked.prog 14 Tryz.f14 Rows.judgeCellsSpec Rows.judgeCellsRow=true:=by kernel_rfl
theorem c11:(fun (P:Program) (f:FuncId) (fn:Func) (s:ChangeSpec) (c:OpenClaim)=>((c.recurses == P.recurses f):Bool)) Tryz.pinned.checked.prog 14 Tryz.f14 Rows.judgeCellsSpec Rows.judgeCellsRow=true:=by kernel_rfl
theorem c12:(fun (P:Program) (f:FuncId) (fn:Func) (s:ChangeSpec) (c:OpenClaim)=>((c.named == P.varsNamed f):Bool)) Tryz.pinned.checked.prog 14 Tryz.f14 Rows.judgeCellsSpec Rows.judgeCellsRow=true:=by kernel_rfl
theorem c13:(fun (P:Program) (f:FuncId) (fn:Func) (s:ChangeSpec) (c:OpenClaim)=>((c.maps == (fn.params.toList ++ s.plain.varTypes P).any (P.mapsRec ·)):Bool)) Tryz.pinned.checked.prog 14 Tryz.f14 Rows.judgeCellsSpec Rows.judgeCellsRow=true:=by kernel_rfl
theorem c14:(fun (P:Program) (f:FuncId) (fn:Func) (s:ChangeSpec) (c:OpenClaim)=>((c.ifaces == (fn.params.toList ++ s.plain.varTypes P).any (P.ifacesRec ·)):Bool)) Tryz.pinned.checked.prog 14 Tryz.f14 Rows.judgeCellsSpec Rows.judgeCellsRow=true:=by kernel_rfl
theorem c15:(fun (P:Program) (f:FuncId) (fn:Func) (s:ChangeSpec) (c:OpenClaim)=>((c.mapsOut == P.mapsAmong fn.resultTypes.toList):Bool)) Tryz.pinned.checked.prog 14 Tryz.f14 Rows.judgeCellsSpec Rows.judgeCellsRow=true:=by kernel_rfl
theorem c16:(fun (P:Program) (f:FuncId) (fn:Func) (s:ChangeSpec) (c:OpenClaim)=>((c.loops == (fn.params.toList ++ s.plain.varTypes P).any (P.loopsFrom ·)):Bool)) Tryz.pinned.checked.prog 14 Tryz.f14 Rows.judgeCellsSpec Rows.judgeCellsRow=true:=by kernel_rfl
theorem c17:(fun (P:Program) (f:FuncId) (fn:Func) (s:ChangeSpec) (c:OpenClaim)=>((c.wideKeys == (fn.params.toList ++ s.plain.varTypes P ++ fn.resultTypes.toList).any (P.wideKeysFrom ·)):Bool)) Tryz.pinned.checked.prog 14 Tryz.f14 Rows.judgeCellsSpec Rows.judgeCellsRow=true:=by kernel_rfl
theorem c18:(fun (P:Program) (f:FuncId) (fn:Func) (s:ChangeSpec) (c:OpenClaim)=>(s.vars.all (P.varReadable ·):Bool)) Tryz.pinned.checked.prog 14 Tryz.f14 Rows.judgeCellsSpec Rows.judgeCellsRow=true:=by kernel_rfl
theorem c19:(fun (P:Program) (f:FuncId) (fn:Func) (s:ChangeSpec) (c:OpenClaim)=>(fn.resultTypes.all (fun t=>P.readableRec t && decide (t < P.types.size)):Bool)) Tryz.pinned.checked.prog 14 Tryz.f14 Rows.judgeCellsSpec Rows.judgeCellsRow=true:=by kernel_rfl
theorem c20:(fun (P:Program) (f:FuncId) (fn:Func) (s:ChangeSpec) (c:OpenClaim)=>((c.ifacesOut == fn.resultTypes.toList.any (P.ifacesRec ·)):Bool)) Tryz.pinned.checked.prog 14 Tryz.f14 Rows.judgeCellsSpec Rows.judgeCellsRow=true:=by kernel_rfl
theorem c21:(fun (P:Program) (f:FuncId) (fn:Func) (s:ChangeSpec) (c:OpenClaim)=>((c.loopsOut == fn.resultTypes.toList.any (P.loopsFrom ·)):Bool)) Tryz.pinned.checked.prog 14 Tryz.f14 Rows.judgeCellsSpec Rows.judgeCellsRow=true:=by kernel_rfl
theorem c22:(fun (P:Program) (f:FuncId) (fn:Func) (s:ChangeSpec) (c:OpenClaim)=>((c.plainKeys == P.plainKeys):Bool)) Tryz.pinned.checked.prog 14 Tryz.f14 Rows.judgeCellsSpec Rows.judgeCellsRow=true:=by kernel_rfl
theorem c23:(fun (P:Program) (f:FuncId) (fn:Func) (s:ChangeSpec) (c:OpenClaim)=>(c.shortTexts.isNone:Bool)) Tryz.pinned.checked.prog 14 Tryz.f14 Rows.judgeCellsSpec Rows.judgeCellsRow=true:=by kernel_rfl
theorem c24:(fun (P:Program) (f:FuncId) (fn:Func) (s:ChangeSpec) (c:OpenClaim)=>(P.stopsHeard:Bool)) Tryz.pinned.checked.prog 14 Tryz.f14 Rows.judgeCellsSpec Rows.judgeCellsRow=true:=by kernel_rfl
theorem c25:(fun (P:Program) (f:FuncId) (fn:Func) (s:ChangeSpec) (c:OpenClaim)=>(P.mayEnter:Bool)) Tryz.pinned.checked.prog 14 Tryz.f14 Rows.judgeCellsSpec Rows.judgeCellsRow=true:=by kernel_rfl
theorem c26:(fun (P:Program) (f:FuncId) (fn:Func) (s:ChangeSpec) (c:OpenClaim)=>((c.lifted == P.liftsFinal):Bool)) Tryz.pinned.checked.prog 14 Tryz.f14 Rows.judgeCellsSpec Rows.judgeCellsRow=true:=by kernel_rfl
theorem c27:(fun (P:Program) (f:FuncId) (fn:Func) (s:ChangeSpec) (c:OpenClaim)=>((P.make == some c.make):Bool)) Tryz.pinned.checked.prog 14 Tryz.f14 Rows.judgeCellsSpec Rows.judgeCellsRow=true:=by kernel_rfl
theorem c28:(fun (P:Program) (f:FuncId) (fn:Func) (s:ChangeSpec) (c:OpenClaim)=>((c.kinds == (if c.domain.isEmpty then [] else fn.params.toList.map fun t=>match P.underlying t with | some (.int k)=>some k | _=>none)):Bool)) Tryz.pinned.checked.prog 14 Tryz.f14 Rows.judgeCellsSpec Rows.judgeCellsRow=true:=by kernel_rfl
theorem c29:(fun (P:Program) (f:FuncId) (fn:Func) (s:ChangeSpec) (c:OpenClaim)=>((c.pinned == c.pinnedBy):Bool)) Tryz.pinned.checked.prog 14 Tryz.f14 Rows.judgeCellsSpec Rows.judgeCellsRow=true:=by kernel_rfl
theorem c30:(fun (P:Program) (f:FuncId) (fn:Func) (s:ChangeSpec) (c:OpenClaim)=>((c.veiled == (fn.params.toList ++ s.plain.varTypes P ++ fn.resultTypes.toList).any (P.veiledRec ·)):Bool)) Tryz.pinned.checked.prog 14 Tryz.f14 Rows.judgeCellsSpec Rows.judgeCellsRow=true:=by kernel_rfl
theorem c31:(fun (P:Program) (f:FuncId) (fn:Func) (s:ChangeSpec) (c:OpenClaim)=>(c.veiledFits P fn.params.toList (fn.params.toList ++ s.plain.varTypes P ++ fn.resultTypes.toList):Bool)) Tryz.pinned.checked.prog 14 Tryz.f14 Rows.judgeCellsSpec Rows.judgeCellsRow=true:=by kernel_rfl
theorem inst:Tryz.f14.isInstance Tryz.pinned.checked.prog Rows.judgeCellsRow.origin Rows.judgeCellsRow.targs:=(of_decide_eq_true (by kernel_rfl))
theorem wrap:Tryz.f14.isWrapper Tryz.pinned.checked.prog Rows.judgeCellsRow.wrapper Rows.judgeCellsRow.mainSum:=by unfold Func.isWrapper; first | (rw [if_pos (by decide +kernel)]; kernel_rfl) | (rw [if_neg (by decide +kernel)]; exact ⟨rfl,rfl⟩)
theorem nmd:Tryz.pinned.checked.prog.funcNamed Rows.judgeCellsRow.func=some 14:=by kernel_rfl
end Go.Proofs.YtdieogcemmnaaaaGreatDoor.judgeCells

namespace Go.Proofs.YtdieogcemmnaaaaGreatDoor.judgeCells
open Go.ChangeShapes Go.WideShapes Go.ChangeAt Go.RowKit
set_option linter.unusedVariables false
set_option maxRecDepth 100000 in
theorem closed:joinedFacts Tryz.pinned.checked.prog 14 Tryz.f14 Rows.judgeCellsSpec Rows.judgeCellsRow=true:=(and2 (and2 (and2 (and2 (and2 (and2 (and2 (and2 (and2 (and2 (and2 (and2 (and2 (and2 (and2 (and2 (and2 (and2 (and2 (and2 (and2 (and2 (and2 (and2 (and2 (and2 (and2 (and2 (and2 (and2 (and2 c0 c1) c2) c3) c4) c5) c6) c7) c8) c9) c10) c11) c12) c13) c14) c15) c16) c17) c18) c19) c20) c21) c22) c23) c24) c25) c26) c27) c28) c29) c30) c31)
theorem over:Rows.judgeCellsRow.holds Tryz.pinned (OpenSpec.ofChange Rows.judgeCellsSpec) :=
 OpenClaim.holds_of_wide 14 Tryz.f14 rfl rfl rfl rfl rfl rfl rfl ⟨rfl,rfl,rfl,rfl,rfl⟩ rfl rfl rfl rfl rfl nmd Tryz.func14 closed inst wrap (fun os started H enc _=>lifted os started H enc)
end Go.Proofs.YtdieogcemmnaaaaGreatDoor.judgeCells
