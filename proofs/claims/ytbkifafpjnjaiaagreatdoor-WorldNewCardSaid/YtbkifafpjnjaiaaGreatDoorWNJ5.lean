/- Texts of this claim, joined. No condition. -/
import Derived.Test.YtbkifafpjnjaiaaGreatDoorWNJ1
import Derived.Test.YtbkifafpjnjaiaaGreatDoorWNJ2
import Derived.Test.YtbkifafpjnjaiaaGreatDoorWNJ3
import Derived.Test.YtbkifafpjnjaiaaGreatDoorWNJ4
import Derived.Laws.Cover1
import Derived.KernelRfl
import Derived.ChangeKeysEq
import Derived.Laws.StructEq
import Derived.Sort.Walk0
set_option linter.unusedSimpArgs false
set_option linter.unusedVariables false
namespace Go.Proofs.YtbkifafpjnjaiaaGreatDoor
set_option maxRecDepth 100000
section
open RX
def Xr(t:TypeId)(u v:Value):Sem Next:=do pure (.value (<-Instr.index t u v))
theorem UA{t ty:TypeId}{i j:Nat}{u v:Value}(h:i≠j):bI (.index t (.tmp i) (.tmp j)) ty [(i,u),(j,v)]=Xr t u v:=by
 have h':(i==j)=false:=by simpa using h
 simp[bI,execOp,jR,h',Xr]
theorem ix7{f:Nat->Bool}{k:Nat}(hk:k<7){A:HP}:aH Tryz.prog (Xr 224 (.agg #[.bool (f 0),.bool (f 1),.bool (f 2),.bool (f 3),.bool (f 4),.bool (f 5),.bool (f 6)]) (.int .i64 (k:Int))) A (.bool (f k)):=λw R h F s _=>by
 obtain⟨i,hi,z1,z2,z3⟩:=info_parts I3
 have hg:(#[.bool (f 0),.bool (f 1),.bool (f 2),.bool (f 3),.bool (f 4),.bool (f 5),.bool (f 6)]:Array Value)[k]? =some (.bool (f k)):=by
  have:=mS f hk
  simpa[OF,List.range,List.range.loop]using this
 have hsz:(sizeOf 4).run Tryz.prog w=.ok 1 w:=by rw[RX.run_sizeOf hi,gr,hi];simp only[z2]
 have e:(Instr.index 224 (.agg #[.bool (f 0),.bool (f 1),.bool (f 2),.bool (f 3),.bool (f 4),.bool (f 5),.bool (f 6)]) (.int .i64 (k:Int))).run Tryz.prog w=.ok (.bool (f k)) w:=by
  unfold Instr.index
  simp only[asIntOf,Sem.run_bind,Sem.run_pure,Result.andThen_ok,RX.run_underlying pJ]
  rw[if_pos (show(0:Int)<=(k:Int)/\(k:Int)<((7:Nat):Int) by omega)]
  simp only[Int.toNat_natCast,Sem.run_bind,hsz,Result.andThen_ok,part,RX.hY DE,DF,Bool.false_eq_true,if_false,Nat.mul_one,hg,Sem.run_pure]
 unfold Xr
 rw[Sem.run_bind,e];rfl
def gN(g:bY):List Int:=((List.range 7).filter g.there).map λ(k:Nat)=>(k:Int)
def nI(g:bY):List UInt8:=if(gD g.old (gN g)).2=0 then plS (gD g.old (gN g)).1 else[]
def Cd(g:bY):bY:={g with own:=nI g,st:=2,prop:=some (n8 g.cv 1 g.dQ (nI g))}
theorem uh{p:rf}{tl:List Int}(hr:cH p=true)(h:(gD p tl).2=0):cH (gD p tl).1=true/\gD p tl=(⟨p.ep+1,p.ch.map (eU tl)⟩,0):=by
 have r:=qo hr
 unfold gD at h⊢
 rw[hr]at h⊢
 split at h
 ·exact absurd h (by decide)
 rename_i h1
 split at h
 ·exact absurd h (by decide)
 rename_i h2
 rw[if_neg h1,if_neg h2]
 refine⟨?_,rfl⟩
 have hep:p.ep≠2147483647:=λe=>h1 (.inr e)
 have CJ:(p.ch.map (eU tl)).flatten=p.ch.flatten.filter λx=>decide (x∈tl):=by
  rw[List.filter_flatten];rfl
 unfold cH
 rw[decide_eq_true]
 have q0:=r.ep0
 have q1:=r.ep1
 refine⟨show 0<=p.ep+1 by omega,show p.ep+1<=2147483647 by omega,by show 1<=(p.ch.map (eU tl)).length;rw[List.length_map];exact r.adb,by show(p.ch.map (eU tl)).length<=7;rw[List.length_map];exact r.S1,λc hc e=>h2 ?_,λu hu=>?_,?_⟩
 ·exact List.any_eq_true.2 ⟨c,hc,decide_eq_true e⟩
 ·have hu:u∈(p.ch.map (eU tl)).flatten:=hu
  rw[CJ]at hu
  exact r.rg u (List.mem_filter.1 hu).1
 ·show((p.ch.map (eU tl)).flatten).Nodup
  rw[CJ];exact r.nd.sublist List.filter_sublist
theorem Gk{g:bY}(hr:cH g.old=true):(nI g).length<=200:=by
 unfold nI
 split
 ·exact WK (qo (uh hr (by assumption)).1)
 ·simp
section
variable {b:Nat}{g:bY}{r:BG}
theorem ahF:aH Tryz.prog (bG 224 (.pointer (some ⟨b,12,none⟩))) (aF b g r) (.agg #[.bool (g.there 0),.bool (g.there 1),.bool (g.there 2),.bool (g.there 3),.bool (g.there 4),.bool (g.there 5),.bool (g.there 6)]):=by
 refine aH.aV (.of λR h H=>H.2) (ZV (Q:=HP.an (pM r.pv g.prop) (rj g r)) (vs:=OF g.there) pJ (by kernel_rfl) (by rw[dw];kernel_rfl) (by rw[dw];decide) λj v hj=>?_)
 have hj7:j<7:=by have:=(List.getElem?_eq_some_iff.1 hj).1;rwa [dw]at this
 rw[mS _ hj7]at hj
 rw[<-hj]
 exact Jm g r hj7
theorem aeb{l:List UInt8}{a:Option Addr}{c:Nat}(hb:l.length<=1000000):aI Tryz.prog (bH 42 (.pointer (some ⟨b,19,none⟩)) (.slice a l.length c)) (HP.an (aF b g r) (aO a l.length l)) (λv=>HP.and (v=.tuple #[]) (aF b {g with own:=l} {r with wa:=a,wc:=c})):=by
 obtain⟨i,hi,z1,z2,z3⟩:=info_parts (show(Tryz.prog.info? 42).map (λi=>(i.zero,i.size,i.bytes))=some (some (.slice none 0 0),1,24) by kernel_rfl)
 refine aSt (b:=b) (g:=g) (r:=r) (k:=19) (x:=.slice a l.length c) hi z2 (by decide) rfl rfl (g':={g with own:=l}) (r':={r with wa:=a,wc:=c}) rfl (λh=>⟨h.o,h.p,h.ob,h.pb,hb⟩) _ λR h hok H=>?_
 have hl:(aO a l.length l).p R h:=HP.ai H
 have hro:(rj g r).p R h:=HP.ai (HP.aj H)
 exact HP.ae (HP.aj H) (λ_ h=>h) λy hy=>⟨hy.1,hl,hy.2.2⟩
theorem Xs{s:j8}{pb:Nat}:aI Tryz.prog (bH 225 (.pointer (some ⟨b,20,none⟩)) (.pointer (some ⟨pb,0,none⟩))) (HP.an (aF b g r) (dG pb s)) (λv=>HP.and (v=.tuple #[]) (aF b {g with prop:=some s} {r with pv:=some ⟨pb,0,none⟩})):=by
 obtain⟨i,hi,z1,z2,z3⟩:=info_parts (show(Tryz.prog.info? 225).map (λi=>(i.zero,i.size,i.bytes))=some (some (.pointer none),1,8) by kernel_rfl)
 refine aSt (b:=b) (g:=g) (r:=r) (k:=20) (x:=.pointer (some ⟨pb,0,none⟩)) hi z2 (by decide) rfl rfl (g':={g with prop:=some s}) (r':={r with pv:=some ⟨pb,0,none⟩}) rfl (λh=>⟨h.o,h.p,h.ob,h.pb,h.wb⟩) _ λR h hok H=>?_
 have hro:(rj g r).p R h:=HP.ai (HP.aj H)
 exact HP.ae (HP.ao H) (λy hy=>⟨pb,rfl,hy⟩) λy _=>rj.gf y hro
theorem ahG(hok:HZ g r):(⟨g.old.ep,r.kG.map (·.l)⟩:rf)=g.old:=by rw[hok.o]
set_option maxHeartbeats 1000000 in
theorem Ks(hr:cH g.old=true)(hu:g.cv<=10000):ax Tryz.prog 145 #[.pointer (some ⟨b,0,none⟩)] (aF b g r) (λv=>HP.and (v=.tuple #[]) (gM b (Cd g))):=by
 refine ax.bV (φ:=HZ g r) (λR h H=>H.1) λhok=>?_
 refine ah (ρ:=[.n b,.p (aF b g r)]) mixed Tryz.func145 BF ?_
 unfold zw
 simp only[T.den,E.prop,E.den,RX.look,F1.app,F2.app,aP.dH,aP.dP,aP.cr,aP.eQ,aP.e9,aP.fw,aP.ju,bg,dB,V.den,W.den,A.den,BR.den,SA.den,FV.den,iX,nF,nK,fj,g5.app,List.map_cons,List.map_nil,List.cons_append,List.nil_append,List.drop_succ_cons,List.drop_zero,List.length_cons,List.length_nil,Nat.zero_add,Nat.reduceAdd,Int.neg_neg,Bool.not_not,List.append_nil,Nat.add_zero,List.getElem?_cons_zero,List.getElem?_cons_succ,Decidable.not_not,cu,dg,cJ,gh,ne_eq,Nat.reduceEqDiff,not_false_eq_true,UA]
 refine⟨_,_,_,_,_,_,_,ahF,?_⟩
 refine⟨λa n c P i=>∃u:Nat,i=u/\u<=7/\n=((List.range u).filter g.there).length/\HP.aV P (o5 a n c (((List.range u).filter g.there).map λ(k:Nat)=>(k:Int))),λ_ _ _ _ i=>7 - i.toNat,⟨0,rfl,Nat.zero_le _,rfl,.of λR h _=>cp.nil _ _ R h⟩,?_⟩
 rintro a _ c P _ ⟨u,rfl,hu7,rfl,hP⟩
 refine⟨λhlt=>?_,λlN=>?_⟩
 ·have hu:u<7:=by omega
  have CJ:((List.range u).filter g.there).length<=7:=by
   have:=List.length_filter_le g.there (List.range u)
   rw[List.length_range]at this;omega
  refine⟨g.there u,ix7 (f:=g.there) hu,λht x=>?_,λht=>⟨aK _ (by omega) (by omega),λ_=>⟨⟨u+1,by omega,by omega,?_,?_⟩,by dsimp only;omega⟩⟩⟩
  ·refine(o6 a _ c _ (HP.one x (.cells #[.int .i64 (u:Int)] 3 (0,0))) ⟨x,0,none⟩ 1 1 [(u:Int)] (dW x #[.int .i64 (u:Int)] 3) rfl (by omega)).be (K:=HP.tt) ((hP.an _).trans (.of λR h H=>HP.az H)) λv=>.of λR h H=>?_
   obtain⟨a',c',rfl,H'⟩:=HP.aj H
   refine⟨a',_,c',_,rfl,⟨aK _ (by omega) (by omega),λ_=>⟨⟨u+1,by omega,by omega,?_,?_⟩,by dsimp only;omega⟩⟩,H'⟩
   ·rw[pg,if_pos ht]
   ·rw[List.range_succ,List.filter_append,List.map_append]
    simp only[List.filter_cons,ht,if_true,List.filter_nil,List.map_cons,List.map_nil]
    exact .refl _
  ·rw[pg,if_neg ht];rfl
  ·rw[List.range_succ,List.filter_append]
   simp only[List.filter_cons,ht,Bool.false_eq_true,if_false,List.filter_nil,List.append_nil]
   exact hP
 obtain rfl:u=7:=by omega
 have CJ:(gN g).length<=7:=by
  unfold gN
  rw[List.length_map]
  have:=List.length_filter_le g.there (List.range 7)
  rwa [List.length_range]at this
 have htl:((List.range 7).filter g.there).length=(gN g).length:=by unfold gN;rw[List.length_map]
 rw[htl]at hP⊢
 refine(aeb (b:=b) (g:=g) (r:=r) (l:=[]) (a:=none) (c:=0) (by simp)).ak (λR h H=>bb.gR (n6 none:(aO none 0 []).p R h) H) ?_
 rintro v R h ⟨rfl,H⟩
 refine⟨_,rfl,?_,H⟩
 clear H
 refine⟨g.old.ep,r.oa,r.kG.length,r.oc,YK rfl rfl,?_⟩
 have ak8:HZ {g with own:=[]} {r with wa:=none,wc:=0}:=⟨hok.o,hok.p,hok.ob,hok.pb,by simp⟩
 refine((OH (aF b {g with own:=[]} {r with wa:=none,wc:=0}) (o5 a (gN g).length c (gN g)) g.old.ep r.oa r.kG.length r.oc r.kG (λR h H=>(aF.ro H).1) hok.ob.2 a (gN g).length c (gN g) (bR.ow _ _ _ _ _ _) rfl (by omega)).be (K:=HP.tt) (((HP.aV.refl _).gZ hP).trans (.of λR h H=>HP.az H)) λv=>.of λR h H=>HP.aj H).ak (λ_ _ h=>h) ?_
 rw[ahG hok]
 rintro v R h ⟨a1,c1,LZ,⟨rfl,he1,hb1⟩,H⟩
 refine⟨(gD g.old (gN g)).1.ep,a1,LZ.length,c1,Ls fu a1 LZ.length LZ,(gD g.old (gN g)).2,_,_,rfl,λ_=>⟨λh0=>?_,λh0=>?_⟩,H⟩
 ·clear H
  obtain⟨hnr,hne⟩:=uh hr h0
  have hnR:=qo hnr
  have xX:(⟨(gD g.old (gN g)).1.ep,LZ.map (·.l)⟩:rf)=(gD g.old (gN g)).1:=by rw[he1]
  have hown:nI g=plS (gD g.old (gN g)).1:=if_pos h0
  have hl1:LZ.length<=7:=by
   have:=hnR.S1
   rw[<-he1,List.length_map]at this;exact this
  refine((SX (gD g.old (gN g)).1.ep (Ls fu a1 LZ.length LZ) a1 LZ.length c1 LZ (λ_ _ h=>h) hnR.ep0 (by have:=hnR.ep1;omega) (by omega) hb1)).ak (λ_ _ h=>h) ?_
  rw[xX,<-hown]
  rintro v R h ⟨a2,c2,rfl,H⟩
  refine⟨a2,_,c2,du a2 (nI g).length c2 (nI g),_,rfl,?_,HP.ao H⟩
  clear H
  refine(aeb (b:=b) (g:={g with own:=[]}) (r:={r with wa:=none,wc:=0}) (l:=nI g) (a:=a2) (c:=c2) (by have:=Gk hr;omega)).be (K:=HP.tt) ((HP.aV.gZ (.refl _) (cp.ez _ _ _ _ _ _)).trans (.of λR h H=>HP.az H)) λv=>.of λR h H=>?_
  obtain⟨rfl,H1⟩:=HP.aj H
  refine⟨_,rfl,?_,H1⟩
  clear H H1
  refine(WN (k:=4) (x:=2) (by decide) (g:={g with own:=nI g}) (g':={g with own:=nI g,st:=2}) (r:={r with wa:=a2,wc:=c2}) rfl rfl rfl rfl rfl).ak (λ_ _ h=>h) ?_
  rintro v R h ⟨rfl,H⟩
  refine⟨aF b {g with own:=nI g,st:=2} {r with wa:=a2,wc:=c2},rfl,⟨g.cv,n9 rfl,g.dQ,n9 rfl,a2,(nI g).length,c2,WM,?_⟩,H⟩
  clear H
  refine(pf g.cv 1 g.dQ hu (aF b {g with own:=nI g,st:=2} {r with wa:=a2,wc:=c2}) a2 (nI g).length c2 (nI g) ⟨Rd.nU (bb.rd _ _ _ _) λR h H=>(aF.ro H).2.1,λR h H e=>(bR.ro _ _ _ _).none R h (aF.ro H).2.1 e⟩ rfl (by have:=Gk hr;omega)).ak (λ_ _ h=>h) ?_
  rintro v R h ⟨pb,rfl,H⟩
  refine⟨.pointer (some ⟨pb,0,none⟩),dG pb (n8 g.cv 1 g.dQ (nI g)),_,rfl,?_,HP.ao H⟩
  clear H
  refine(Xs (b:=b) (g:={g with own:=nI g,st:=2}) (r:={r with wa:=a2,wc:=c2})).ak (λ_ _ h=>h) ?_
  rintro v R h ⟨rfl,H⟩
  exact⟨_,rfl,.of λR h H=>⟨trivial,_,H⟩,H⟩
 ·clear H
  have hown:nI g=[]:=if_neg h0
  refine(WN (k:=4) (x:=2) (by decide) (g:={g with own:=[]}) (g':={g with own:=[],st:=2}) (r:={r with wa:=none,wc:=0}) rfl rfl rfl rfl rfl).ak (λ_ _ h=>h) ?_
  rintro v R h ⟨rfl,H⟩
  refine⟨aF b {g with own:=[],st:=2} {r with wa:=none,wc:=0},rfl,⟨g.cv,n9 rfl,g.dQ,n9 rfl,none,0,0,WM,?_⟩,H⟩
  clear H
  refine(pf g.cv 1 g.dQ hu (aF b {g with own:=[],st:=2} {r with wa:=none,wc:=0}) none 0 0 [] ⟨Rd.nU (bb.rd _ _ _ _) λR h H=>(aF.ro H).2.1,λR h H e=>rfl⟩ rfl (by omega)).ak (λ_ _ h=>h) ?_
  rintro v R h ⟨pb,rfl,H⟩
  refine⟨.pointer (some ⟨pb,0,none⟩),dG pb (n8 g.cv 1 g.dQ []),_,rfl,?_,HP.ao H⟩
  clear H
  refine(Xs (b:=b) (g:={g with own:=[],st:=2}) (r:={r with wa:=none,wc:=0})).ak (λ_ _ h=>h) ?_
  rintro v R h ⟨rfl,H⟩
  exact⟨_,rfl,.of λR h H=>⟨trivial,_,by unfold Cd;rw[hown];exact H⟩,H⟩
def ui(g:bY)(f:Nat)(e:Int):bY:=
 if dI {g with bf:=eT g.bf f true,there:=eT g.there f (decide (e=0))}=[]then Cd {g with bf:=eT g.bf f true,there:=eT g.there f (decide (e=0))}else{g with bf:=eT g.bf f true,there:=eT g.there f (decide (e=0))}
end
section
variable {b:Nat}{g:bY}{r:BG}
theorem Kt{k:Nat}(hk:k<7){x:Bool}:aI Tryz.prog (bH 4 (.pointer (some ⟨b,5+k,none⟩)) (.bool x)) (aF b g r) (λv=>HP.and (v=.tuple #[]) (aF b {g with bf:=eT g.bf k x} r)):=
 adn (g:=g) (r:=r) (by omega) (BH g r hk x) rfl rfl rfl rfl
theorem UB{k:Nat}(hk:k<7){x:Bool}:aI Tryz.prog (bH 4 (.pointer (some ⟨b,12+k,none⟩)) (.bool x)) (aF b g r) (λv=>HP.and (v=.tuple #[]) (aF b {g with there:=eT g.there k x} r)):=
 adn (g:=g) (r:=r) (by omega) (wF g r hk x) rfl rfl rfl rfl
theorem pR{x:Int}:aI Tryz.prog (bH 3 (.pointer (some ⟨b,4,none⟩)) (.int .i64 x)) (aF b g r) (λv=>HP.and (v=.tuple #[]) (aF b {g with st:=x} r)):=
 WN (g:=g) (r:=r) (k:=4) (by decide) rfl rfl rfl rfl rfl
theorem Xt{x:Int}:aI Tryz.prog (bH 3 (.pointer (some ⟨b,23,none⟩)) (.int .i64 x)) (aF b g r) (λv=>HP.and (v=.tuple #[]) (aF b {g with tail:=x} r)):=
 WN (g:=g) (r:=r) (k:=23) (by decide) rfl rfl rfl rfl rfl
theorem Ku(m:MS)(ca:Option Addr)(cc:Nat)(va:Option Addr)(vc:Nat)(f:Nat)(hf:m.fr=f)(PQ:f<7)(hs:ny g)(hr:cH g.old=true)(hu:g.cv<=10000)(D V0:HP):
 ax Tryz.prog 178 #[.pointer (some ⟨b,0,none⟩),.agg (m.cF ca cc va vc).aA] (HP.an (aF b g r) (HP.an D V0)) (λv=>HP.and (v=.tuple #[]) (gM b (ui g f m.bM))):=by
 refine ah (ρ:=[.n b,.p (aF b g r),.i m.fr,.i m.to,.i m.num,.c m.bf,.i m.kind,.i m.ep,.i m.at',.i m.cell.what,.a ca,.n m.cell.data.length,.n cc,.p D,.i m.br,.i m.bw,.a va,.n m.val.length,.n vc,.p V0,.i m.bM,.i m.tail,.i m.low,.i m.back]) mixed Tryz.func178 BE ?_
 unfold zv
 simp only[T.den,E.prop,E.den,RX.look,F1.app,F2.app,aP.dH,aP.dP,aP.cr,aP.eQ,aP.e9,aP.fw,aP.ju,bg,dB,V.den,W.den,A.den,BR.den,SA.den,FV.den,iX,nF,nK,fj,g5.app,List.map_cons,List.map_nil,List.cons_append,List.nil_append,List.drop_succ_cons,List.drop_zero,List.length_cons,List.length_nil,Nat.zero_add,Nat.reduceAdd,Int.neg_neg,Bool.not_not,List.append_nil,Nat.add_zero,List.getElem?_cons_zero,List.getElem?_cons_succ,Decidable.not_not,cu,dg,cJ,ne_eq,Nat.reduceEqDiff,not_false_eq_true,l9]
 intro _
 refine⟨.pointer (some ⟨b,5+f,none⟩),vY pJ tN uz hf PQ,?_⟩
 refine(Kt PQ).ak (λ_ _ h=>h) ?_
 rintro v R h ⟨rfl,H⟩
 refine⟨aF b {g with bf:=eT g.bf f true} r,rfl,⟨.pointer (some ⟨b,12+f,none⟩),vY pJ tN uz hf PQ,?_⟩,H⟩
 clear H
 refine(UB (g:={g with bf:=eT g.bf f true}) PQ).ak (λ_ _ h=>h) ?_
 rintro v R h ⟨rfl,H⟩
 refine⟨aF b {g with bf:=eT g.bf f true,there:=eT g.there f (decide (m.bM=0))} r,rfl,?_,H⟩
 clear H
 refine(wJ (g:={g with bf:=eT g.bf f true,there:=eT g.there f (decide (m.bM=0))}) ⟨hs.e0,hs.e1,hs.p2,hs.vl⟩).ak (λ_ _ h=>h) ?_
 rintro v R h ⟨rfl,H⟩
 refine⟨_,rfl,⟨λh1=>?_,λh1=>.of λR h H=>⟨trivial,?_⟩⟩,H⟩
 ·clear H
  have lC:=of_decide_eq_true h1
  refine(Ks (g:={g with bf:=eT g.bf f true,there:=eT g.there f (decide (m.bM=0))}) hr hu).ak (λ_ _ h=>h) ?_
  rintro v R h ⟨rfl,H⟩
  refine⟨_,rfl,.of λR h H=>⟨trivial,?_⟩,H⟩
  unfold ui
  rw[if_pos lC]
  exact HP.aj H
 ·have lC:¬dI {g with bf:=eT g.bf f true,there:=eT g.there f (decide (m.bM=0))}=[]:=λe=>h1 (decide_eq_true e)
  unfold ui
  rw[if_neg lC]
  exact⟨r,HP.aj H⟩
def oB(g:bY)(m:MS)(f:Nat):bY:=
 if m.bM=0 then(if dI {g with tail:=max (max g.tail m.tail) m.low,bf:=eT g.bf f true}=[]then{g with tail:=max (max g.tail m.tail) m.low,bf:=eT g.bf f true,st:=4}else{g with tail:=max (max g.tail m.tail) m.low,bf:=eT g.bf f true})
 else if m.bM≠8\/m.back<=g.old.ep+1 then{g with st:=6}
 else(if dI {g with bf:=eT g.bf f true}=[]then{g with bf:=eT g.bf f true,st:=4}else{g with bf:=eT g.bf f true})
def Xu(ty:TypeId)(ts:Array TypeId)(u v x:Value):Sem Next:=do pure (.value (<-Builtin.max_ ts ty #[u,v,x]))
theorem UC{ty:TypeId}{ts:Array TypeId}{i j k:Nat}{u v x:Value}(h1:i≠j)(h2:i≠k)(h3:j≠k):bI (.call ⟨.builtin .max,#[.tmp i,.tmp j,.tmp k],ts⟩) ty [(i,u),(j,v),(k,x)]=Xu ty ts u v x:=by
 have e1:(i==j)=false:=by simpa using h1
 have e2:(i==k)=false:=by simpa using h2
 have e3:(j==k)=false:=by simpa using h3
 simp[bI,execOp,resolve,jR,invoke,builtin,e1,e2,e3,Xu]
theorem aaL{ty:TypeId}{ts:Array TypeId}{x y z:Int}{A:HP}:aH Tryz.prog (Xu ty ts (.int .i64 x) (.int .i64 y) (.int .i64 z)) A (.int .i64 (max (max x y) z)):=λw R h F s _=>by
 have e:(if z>(if y>x then y else x)then z else(if y>x then y else x))=max (max x y) z:=by
  split<;>split at* <;>omega
 unfold Xu
 rw[Sem.run_bind,run_max_int3,e];rfl
set_option maxHeartbeats 1000000 in
theorem UE(m:MS)(ca:Option Addr)(cc:Nat)(va:Option Addr)(vc:Nat)(f:Nat)(hf:m.fr=f)(PQ:f<7)(hs:ny g)(D V0:HP):
 ax Tryz.prog 180 #[.pointer (some ⟨b,0,none⟩),.agg (m.cF ca cc va vc).aA] (HP.an (aF b g r) (HP.an D V0)) (λv=>HP.and (v=.tuple #[]) (gM b (oB g m f))):=by
 refine ah (ρ:=[.n b,.p (aF b g r),.i m.fr,.i m.to,.i m.num,.c m.bf,.i m.kind,.i m.ep,.i m.at',.i m.cell.what,.a ca,.n m.cell.data.length,.n cc,.p D,.i m.br,.i m.bw,.a va,.n m.val.length,.n vc,.p V0,.i m.bM,.i m.tail,.i m.low,.i m.back]) mixed Tryz.func180 Jl ?_
 unfold MA
 simp only[T.den,E.prop,E.den,RX.look,F1.app,F2.app,aP.dH,aP.dP,aP.cr,aP.eQ,aP.e9,aP.fw,aP.ju,bg,dB,V.den,W.den,A.den,BR.den,SA.den,FV.den,iX,nF,nK,fj,g5.app,List.map_cons,List.map_nil,List.cons_append,List.nil_append,List.drop_succ_cons,List.drop_zero,List.length_cons,List.length_nil,Nat.zero_add,Nat.reduceAdd,Int.neg_neg,Bool.not_not,List.append_nil,Nat.add_zero,List.getElem?_cons_zero,List.getElem?_cons_succ,Decidable.not_not,cu,dg,cJ,ne_eq,Nat.reduceEqDiff,not_false_eq_true,l9,UC]
 intro _
 refine⟨λh0=>⟨g.tail,n9 rfl,max (max g.tail m.tail) m.low,aaL,?_⟩,λh0=>?_⟩
 ·refine(Xt (b:=b) (g:=g) (r:=r)).ak (λ_ _ h=>h) ?_
  rintro v R h ⟨rfl,H⟩
  refine⟨aF b {g with tail:=max (max g.tail m.tail) m.low} r,rfl,⟨.pointer (some ⟨b,5+f,none⟩),vY pJ tN uz hf PQ,?_⟩,H⟩
  clear H
  refine(Kt (g:={g with tail:=max (max g.tail m.tail) m.low}) PQ).ak (λ_ _ h=>h) ?_
  rintro v R h ⟨rfl,H⟩
  refine⟨aF b {g with tail:=max (max g.tail m.tail) m.low,bf:=eT g.bf f true} r,rfl,?_,H⟩
  clear H
  refine(wJ (g:={g with tail:=max (max g.tail m.tail) m.low,bf:=eT g.bf f true}) ⟨hs.e0,hs.e1,hs.p2,hs.vl⟩).ak (λ_ _ h=>h) ?_
  rintro v R h ⟨rfl,H⟩
  refine⟨_,rfl,⟨λh1=>?_,λh1=>.of λR h H=>⟨trivial,?_⟩⟩,H⟩
  ·clear H
   refine(pR (b:=b) (g:={g with tail:=max (max g.tail m.tail) m.low,bf:=eT g.bf f true}) (r:=r)).ak (λ_ _ h=>h) ?_
   rintro v R h ⟨rfl,H⟩
   refine⟨_,rfl,.of λR h H=>⟨trivial,r,?_⟩,H⟩
   unfold oB
   rw[if_pos h0,if_pos (of_decide_eq_true h1)]
   exact HP.aj H
  ·unfold oB
   rw[if_pos h0,if_neg (λe=>h1 (decide_eq_true e))]
   exact⟨r,HP.aj H⟩
 ·have rest:¬(m.bM≠8\/m.back<=g.old.ep+1)->oB g m f=(if dI {g with bf:=eT g.bf f true}=[]then{g with bf:=eT g.bf f true,st:=4}else{g with bf:=eT g.bf f true}):=λh=>by unfold oB;rw[if_neg h0,if_neg h]
  refine⟨λc=>c=decide (m.bM≠8\/m.back<=g.old.ep+1),⟨λh8=>?_,λh8=>?_⟩,?_⟩
  ·exact(decide_eq_true (.inl h8)).symm
  ·refine(ke hs.e0 hs.e1).ak (λ_ _ h=>h) ?_
   rintro v R h ⟨rfl,H⟩
   refine⟨_,rfl,?_,H⟩
   show decide (m.back<=g.old.ep+1)=_
   have:m.bM=8:=h8
   by_cases hb:m.back<=g.old.ep+1
   ·rw[decide_eq_true hb,decide_eq_true (.inr hb)]
   ·rw[decide_eq_false hb,decide_eq_false (λh=>h.elim (λh=>h this) hb)]
  ·rintro _ rfl
   refine⟨λh1=>?_,λh1=>?_⟩
   ·refine(pR (b:=b) (g:=g) (r:=r)).ak (λ_ _ h=>h) ?_
    rintro v R h ⟨rfl,H⟩
    refine⟨_,rfl,.of λR h H=>⟨trivial,r,?_⟩,H⟩
    unfold oB
    rw[if_neg h0,if_pos (of_decide_eq_true h1)]
    exact HP.aj H
   ·have kh:=rest (λh=>h1 (decide_eq_true h))
    refine⟨.pointer (some ⟨b,5+f,none⟩),vY pJ tN uz hf PQ,?_⟩
    refine(Kt (g:=g) PQ).ak (λ_ _ h=>h) ?_
    rintro v R h ⟨rfl,H⟩
    refine⟨aF b {g with bf:=eT g.bf f true} r,rfl,?_,H⟩
    clear H
    refine(wJ (g:={g with bf:=eT g.bf f true}) ⟨hs.e0,hs.e1,hs.p2,hs.vl⟩).ak (λ_ _ h=>h) ?_
    rintro v R h ⟨rfl,H⟩
    refine⟨_,rfl,⟨λh1=>?_,λh1=>.of λR h H=>⟨trivial,?_⟩⟩,H⟩
    ·clear H
     refine(pR (b:=b) (g:={g with bf:=eT g.bf f true}) (r:=r)).ak (λ_ _ h=>h) ?_
     rintro v R h ⟨rfl,H⟩
     refine⟨_,rfl,.of λR h H=>⟨trivial,r,?_⟩,H⟩
     rw[kh,if_pos (of_decide_eq_true h1)]
     exact HP.aj H
    ·rw[kh,if_neg (λe=>h1 (decide_eq_true e))]
     exact⟨r,HP.aj H⟩
end
theorem zZ(iA w dQ:Int)(hr:iA+1<=9223372036854775807/\0<=iA):ax Tryz.prog 227 #[.agg #[.int .i64 iA,.int .i64 w],.int .i64 dQ] HP.tt (λv=>HP.pure (v=.agg #[.int .i64 (iA+1),.int .i64 dQ])):=by
 refine ah (ρ:=[.i iA,.i w,.i dQ]) mixed Tryz.func227 Ey ?_
 unfold Ew
 refine cg ?_
 exact λ_ _=>⟨aK _ (by omega) (by omega),λ_=>.of λR h H=>trivial⟩
theorem Kv(S:HP)(a:Option Addr)(n c:Nat)(l:List UInt8)(hr:bR S a n (l.map fH))(hl:l.length=n)(hb:n<=140737488355328):
 ax Tryz.prog 55 #[.slice a n c] S (λv=>HP.ex λa'=>HP.ex λc'=>HP.and (v=.slice a' n c'/\n<=c') (HP.an (aO a' n l) S)):=
 (j5 S a n c l hr hl hb).post λv=>λR h d ⟨a',c',e,H⟩=>by
   have hle:=cp.le (HP.aj H)
   obtain⟨R1,h1,q1,q2,q3,q4,H1⟩:=(HP.aV.an (cp.ez _ _ _ _ _ _) S) R h d H
   exact⟨R1,h1,q1,q2,q3,q4,a',c',⟨e,hle⟩,H1⟩
theorem Kw(b:Nat)(g:j8):ax Tryz.prog 230 #[.pointer (some ⟨b,0,none⟩)] (dG b g) (λv=>HP.ex λa=>HP.ex λc=>HP.and (v=.slice a g.val.length c/\g.val.length<=c) (HP.an (aO a g.val.length g.val) (dG b g))):=by
 refine(dG.kF (K:=HP.tt) λva vc mp hB=>?_).ak (λR h H=>HP.az H) λ_ _ _ h=>h
 refine ah (ρ:=[.n b,.i g.acc,.i g.iA,.i g.dQ,.a va,.n g.val.length,.n vc,.p (aO va g.val.length g.val),.i g.bX,.n mp,.p (HP.an (gK mp g.aQ) HP.tt),.i g.cj]) mixed Tryz.func230 tQ ?_
 unfold wu
 refine cg ?_
 refine(Kv (aO va g.val.length g.val) va g.val.length vc g.val (bR.ro _ _ _ _) rfl hB.2.2.2.2).ak (λ_ _ h=>h) ?_
 rintro v R h ⟨a,c,⟨rfl,hc⟩,H⟩
 refine⟨a,_,c,aO a g.val.length g.val,rfl,.of λR h H=>⟨a,c,⟨rfl,hc⟩,?_⟩,H⟩
 have H2:=HP.pick [_,_,_,_] [3,0,1,2] (by decide) rfl H
 exact HP.ae H2 (λ_ h=>h) λy hy=>⟨va,vc,mp,hB,HP.ae hy (λ_ h=>h) λz hz=>HP.ae hz (λ_ h=>h) λw hw=>HP.aj hw⟩
theorem xd{l:List UInt8}(h:(dD l).2=0):cH (dD l).1=true:=by
 unfold dD at h⊢
 split at h
 ·exact absurd h (by decide)
 ·rename_i i hu
  split at h
  ·exact absurd h (by decide)
  ·rename_i hn
   rw[if_neg hn]
   cases hq:cH (wo i).1 with
   |true=>rfl
   |false=>exact absurd (.inr (.inr hq)) hn
def rH(g:bY)(s':j8):bY:=
 if s'.bX=4 then{g with prop:=some (n8 g.cv (s'.iA+1) g.dQ g.own)}
 else if s'.bX=3 then(if(dD s'.val).2≠0\/(dD s'.val).1.ep≠g.old.ep+1 then{g with prop:=some s',st:=6}else{g with prop:=some s',bt:=(dD s'.val).1,st:=3,bf:=λ_=>false})
 else{g with prop:=some s'}
def pS(s:j8)(m:MS)(s':j8):Prop:=if m.kind=6 then nw s m.fr m.br m.bw m.val m.bM s' else s'=Eu s m.fr m.bM
structure z6(s:j8):Prop where
 few:s.aQ.length<=100000
 av:∀x∈s.aQ,x.2.val.length<=100000000
 val:s.val.length<=100000000
 iA:0<=s.iA/\s.iA<=1000000000
theorem PR(s:j8)(f:Int)(x:BA):(cB s f x).1.aQ=s.aQ++[(f,x)]/\(cB s f x).1.iA=s.iA:=by
 unfold cB
 split
 ·exact⟨rfl,rfl⟩
 ·split<;>exact⟨rfl,rfl⟩
theorem n7.le'{L:List (Int×BA)}{v0 v:List UInt8}{B:Nat}(h:n7 (cK L 0) v0 v)(h0:v0.length<=B)(hL:∀x∈L,x.2.val.length<=B):v.length<=B:=by
 have aux:∀(L:List (Int×BA)) (i k:Int) (x:qp),cK L i k=some x->∃y∈L,y.2.val=x.val:=λL=>by
  induction L with
  |nil=>intro i k x h;cases h
  |cons y L ih=>
   intro i k x h
   simp only[cK]at h
   split at h
   ·cases h;exact⟨y,by simp,rfl⟩
   ·obtain⟨z,hz,e⟩:=ih (i+1) k x h;exact⟨z,List.mem_cons_of_mem _ hz,e⟩
 rcases h with⟨_,rfl⟩|⟨k,x,hx,_,rfl,_⟩
 ·exact h0
 ·obtain⟨y,hy,e⟩:=aux L 0 k x hx
  rw[<-e];exact hL y hy
theorem z6.step{s s':j8}{m:MS}(h:z6 s)(hm:m.val.length<=100000000)(hf:s.aQ.length<=99999)(hp:pS s m s'):z6 s':=by
 have tk:∀(x:BA),x.val.length<=100000000->z6 (cB s m.fr x).1:=λx hx=>by
  obtain⟨e1,e2⟩:=PR s m.fr x
  refine⟨by rw[e1];simp;omega,λy hy=>?_,by rw[pe];exact h.val,by rw[e2];exact h.iA⟩
  rw[e1]at hy
  rcases List.mem_append.1 hy with hy|hy
  ·exact h.av y hy
  ·obtain rfl:=List.mem_singleton.1 hy;exact hx
 unfold pS at hp
 split at hp
 ·unfold nw at hp
  split at hp
  ·have hx:(mg m.br m.bw m.val m.bM).val.length<=100000000:=by unfold mg;split<;>simp[hm]
   have ht:=tk _ hx
   split at hp
   ·obtain⟨val,Wl,rfl⟩:=hp
    refine⟨by simp,(λx hx=>by cases hx),Wl.le' h.val ht.av,ht.iA⟩
   ·subst hp;exact ht
  ·subst hp;exact h
 ·subst hp
  unfold Eu
  split
  ·have ht:=tk ⟨decide (m.bM=0),0,0,[]⟩ (by simp)
   split
   ·exact⟨ht.few,ht.av,ht.val,ht.iA⟩
   ·exact ht
  ·exact h
section
variable {b:Nat}{g:bY}{r:BG}
theorem xe{s:j8}(hp:g.prop=some s):ax Tryz.prog 230 #[dZ (.pointer r.pv)] (aF b g r) (λv=>HP.ex λa=>HP.ex λc=>HP.and (v=.slice a s.val.length c/\s.val.length<=c) (HP.an (aO a s.val.length s.val) (aF b g r))):=
 (wG (args:=λp=> #[p]) (B:=λv=>HP.ex λa=>HP.ex λc=>HP.and (v=.slice a s.val.length c/\s.val.length<=c) (aO a s.val.length s.val)) (K:=HP.tt) hp λpb=>(Kw pb s).ak (λR h H=>HP.aj H) λv R h ⟨a,c,e,H⟩=>HP.ae H (λ_ h=>⟨a,c,e,h⟩) λ_ h=>h).ak (λR h H=>HP.az H) λv R h ⟨h1,h2,d,l1,l2,⟨a,c,e,H1⟩,H2⟩=>⟨a,c,e,h1,h2,d,l1,l2,H1,H2⟩
theorem Gl{f:FuncId}{args:Value->Array Value}{s:j8}{φ:Value->j8->Prop}{K:HP}(hp:g.prop=some s)(t:∀pb,ax Tryz.prog f (args (.pointer (some ⟨pb,0,none⟩))) (HP.an (dG pb s) K) (λv=>HP.ex λs'=>HP.and (φ v s') (dG pb s'))):
 ax Tryz.prog f (args (dZ (.pointer r.pv))) (HP.an (aF b g r) K) (λv=>HP.ex λs'=>HP.and (φ v s') (aF b {g with prop:=some s'} r)):=by
 refine(ax.ex (A:=λpb=>HP.and (r.pv=some ⟨pb,0,none⟩/\HZ g r) (HP.an (HP.an (dG pb s) K) (HP.an (uD b g r) (rj g r)))) λpb=>ax.pure λ⟨e,hok⟩=>?_).ak (λR h H=>?_) λ_ _ _ h=>h
 ·rw[e]
  refine((t pb).frame (HP.an (uD b g r) (rj g r))).ak (λ_ _ h=>h) λv R h ⟨h1,h2,d,l1,l2,⟨s',hf,H1⟩,H2⟩=>⟨s',hf,⟨hok.o,hok.p,hok.ob,hok.pb,hok.wb⟩,?_⟩
  have H3:(HP.an (dG pb s') (HP.an (uD b g r) (rj g r))).p R h:=⟨h1,h2,d,l1,l2,H1,H2⟩
  refine HP.ae (HP.pick [dG pb s',uD b g r,rj g r] [1,0,2] (by decide) rfl H3) (λ_ h=>h) λz hz=>HP.ae hz (λw hw=>?_) λ_ h=>h
  rw[e]
  exact⟨pb,rfl,hw⟩
 ·obtain⟨h1,h2,d,l1,l2,⟨hok,H⟩,HK⟩:=H
  rw[hp]at H
  obtain⟨h3,h4,d2,l3,l4,HO,h5,h6,d3,l5,l6,⟨pb,e,HB⟩,HR⟩:=H
  refine⟨pb,⟨e,hok⟩,?_⟩
  have H9:(HP.an (HP.an (uD b g r) (HP.an (dG pb s) (rj g r))) K).p R h:=⟨h1,h2,d,l1,l2,⟨h3,h4,d2,l3,l4,HO,h5,h6,d3,l5,l6,HB,HR⟩,HK⟩
  have H10:=HP.ae (HP.aq H9) (λ_ h=>h) λy hy=>HP.aq hy
  exact HP.ay (HP.pick [uD b g r,dG pb s,rj g r,K] [1,3,0,2] (by decide) rfl H10)
theorem Y0{p:rf}{a:Option Addr}{c:Nat}{es:List iZ}(hr:cH p=true)(he:es.map (·.l)=p.ch):aI Tryz.prog (bH 29 (.pointer (some ⟨b,21,none⟩)) (.agg #[.int .i64 p.ep,.slice a es.length c])) (HP.an (aF b g r) (Ls fu a es.length es))
 (λv=>HP.and (v=.tuple #[]) (HP.an (aF b {g with bt:=p} {r with pa:=a,pc:=c,kC:=es}) (Ls fu a es.length es))):=by
 refine aI.bV (φ:=HZ g r) (λR h H=>(HP.aj H).1) λhok=>?_
 obtain⟨i,hi,hz⟩:=Option.map_eq_some_iff.1 (show(Tryz.prog.info? 29).map (λi=>i.size)=some 2 by kernel_rfl)
 have hR:=qo hr
 refine(ZW (e:=227) (b:=b) (k:=21) (cs:=(gL g r).toArray) (cs':=(gL {g with bt:=p} {r with pa:=a,pc:=c,kC:=es}).toArray) (vs:=[.int .i64 p.ep,.slice a es.length c]) hi rfl hz (by simp) (λv hv=>by
  rcases List.mem_cons.1 hv with h|h
  ·subst h;rfl
  ·obtain rfl:=List.mem_singleton.1 h;rfl) (by simp[wE]) rfl (HP.an (HP.an (pM r.pv g.prop) (rj g r)) (Ls fu a es.length es))).ak (λR h H=>HP.aq (HP.ae H (λ_ h=>h.2) λ_ h=>h)) ?_
 rintro v R h ⟨e,H⟩
 refine⟨e,?_⟩
 have hl:(Ls fu a es.length es).p R h:=HP.ai (HP.ai H)
 have hro:(rj g r).p R h:=HP.ai (HP.aj (HP.ai H))
 refine HP.ao ⟨PH.cz,h,PH.dY _,PH.cT _,PH.le.refl _,Ls.gf _ hl,⟨hok.o,he,hok.ob,⟨?_,λx hx=>?_⟩,hok.wb⟩,HP.ae H (λ_ h=>h) λy hy=>HP.ae (HP.aj hy) (λ_ h=>h) λz _=>⟨Ls.gf z hro.1,hro.2.1,Ls.gf z hl⟩⟩
 ·have:=hR.S1
  rw[<-he,List.length_map]at this;show es.length<=1000;omega
 ·have:=(hR.chain (show x.l∈p.ch by rw[<-he];exact List.mem_map.2 ⟨x,hx,rfl⟩)).2.2
  omega
theorem aec:aI Tryz.prog (bH 224 (.pointer (some ⟨b,5,none⟩)) (.agg #[.bool false,.bool false,.bool false,.bool false,.bool false,.bool false,.bool false])) (aF b g r)
 (λv=>HP.and (v=.tuple #[]) (aF b {g with bf:=λ_=>false} r)):=by
 refine aI.bV (φ:=HZ g r) (λR h H=>H.1) λhok=>?_
 obtain⟨i,hi,hz⟩:=Option.map_eq_some_iff.1 (show(Tryz.prog.info? 224).map (λi=>i.size)=some 7 by kernel_rfl)
 refine(ZW (e:=227) (b:=b) (k:=5) (cs:=(gL g r).toArray) (cs':=(gL {g with bf:=λ_=>false} r).toArray) (vs:=OF λ_=>false) hi rfl (by rw[hz,dw]) (by rw[dw];decide) (λv hv=>by
  obtain⟨_,_,rfl⟩:=List.mem_map.1 hv;rfl) (by rw[dw];simp[wE]) rfl (HP.an (pM r.pv g.prop) (rj g r))).ak (λR h H=>H.2) ?_
 rintro v R h ⟨e,H⟩
 exact⟨e,⟨hok.o,hok.p,hok.ob,hok.pb,hok.wb⟩,H⟩
set_option maxHeartbeats 4000000 in
theorem PS(m:MS)(ca:Option Addr)(cc:Nat)(va:Option Addr)(vc:Nat)(s:j8)(hp:g.prop=some s)(hs:ny g)(hB:z6 s)(hf:s.aQ.length<=99999)(hmv:m.val.length<=100000000)(hu:g.cv<=10000)(hown:g.own.length<=1000000)(D:HP):
 ax Tryz.prog 179 #[.pointer (some ⟨b,0,none⟩),.agg (m.cF ca cc va vc).aA] (HP.an (aF b g r) (HP.an D (m.bj va))) (λv=>HP.ex λs'=>HP.and (v=.tuple #[]/\pS s m s') (gM b (rH g s'))):=by
 refine ah (ρ:=[.n b,.p (aF b g r),.i m.fr,.i m.to,.i m.num,.c m.bf,.i m.kind,.i m.ep,.i m.at',.i m.cell.what,.a ca,.n m.cell.data.length,.n cc,.p D,.i m.br,.i m.bw,.a va,.n m.val.length,.n vc,.p (m.bj va),.i m.bM,.i m.tail,.i m.low,.i m.back]) mixed Tryz.func179 EO ?_
 unfold EN
 refine cg ?_
 intro _
 refine⟨λh6=>⟨.pointer r.pv,uE,?_⟩,λh6=>⟨.pointer r.pv,uE,?_⟩⟩
 ·refine(Gl (args:=λp=> #[p,.int .i64 m.fr,.agg #[.int .i64 m.br,.int .i64 m.bw],.slice va m.val.length vc,.int .i64 m.bM]) (φ:=λv s'=>v=.tuple #[]/\nw s m.fr m.br m.bw m.val m.bM s') (K:=m.bj va) hp λpb=>BD pb s m.fr m.br m.bw m.bM va vc m.val (by omega) (λx hx=>by have:=hB.av x hx;omega) (by omega)).ak (λ_ _ h=>h) ?_
  rintro v R h ⟨s',⟨rfl,hP⟩,H⟩
  have qK:pS s m s':=by unfold pS;rw[if_pos h6];exact hP
  have QR:=hB.step hmv hf qK
  refine⟨aF b {g with prop:=some s'} r,HP.tt,rfl,?_,HP.az H⟩
  clear H
  refine⟨.pointer r.pv,uE,?_⟩
  refine(sN (g:={g with prop:=some s'}) rfl).ak (λ_ _ h=>h) ?_
  rintro v R h ⟨rfl,H⟩
  refine⟨_,rfl,⟨λh4=>?_,λh4=>⟨λh3=>?_,λh3=>.of λR h H=>⟨s',⟨trivial,qK⟩,?_⟩⟩⟩,H⟩
  ·clear H
   refine⟨g.cv,n9 rfl,.pointer r.pv,uE,g.dQ,n9 rfl,r.wa,g.own.length,r.wc,WM,?_⟩
   refine(qt (g:={g with prop:=some s'}) rfl).ak (λ_ _ h=>h) ?_
   rintro v R h ⟨rfl,H⟩
   refine⟨_,_,rfl,?_,H⟩
   clear H
   refine(zZ s'.iA s'.dQ g.dQ (by have:=QR.iA;omega)).ak (λ_ _ _=>trivial) ?_
   rintro v R h rfl
   refine⟨_,_,rfl,?_,trivial⟩
   refine(pf g.cv (s'.iA+1) g.dQ hu (aF b {g with prop:=some s'} r) r.wa g.own.length r.wc g.own ⟨Rd.nU (bb.rd _ _ _ _) λR h H=>(aF.ro H).2.1,λR h H e=>(bR.ro _ _ _ _).none R h (aF.ro H).2.1 e⟩ rfl (by omega)).ak (λ_ _ h=>h) ?_
   rintro v R h ⟨pb,rfl,H⟩
   refine⟨.pointer (some ⟨pb,0,none⟩),dG pb (n8 g.cv (s'.iA+1) g.dQ g.own),_,rfl,?_,HP.ao H⟩
   clear H
   refine(Xs (b:=b) (g:={g with prop:=some s'}) (r:=r)).ak (λ_ _ h=>h) ?_
   rintro v R h ⟨rfl,H⟩
   refine⟨_,rfl,.of λR h H=>⟨s',⟨trivial,qK⟩,{r with pv:=some ⟨pb,0,none⟩},?_⟩,H⟩
   unfold rH
   rw[if_pos h4]
   exact HP.aj H
  ·clear H
   have hout:rH g s'=if(dD s'.val).2≠0\/(dD s'.val).1.ep≠g.old.ep+1 then{g with prop:=some s',st:=6}else{g with prop:=some s',bt:=(dD s'.val).1,st:=3,bf:=λ_=>false}:=by
    unfold rH;rw[if_neg h4,if_pos h3]
   refine⟨.pointer r.pv,uE,?_⟩
   refine(xe (g:={g with prop:=some s'}) rfl).ak (λ_ _ h=>h) ?_
   rintro v R h ⟨a1,c1,⟨rfl,Oy⟩,H⟩
   refine⟨a1,_,c1,aO a1 s'.val.length s'.val,rfl,?_,H⟩
   clear H
   refine(Ef a1 s'.val.length c1 s'.val (aO a1 s'.val.length s'.val) (bR.ro _ _ _ _) rfl Oy QR.val).ak (λ_ _ h=>h) ?_
   rintro v R h ⟨a2,c2,es,⟨rfl,xX⟩,H⟩
   refine⟨(dD s'.val).1.ep,a2,es.length,c2,Ls fu a2 es.length es,(dD s'.val).2,_,rfl,λ_=>?_,H⟩
   clear H
   refine⟨λc=>c=decide ((dD s'.val).2≠0\/(dD s'.val).1.ep≠g.old.ep+1),⟨λh5=>?_,λh5=>?_⟩,?_⟩
   ·exact(decide_eq_true (.inl h5)).symm
   ·refine(ke (g:={g with prop:=some s'}) hs.e0 hs.e1).ak (λ_ _ h=>h) ?_
    rintro v R h ⟨rfl,H⟩
    refine⟨_,rfl,?_,H⟩
    show(!decide ((dD s'.val).1.ep=g.old.ep+1))=_
    have h5':(dD s'.val).2=0:=h5
    by_cases hb:(dD s'.val).1.ep=g.old.ep+1
    ·rw[decide_eq_true hb,decide_eq_false (λh=>h.elim (λh=>h h5') (λh=>h hb))];rfl
    ·rw[decide_eq_false hb,decide_eq_true (.inr hb)];rfl
   ·rintro _ rfl
    refine⟨λh6=>?_,λh6=>?_⟩
    ·refine(pR (b:=b) (g:={g with prop:=some s'}) (r:=r)).ak (λ_ _ h=>h) ?_
     rintro v R h ⟨rfl,H⟩
     refine⟨_,rfl,.of λR h H=>⟨s',⟨trivial,qK⟩,r,?_⟩,H⟩
     rw[hout,if_pos (of_decide_eq_true h6)]
     exact HP.aj H
    ·have h6':¬((dD s'.val).2≠0\/(dD s'.val).1.ep≠g.old.ep+1):=λh=>h6 (decide_eq_true h)
     have h0':(dD s'.val).2=0:=Classical.byContradiction λh=>h6' (.inl h)
     refine(Y0 (b:=b) (g:={g with prop:=some s'}) (r:=r) (p:=(dD s'.val).1) (a:=a2) (c:=c2) (es:=es) (xd h0') xX).ak (λ_ _ h=>h) ?_
     rintro v R h ⟨rfl,H⟩
     refine⟨aF b {g with prop:=some s',bt:=(dD s'.val).1} {r with pa:=a2,pc:=c2,kC:=es},rfl,?_,H⟩
     clear H
     refine(pR (b:=b) (g:={g with prop:=some s',bt:=(dD s'.val).1}) (r:={r with pa:=a2,pc:=c2,kC:=es})).ak (λ_ _ h=>h) ?_
     rintro v R h ⟨rfl,H⟩
     refine⟨aF b {g with prop:=some s',bt:=(dD s'.val).1,st:=3} {r with pa:=a2,pc:=c2,kC:=es},rfl,?_,H⟩
     clear H
     refine(aec (b:=b) (g:={g with prop:=some s',bt:=(dD s'.val).1,st:=3}) (r:={r with pa:=a2,pc:=c2,kC:=es})).ak (λ_ _ h=>h) ?_
     rintro v R h ⟨rfl,H⟩
     refine⟨_,rfl,.of λR h H=>⟨s',⟨trivial,qK⟩,{r with pa:=a2,pc:=c2,kC:=es},?_⟩,H⟩
     rw[hout,if_neg h6']
     exact HP.aj H
  ·unfold rH
   rw[if_neg h4,if_neg h3]
   exact⟨r,HP.aj H⟩
 ·refine(Gl (args:=λp=> #[p,.int .i64 m.fr,.int .i64 m.bM]) (φ:=λv s'=>v=.tuple #[]/\s'=Eu s m.fr m.bM) (K:=HP.tt) hp λpb=>(BB pb s m.fr m.bM (by omega)).ak (λR h H=>HP.aj H) λv R h ⟨e,H⟩=>⟨_,⟨e,rfl⟩,H⟩).ak (λR h H=>HP.az H) ?_
  rintro v R h ⟨s',⟨rfl,hP⟩,H⟩
  have qK:pS s m s':=by unfold pS;rw[if_neg h6];exact hP
  have QR:=hB.step hmv hf qK
  refine⟨aF b {g with prop:=some s'} r,rfl,?_,H⟩
  clear H
  refine⟨.pointer r.pv,uE,?_⟩
  refine(sN (g:={g with prop:=some s'}) rfl).ak (λ_ _ h=>h) ?_
  rintro v R h ⟨rfl,H⟩
  refine⟨_,rfl,⟨λh4=>?_,λh4=>⟨λh3=>?_,λh3=>.of λR h H=>⟨s',⟨trivial,qK⟩,?_⟩⟩⟩,H⟩
  ·clear H
   refine⟨g.cv,n9 rfl,.pointer r.pv,uE,g.dQ,n9 rfl,r.wa,g.own.length,r.wc,WM,?_⟩
   refine(qt (g:={g with prop:=some s'}) rfl).ak (λ_ _ h=>h) ?_
   rintro v R h ⟨rfl,H⟩
   refine⟨_,_,rfl,?_,H⟩
   clear H
   refine(zZ s'.iA s'.dQ g.dQ (by have:=QR.iA;omega)).ak (λ_ _ _=>trivial) ?_
   rintro v R h rfl
   refine⟨_,_,rfl,?_,trivial⟩
   refine(pf g.cv (s'.iA+1) g.dQ hu (aF b {g with prop:=some s'} r) r.wa g.own.length r.wc g.own ⟨Rd.nU (bb.rd _ _ _ _) λR h H=>(aF.ro H).2.1,λR h H e=>(bR.ro _ _ _ _).none R h (aF.ro H).2.1 e⟩ rfl (by omega)).ak (λ_ _ h=>h) ?_
   rintro v R h ⟨pb,rfl,H⟩
   refine⟨.pointer (some ⟨pb,0,none⟩),dG pb (n8 g.cv (s'.iA+1) g.dQ g.own),_,rfl,?_,HP.ao H⟩
   clear H
   refine(Xs (b:=b) (g:={g with prop:=some s'}) (r:=r)).ak (λ_ _ h=>h) ?_
   rintro v R h ⟨rfl,H⟩
   refine⟨_,rfl,.of λR h H=>⟨s',⟨trivial,qK⟩,{r with pv:=some ⟨pb,0,none⟩},?_⟩,H⟩
   unfold rH
   rw[if_pos h4]
   exact HP.aj H
  ·clear H
   have hout:rH g s'=if(dD s'.val).2≠0\/(dD s'.val).1.ep≠g.old.ep+1 then{g with prop:=some s',st:=6}else{g with prop:=some s',bt:=(dD s'.val).1,st:=3,bf:=λ_=>false}:=by
    unfold rH;rw[if_neg h4,if_pos h3]
   refine⟨.pointer r.pv,uE,?_⟩
   refine(xe (g:={g with prop:=some s'}) rfl).ak (λ_ _ h=>h) ?_
   rintro v R h ⟨a1,c1,⟨rfl,Oy⟩,H⟩
   refine⟨a1,_,c1,aO a1 s'.val.length s'.val,rfl,?_,H⟩
   clear H
   refine(Ef a1 s'.val.length c1 s'.val (aO a1 s'.val.length s'.val) (bR.ro _ _ _ _) rfl Oy QR.val).ak (λ_ _ h=>h) ?_
   rintro v R h ⟨a2,c2,es,⟨rfl,xX⟩,H⟩
   refine⟨(dD s'.val).1.ep,a2,es.length,c2,Ls fu a2 es.length es,(dD s'.val).2,_,rfl,λ_=>?_,H⟩
   clear H
   refine⟨λc=>c=decide ((dD s'.val).2≠0\/(dD s'.val).1.ep≠g.old.ep+1),⟨λh5=>?_,λh5=>?_⟩,?_⟩
   ·exact(decide_eq_true (.inl h5)).symm
   ·refine(ke (g:={g with prop:=some s'}) hs.e0 hs.e1).ak (λ_ _ h=>h) ?_
    rintro v R h ⟨rfl,H⟩
    refine⟨_,rfl,?_,H⟩
    show(!decide ((dD s'.val).1.ep=g.old.ep+1))=_
    have h5':(dD s'.val).2=0:=h5
    by_cases hb:(dD s'.val).1.ep=g.old.ep+1
    ·rw[decide_eq_true hb,decide_eq_false (λh=>h.elim (λh=>h h5') (λh=>h hb))];rfl
    ·rw[decide_eq_false hb,decide_eq_true (.inr hb)];rfl
   ·rintro _ rfl
    refine⟨λh6=>?_,λh6=>?_⟩
    ·refine(pR (b:=b) (g:={g with prop:=some s'}) (r:=r)).ak (λ_ _ h=>h) ?_
     rintro v R h ⟨rfl,H⟩
     refine⟨_,rfl,.of λR h H=>⟨s',⟨trivial,qK⟩,r,?_⟩,H⟩
     rw[hout,if_pos (of_decide_eq_true h6)]
     exact HP.aj H
    ·have h6':¬((dD s'.val).2≠0\/(dD s'.val).1.ep≠g.old.ep+1):=λh=>h6 (decide_eq_true h)
     have h0':(dD s'.val).2=0:=Classical.byContradiction λh=>h6' (.inl h)
     refine(Y0 (b:=b) (g:={g with prop:=some s'}) (r:=r) (p:=(dD s'.val).1) (a:=a2) (c:=c2) (es:=es) (xd h0') xX).ak (λ_ _ h=>h) ?_
     rintro v R h ⟨rfl,H⟩
     refine⟨aF b {g with prop:=some s',bt:=(dD s'.val).1} {r with pa:=a2,pc:=c2,kC:=es},rfl,?_,H⟩
     clear H
     refine(pR (b:=b) (g:={g with prop:=some s',bt:=(dD s'.val).1}) (r:={r with pa:=a2,pc:=c2,kC:=es})).ak (λ_ _ h=>h) ?_
     rintro v R h ⟨rfl,H⟩
     refine⟨aF b {g with prop:=some s',bt:=(dD s'.val).1,st:=3} {r with pa:=a2,pc:=c2,kC:=es},rfl,?_,H⟩
     clear H
     refine(aec (b:=b) (g:={g with prop:=some s',bt:=(dD s'.val).1,st:=3}) (r:={r with pa:=a2,pc:=c2,kC:=es})).ak (λ_ _ h=>h) ?_
     rintro v R h ⟨rfl,H⟩
     refine⟨_,rfl,.of λR h H=>⟨s',⟨trivial,qK⟩,{r with pa:=a2,pc:=c2,kC:=es},?_⟩,H⟩
     rw[hout,if_neg h6']
     exact HP.aj H
  ·unfold rH
   rw[if_neg h4,if_neg h3]
   exact⟨r,HP.aj H⟩
end
def Ce(m x:MS):Bool:=decide (x.to=m.fr)&&(decide (x.kind=m.kind)&&(decide (x.ep=m.ep)&&decide (x.at'=m.at')))
def Ky(g:bY)(m:MS):Bool:=(dI g).any (Ce m)
def mr(g:bY)(m:MS)(g':bY):Prop:=
 if m.bf=true/\Ky g m=true then
  (g.st=1->g'=ui g m.fr.toNat m.bM)/\(g.st=2->∃s s',g.prop=some s/\pS s m s'/\g'=rH g s')/\(g.st=3->g'=oB g m m.fr.toNat)/\(g.st=4->g'={g with st:=if m.bM=0\/m.bM=8 then 5 else 6})/\(g.st≠1->g.st≠2->g.st≠3->g.st≠4->g'=g)
 else g'=g
structure Nt(g:bY):Prop where
 s:ny g
 r:g.st=1->cH g.old=true
 u:g.cv<=10000
 w:g.own.length<=1000000
 b:∀s,g.prop=some s->z6 s/\s.aQ.length<=99999
theorem Xv(g:bY)(u:Nat):(gm g u).to=u:=by
 unfold gm
 split
 ·split<;>rfl
 ·rfl
theorem Nu{g:bY}{m:MS}(h:Ky g m=true)(h4:g.st≠4):∃f:Nat,m.fr=f/\f<7/\jg g f=true:=by
 obtain⟨x,hx,hp⟩:=List.any_eq_true.1 h
 unfold dI at hx
 rw[if_neg h4]at hx
 obtain⟨u,hu,rfl⟩:=List.mem_map.1 hx
 obtain⟨hu1,hu2⟩:=List.mem_filter.1 hu
 have:=of_decide_eq_true (Bool.and_eq_true_iff.1 hp).1
 rw[Xv]at this
 exact⟨u,this.symm,List.mem_range.1 hu1,hu2⟩
section
variable {b:Nat}{g:bY}{r:BG}
theorem PT(hs:ny g):ax Tryz.prog 176 #[.pointer (some ⟨b,0,none⟩)] (aF b g r) (λv=>HP.ex λa=>HP.ex λc=>HP.ex λes:List js=>HP.and (v=.slice a es.length c/\es.map (·.m)=dI g) (HP.an (Ls sO a es.length es) (aF b g r))):=
 (zy hs).post λv=>λR h d ⟨a,c,es,e,H⟩=>by
   obtain⟨R1,h1,q1,q2,q3,q4,H1⟩:=(HP.aV.an (PL.ez (K:=sO) (e:=48) (one:=uY) _ _ _ _) (aF b g r)) R h d H
   exact⟨R1,h1,q1,q2,q3,q4,a,c,es,e,H1⟩
theorem aed:tD Tryz.prog 177:=⟨_,Tryz.func177,by kernel_rfl,by kernel_rfl⟩
abbrev UF(x:Nat)(m:MS)(ca:Option Addr)(cc:Nat)(va:Option Addr)(vc:Nat):HP:=HP.one x (.cells (m.cF ca cc va vc).aA 48 (0,0))
theorem PU(x:Nat)(m:MS)(ca:Option Addr)(cc:Nat)(va:Option Addr)(vc:Nat)(S D V0:HP)(y:js):
 ax Tryz.prog 177 #[.agg (y.m.cF y.ca y.cc y.va y.vc).aA,.pointer (some ⟨x,0,none⟩)] (HP.an S (HP.an HP.tt (HP.an (UF x m ca cc va vc) (HP.an D V0)))) λv=>HP.and (v=.bool (Ce m y.m)) (HP.an S (HP.an HP.tt (HP.an (UF x m ca cc va vc) (HP.an D V0)))):=by
 refine ah (ρ:=[.i y.m.fr,.i y.m.to,.i y.m.num,.c y.m.bf,.i y.m.kind,.i y.m.ep,.i y.m.at',.i y.m.cell.what,.a y.ca,.n y.m.cell.data.length,.n y.cc,.p S,.i y.m.br,.i y.m.bw,.a y.va,.n y.m.val.length,.n y.vc,.p HP.tt,.i y.m.bM,.i y.m.tail,.i y.m.low,.i y.m.back,
  .n x,.i m.fr,.i m.to,.i m.num,.c m.bf,.i m.kind,.i m.ep,.i m.at',.i m.cell.what,.a ca,.n m.cell.data.length,.n cc,.p D,.i m.br,.i m.bw,.a va,.n m.val.length,.n vc,.p V0,.i m.bM,.i m.tail,.i m.low,.i m.back]) mixed Tryz.func177 EM ?_
 unfold EL
 refine cg ?_
 intro _
 refine⟨λh1=>⟨λh2=>⟨λh3=>.of λR h H=>⟨?_,H⟩,λh3=>.of λR h H=>⟨?_,H⟩⟩,λh2=>.of λR h H=>⟨?_,H⟩⟩,λh1=>.of λR h H=>⟨?_,H⟩⟩
 ·unfold Ce;rw[decide_eq_true h1,decide_eq_true h2,decide_eq_true h3,Bool.true_and,Bool.true_and,Bool.true_and]
 ·unfold Ce;rw[decide_eq_false h3,Bool.false_and,Bool.and_false,Bool.and_false]
 ·unfold Ce;rw[decide_eq_false h2,Bool.false_and,Bool.and_false]
 ·unfold Ce;rw[decide_eq_false h1,Bool.false_and]
theorem UG(x:Nat)(m:MS)(ca:Option Addr)(cc:Nat)(va:Option Addr)(vc:Nat)(S D V0:HP)(y:js):
 iu Tryz.prog (.func (.func 177) #[] #[.pointer (some ⟨x,0,none⟩)]) #[.agg y.aA] (HP.an (HP.an (UF x m ca cc va vc) (HP.an D V0)) S) λv=>HP.and (v=.bool (Ce m y.m)) (HP.an (HP.an (UF x m ca cc va vc) (HP.an D V0)) S):=
 .inl ⟨_,_,rfl,aed,(PU x m ca cc va vc S D V0 y).ak (λR h H=>HP.ae (HP.ao H) (λ_ h=>h) λz hz=>HP.aM hz) λv R h ⟨e,H⟩=>⟨e,HP.ao (HP.ae H (λ_ h=>h) λz hz=>HP.ai hz)⟩⟩
set_option maxHeartbeats 2000000 in
theorem UH(m:MS)(ca:Option Addr)(cc:Nat)(va:Option Addr)(vc:Nat)(hs:Nt g)(hmv:m.val.length<=100000000)(D:HP):
 ax Tryz.prog 124 #[.pointer (some ⟨b,0,none⟩),.agg (m.cF ca cc va vc).aA] (HP.an (aF b g r) (HP.an D (m.bj va))) (λv=>HP.ex λg'=>HP.and (v=.tuple #[]/\mr g m g') (gM b g')):=by
 refine ah (ρ:=[.n b,.p (aF b g r),.i m.fr,.i m.to,.i m.num,.c m.bf,.i m.kind,.i m.ep,.i m.at',.i m.cell.what,.a ca,.n m.cell.data.length,.n cc,.p D,.i m.br,.i m.bw,.a va,.n m.val.length,.n vc,.p (m.bj va),.i m.bM,.i m.tail,.i m.low,.i m.back]) mixed Tryz.func124 Jk ?_
 unfold Mz
 refine cg ?_
 intro x
 refine(PT hs.s).ak (λ_ _ h=>h) ?_
 rintro v R h ⟨a,c,es,⟨rfl,he⟩,H⟩
 refine⟨a,es.length,c,Ls sO a es.length es,rfl,?_,H⟩
 clear H
 have ahI:es.any (λy=>Ce m y.m)=Ky g m:=by
  unfold Ky;rw[<-he,List.any_map];rfl
 have h7:=zx g
 rw[<-he,List.length_map]at h7
 refine(pN (Ls sO a es.length es) (HP.an (UF x m ca cc va vc) (HP.an D (m.bj va))) a es.length c es (λ_ _ h=>h) (by omega) (.func (.func 177) #[] #[.pointer (some ⟨x,0,none⟩)]) rfl (λy=>Ce m y.m) λy _=>UG x m ca cc va vc _ _ _ y).ak (λ_ _ h=>h) ?_
 rintro v R h ⟨rfl,H⟩
 rw[ahI]
 refine⟨_,rfl,⟨λh0=>.of λR h H=>⟨g,⟨trivial,?_⟩,r,?_⟩,λh0=>⟨λh1=>.of λR h H=>⟨g,⟨trivial,?_⟩,r,?_⟩,λh1=>?_⟩⟩,H⟩
 all_goals first|exact HP.aj H|skip
 ·unfold mr;rw[if_neg (λe=>h0 e.1)]
 ·unfold mr;rw[if_neg (λe=>h1 e.2)]
 clear H
 have lC:Ky g m=true:=by simpa using h1
 have h0':m.bf=true:=by simpa using h0
 have key:∀g',((g.st=1->g'=ui g m.fr.toNat m.bM)/\(g.st=2->∃s s',g.prop=some s/\pS s m s'/\g'=rH g s')/\(g.st=3->g'=oB g m m.fr.toNat)/\(g.st=4->g'={g with st:=if m.bM=0\/m.bM=8 then 5 else 6})/\(g.st≠1->g.st≠2->g.st≠3->g.st≠4->g'=g))->mr g m g':=λg' h=>by
  unfold mr;rw[if_pos ⟨h0',lC⟩];exact h
 refine⟨g.st,n9 rfl,λs1=>?_,λs1=>⟨λs2=>?_,λs2=>⟨λs3=>?_,λs3=>⟨λs4=>?_,λs4=>.of λR h H=>⟨g,⟨trivial,key g ⟨λh=>absurd h s1,λh=>absurd h s2,λh=>absurd h s3,λh=>absurd h s4,λ_ _ _ _=>rfl⟩⟩,r,HP.aj H⟩⟩⟩⟩⟩
 ·have s1':g.st=1:=s1
  obtain⟨f,hf,PQ,_⟩:=Nu lC (by omega)
  refine(Ku m ca cc va vc f hf PQ hs.s (hs.r s1') hs.u D (m.bj va)).ak (λ_ _ h=>h) ?_
  rintro v R h ⟨rfl,H⟩
  refine⟨gM b (ui g f m.bM),HP.tt,HP.tt,rfl,.of λR h H=>⟨ui g f m.bM,⟨trivial,key _ ⟨λ_=>by rw[hf,Int.toNat_natCast],by omega,by omega,by omega,by omega⟩⟩,HP.aj H⟩,HP.az (HP.az H)|>HP.aq⟩
 ·have s2':g.st=2:=s2
  obtain⟨s,hsp⟩:=Option.isSome_iff_exists.1 (hs.s.p2 s2')
  obtain⟨hB,hf⟩:=hs.b s hsp
  refine(PS m ca cc va vc s hsp hs.s hB hf hmv hs.u hs.w D).ak (λ_ _ h=>h) ?_
  rintro v R h ⟨s',⟨rfl,hst⟩,H⟩
  refine⟨gM b (rH g s'),HP.tt,HP.tt,rfl,.of λR h H=>⟨rH g s',⟨trivial,key _ ⟨by omega,λ_=>⟨s,s',hsp,hst,rfl⟩,by omega,by omega,by omega⟩⟩,HP.aj H⟩,HP.az (HP.az H)|>HP.aq⟩
 ·have s3':g.st=3:=s3
  obtain⟨f,hf,PQ,_⟩:=Nu lC (by omega)
  refine(UE m ca cc va vc f hf PQ hs.s D (m.bj va)).ak (λ_ _ h=>h) ?_
  rintro v R h ⟨rfl,H⟩
  refine⟨gM b (oB g m f),HP.tt,HP.tt,rfl,.of λR h H=>⟨oB g m f,⟨trivial,key _ ⟨by omega,by omega,λ_=>by rw[hf,Int.toNat_natCast],by omega,by omega⟩⟩,HP.aj H⟩,HP.az (HP.az H)|>HP.aq⟩
 ·have s4':g.st=4:=s4
  have k5:(m.bM=0\/m.bM=8)->mr g m {g with st:=5}:=λh=>key _ ⟨by omega,by omega,by omega,λ_=>by rw[if_pos h],by omega⟩
  have k6:¬(m.bM=0\/m.bM=8)->mr g m {g with st:=6}:=λh=>key _ ⟨by omega,by omega,by omega,λ_=>by rw[if_neg h],by omega⟩
  refine(pR (b:=b) (g:=g) (r:=r)).ak (λ_ _ h=>h) ?_
  rintro v R h ⟨rfl,H⟩
  refine⟨aF b {g with st:=6} r,rfl,⟨λe0=>?_,λe0=>⟨λe8=>?_,λe8=>.of λR h H=>⟨_,⟨trivial,k6 (λh=>h.elim e0 e8)⟩,r,HP.aj H⟩⟩⟩,H⟩
  ·refine(pR (b:=b) (g:={g with st:=6}) (r:=r)).ak (λ_ _ h=>h) ?_
   rintro v R h ⟨rfl,H⟩
   exact⟨aF b {g with st:=5} r,rfl,.of λR h H=>⟨_,⟨trivial,k5 (.inl e0)⟩,r,HP.aj H⟩,H⟩
  ·refine(pR (b:=b) (g:={g with st:=6}) (r:=r)).ak (λ_ _ h=>h) ?_
   rintro v R h ⟨rfl,H⟩
   exact⟨aF b {g with st:=5} r,rfl,.of λR h H=>⟨_,⟨trivial,k5 (.inr e8)⟩,r,HP.aj H⟩,H⟩
end
theorem aee{a:Option Addr}{n c:Nat}{es:List iZ}{k:Nat}{x:iZ}(hk:es[k]? =some x):
 aH Tryz.prog (bG 71 (.pointer (a.map λy=>(y.add ((k:Int).toNat*1)).add 0))) (PL wj a n c es) (.slice x.a x.l.length x.c):=by
 refine b7 kE pI yf (PL.rd (K:=wj) a n c es) (k:=(k:Int).toNat*1) (off:=0) ?_
 have:=cZ fu.aA 1 fu.len es k 0 x hk (by omega)
 exact this
set_option maxHeartbeats 1000000 in
theorem Gm(S:HP)(ep:Int)(a:Option Addr)(n c:Nat)(es:List iZ)(hS:∀R h,S.p R h->(Ls fu a n es).p R h)(hb:n<=1000000000)(hx:∀x∈es,x.l.length<=1000000000):
 ax Tryz.prog 266 #[.agg #[.int .i64 ep,.slice a n c]] S (λv=>HP.ex λa'=>HP.ex λc'=>HP.ex λb9:List iZ=>HP.and (v=.agg #[.int .i64 ep,.slice a' n c']/\b9.map (·.l)=es.map (·.l)) (HP.an (Ls fu a' n b9) S)):=by
 refine ax.bV (φ:=es.length=n) (λR h H=>(hS R h H).1) λhl=>?_
 refine ax.post (B:=λv=>HP.ex λa'=>HP.ex λc'=>HP.ex λb9:List iZ=>HP.and (v=.agg #[.int .i64 ep,.slice a' n c']/\b9.map (·.l)=es.map (·.l)) (HP.an (PL wj a' n c' b9) S)) ?_ λv=>λR h d ⟨a',c',b9,e,H⟩=>by
  obtain⟨R1,h1,q1,q2,q3,q4,H1⟩:=(HP.aV.an (PL.ez (K:=fu) (e:=71) (one:=o9) _ _ _ _) S) R h d H
  exact⟨R1,h1,q1,q2,q3,q4,a',c',b9,e,H1⟩
 refine ah (ρ:=[.i ep,.a a,.n n,.n c,.p S]) mixed Tryz.func266 Jg ?_
 unfold Mv
 refine cg ?_
 intro _ _
 refine(zn S a n c es hS hb).ak (λ_ _ h=>h) ?_
 rintro v R h ⟨a',c',rfl,H⟩
 have QW:n≠0->a'.isSome=true:=λhn=>PL.nG (HP.aj H) hn
 refine⟨a',n,c',PL wj a' n c' es,S,rfl,?_,H⟩
 clear H
 refine⟨λi P=>∃k:Nat,∃b9:List iZ,i=k/\k<=n/\P=PL wj a' n c' b9/\b9.map (·.l)=es.map (·.l),λi _=>n - i.toNat,⟨0,es,rfl,Nat.zero_le _,rfl,rfl⟩,?_⟩
 rintro _ _ ⟨k,b9,rfl,hk,rfl,he⟩
 have vS:b9.length=n:=by
  have:=congrArg List.length he
  simp at this;omega
 refine⟨λhlt=>⟨by omega,λ_=>⟨QW (by omega),λ_=>?_⟩⟩,λlN=>.of λR h H=>⟨a',c',b9,⟨rfl,he⟩,HP.ao H⟩⟩
 have kW:k<b9.length:=by omega
 have hg:b9[k]? =some b9[k]:=List.getElem?_eq_getElem kW
 have hm:b9[k]∈b9:=List.getElem_mem kW
 have nq:b9[k].l.length<=1000000000:=by
  have:b9[k].l∈es.map (·.l):=by rw[<-he];exact List.mem_map.2 ⟨_,hm,rfl⟩
  obtain⟨y,hy,e⟩:=List.mem_map.1 this
  rw[<-e];exact hx y hy
 refine⟨b9[k].a,b9[k].l.length,b9[k].c,aee hg,?_⟩
 refine(qm (PL wj a' n c' b9) b9[k].a b9[k].l.length b9[k].c b9[k].l (.of λR h H=>gT (HP.ai H.2) (fu.hp b9[k]) (List.mem_map.2 ⟨_,hm,rfl⟩)) rfl nq).ak (λ_ _ h=>h) ?_
 rintro v R h ⟨a2,c2,rfl,H⟩
 refine⟨a2,b9[k].l.length,c2,pp a2 b9[k].l.length b9[k].l,PL wj a' n c' b9,rfl,?_,H⟩
 clear H
 obtain⟨i,hi,_,hz,_⟩:=info_parts ql
 refine(PL.set (K:=wj) hi hz (a:=a') (n:=n) (c:=c') (l:=b9) (k:=k) (by omega) ⟨a2,c2,b9[k].l⟩ rfl HP.tt).ak (λR h H=>HP.ae H (λ_ h=>h) λz hz=>HP.az hz) ?_
 rintro v R h ⟨rfl,H⟩
 refine⟨PL wj a' n c' (b9.set k ⟨a2,c2,b9[k].l⟩),rfl,⟨aK _ (by omega) (by omega),λ_=>⟨⟨k+1,b9.set k ⟨a2,c2,b9[k].l⟩,by omega,by omega,rfl,?_⟩,by dsimp only;omega⟩⟩,HP.aj H⟩
 have e:(b9.set k b9[k]).map (·.l)=b9.map (·.l):=by rw[List.set_getElem_self]
 rw[List.map_set]at e⊢
 exact e.trans he
section
variable {b:Nat}{g:bY}{r:BG}
theorem UI:ax Tryz.prog 198 #[.pointer (some ⟨b,0,none⟩)] (aF b g r) (λv=>HP.ex λa=>HP.ex λc=>HP.ex λes:List iZ=>HP.and (v=.agg #[.int .i64 g.bt.ep,.slice a es.length c]/\es.map (·.l)=g.bt.ch) (HP.an (Ls fu a es.length es) (aF b g r))):=by
 refine ax.bV (φ:=HZ g r) (λR h H=>H.1) λhok=>?_
 refine ah (ρ:=[.n b,.p (aF b g r)]) mixed Tryz.func198 Jh ?_
 unfold Mw
 refine cg ?_
 intro _
 refine⟨g.bt.ep,r.pa,r.kC.length,r.pc,YK rfl rfl,?_⟩
 refine(Gm (aF b g r) g.bt.ep r.pa r.kC.length r.pc r.kC (λR h H=>(aF.ro H).2.2) (by have:=hok.pb.1;omega) λx hx=>by have:=hok.pb.2 x hx;omega).ak (λ_ _ h=>h) ?_
 rintro v R h ⟨a',c',b9,⟨rfl,he⟩,H⟩
 have hl:b9.length=r.kC.length:=by
  have:=congrArg List.length he
  simpa using this
 rw[<-hl]at H⊢
 exact⟨g.bt.ep,a',b9.length,c',Ls fu a' b9.length b9,aF b g r,rfl,.of λR h H=>⟨a',c',b9,⟨rfl,he.trans hok.p⟩,HP.ao H⟩,H⟩
end
def UJ:bY:=⟨⟨0,[]⟩,0,0,6,λ_=>false,λ_=>false,[],none,⟨0,[]⟩,0⟩
def g9(p:rf)(u w:Int):bY:=
 if cH p=true/\p.ep≠2147483647/\1<=u/\u<=7/\0<=w/\w<=2147483647 then⟨p,u,w,1,λ_=>false,λ_=>false,[],none,⟨0,[]⟩,0⟩else UJ
theorem Kz{R h:PH}:(Ls fu none 0 []).p R h:=⟨rfl,bb.nil _ _ _ _,λx hx=>by cases hx⟩
theorem mu(x:Nat){R h:PH}(H:(HP.one x (.cells (gL UJ ⟨none,0,[],none,0,none,none,0,[]⟩).toArray 227 (0,0))).p R h):(gM x UJ).p R h:=
 ⟨⟨none,0,[],none,0,none,none,0,[]⟩,⟨rfl,rfl,⟨by simp,λx hx=>by cases hx⟩,⟨by simp,λx hx=>by cases hx⟩,by simp[UJ]⟩,HP.ae (HP.az H) (λ_ h=>h) λy _=>HP.ae (HP.az (show(pM none none).p R y from rfl)) (λ_ h=>h) λz _=>⟨Kz,n6 _,Kz⟩⟩
set_option maxHeartbeats 1000000 in
theorem PV(S:HP)(ep:Int)(a:Option Addr)(n c:Nat)(es:List iZ)(u w:Int)(hS:∀R h,S.p R h->(Ls fu a n es).p R h)(hb:∀x∈es,x.l.length<=1000000000)(hn:n<=1000000000):
 ax Tryz.prog 232 #[.agg #[.int .i64 ep,.slice a n c],.int .i64 u,.int .i64 w] S (λv=>HP.ex λb=>HP.and (v=.pointer (some ⟨b,0,none⟩)) (HP.an (gM b (g9 ⟨ep,es.map (·.l)⟩ u w)) S)):=by
 refine ah (ρ:=[.i ep,.a a,.n n,.n c,.p S,.i u,.i w]) mixed Tryz.func232 EA ?_
 unfold Ez
 refine cg ?_
 intro _
 refine(ri S ep a n c es hS hb).ak (λ_ _ h=>h) ?_
 rintro v R h ⟨rfl,H⟩
 have bad:¬(cH ⟨ep,es.map (·.l)⟩=true/\ep≠2147483647/\1<=u/\u<=7/\0<=w/\w<=2147483647)->g9 ⟨ep,es.map (·.l)⟩ u w=UJ:=λh=>by unfold g9;rw[if_neg h]
 refine⟨_,rfl,⟨λh1 x=>.of λR h H=>⟨x,rfl,?_⟩,λh1=>⟨λh2 x=>.of λR h H=>⟨x,rfl,?_⟩,λh2=>⟨λh3 x=>.of λR h H=>⟨x,rfl,?_⟩,λh3=>⟨λh4 x=>.of λR h H=>⟨x,rfl,?_⟩,λh4=>⟨λh5 x=>.of λR h H=>⟨x,rfl,?_⟩,λh5=>⟨λh6 x=>.of λR h H=>⟨x,rfl,?_⟩,λh6=>?_⟩⟩⟩⟩⟩⟩,H⟩
 ·rw[bad (λh=>h1 h.1)];exact HP.ae (HP.ao H) (λ_ h=>mu x h) λ_ h=>h
 ·rw[bad (λh=>h.2.1 h2)];exact HP.ae (HP.ao H) (λ_ h=>mu x h) λ_ h=>h
 ·rw[bad (λh=>by omega)];exact HP.ae (HP.ao H) (λ_ h=>mu x h) λ_ h=>h
 ·rw[bad (λh=>by omega)];exact HP.ae (HP.ao H) (λ_ h=>mu x h) λ_ h=>h
 ·rw[bad (λh=>by omega)];exact HP.ae (HP.ao H) (λ_ h=>mu x h) λ_ h=>h
 ·rw[bad (λh=>by omega)];exact HP.ae (HP.ao H) (λ_ h=>mu x h) λ_ h=>h
 have hr:cH ⟨ep,es.map (·.l)⟩=true:=by simpa using h1
 have hR:=qo hr
 have Fp:g9 ⟨ep,es.map (·.l)⟩ u w=⟨⟨ep,es.map (·.l)⟩,u,w,1,λ_=>false,λ_=>false,[],none,⟨0,[]⟩,0⟩:=by
  unfold g9;rw[if_pos ⟨hr,h2,by omega,by omega,by omega,by omega⟩]
 clear H
 refine(Gm S ep a n c es hS hn hb).ak (λ_ _ h=>h) ?_
 rintro v R h ⟨a',c',b9,⟨rfl,he⟩,H⟩
 have hl:b9.length=n:=(HP.aj H).1
 refine⟨ep,a',n,c',Ls fu a' n b9,S,rfl,λx=>.of λR h H=>⟨x,rfl,?_⟩,H⟩
 have h7:=hR.S1
 rw[<-he,List.length_map]at h7
 rw[Fp,<-he]
 obtain⟨h1,h2,d,l1,l2,HS,HR⟩:=H
 subst hl
 refine HP.ao ⟨h1,h2,d,l1,l2,HS,⟨a',c',b9,none,0,none,none,0,[]⟩,⟨rfl,rfl,⟨by simp;omega,λx hx=>?_⟩,⟨by simp,λx hx=>by cases hx⟩,by simp⟩,HP.ae HR (λ_ h=>h) λy hy=>HP.ae (HP.aM hy) (λz _=>rfl) λz hz=>⟨hz,n6 _,Kz⟩⟩
 have:x.l∈es.map (·.l):=by rw[<-he];exact List.mem_map.2 ⟨x,hx,rfl⟩
 have:=(hR.chain this).2.2
 omega
structure fO where
 at':Int
 state:Int
 low:Int
 us:List Int
 step:Int
 place:Int
 cell:eS
abbrev fO.aA(o:fO)(ua:Option Addr)(uc:Nat)(da:Option Addr)(dc:Nat):Array Value:= #[.int .i64 o.at',.int .i64 o.state,.int .i64 o.low,.slice ua o.us.length uc,.int .i64 o.step,.int .i64 o.place,.int .i64 o.cell.what,.slice da o.cell.data.length dc]
abbrev ef(b:Nat)(o:fO)(ua:Option Addr)(uc:Nat)(da:Option Addr)(dc:Nat):HP:=HP.one b (.cells (o.aA ua uc da dc) 251)
abbrev OU(o:fO)(ua:Option Addr):HP:=pp ua o.us.length o.us
abbrev OD(o:fO)(da:Option Addr):HP:=aO da o.cell.data.length o.cell.data
def fO.small(o:fO):Prop:=o.us.length<=1000000000/\o.cell.data.length<=140737488355328
def eg(b:Nat)(o:fO):HP:=HP.ex λua=>HP.ex λuc=>HP.ex λda=>HP.ex λdc=>HP.and o.small (HP.an (ef b o ua uc da dc) (HP.an (OU o ua) (OD o da)))
theorem eg.kF{f:FuncId}{args:Array Value}{b:Nat}{o:fO}{B:Value->HP}(t:∀ua uc da dc,o.small->ax Tryz.prog f args (HP.an (ef b o ua uc da dc) (HP.an (OU o ua) (OD o da))) B):ax Tryz.prog f args (eg b o) B:=
 ax.ex λua=>ax.ex λuc=>ax.ex λda=>ax.ex λdc=>ax.pure λh=>t ua uc da dc h
theorem eg.ahJ{f:FuncId}{args:Array Value}{b:Nat}{o:fO}{K:HP}{B:Value->HP}(t:∀ua uc da dc,o.small->ax Tryz.prog f args (HP.an (ef b o ua uc da dc) (HP.an (OU o ua) (HP.an (OD o da) K))) B):ax Tryz.prog f args (HP.an (eg b o) K) B:=by
 refine(ax.ex λua=>ax.ex λuc=>ax.ex λda=>ax.ex λdc=>ax.pure (φ:=o.small) λh=>t ua uc da dc h).ak ?_ (λ_ _ _ h=>h)
 rintro R h ⟨h1,h2,d,l1,l2,⟨ua,uc,da,dc,e,H⟩,HK⟩
 refine⟨ua,uc,da,dc,e,?_⟩
 have:=HP.aq ⟨h1,h2,d,l1,l2,H,HK⟩
 exact HP.ae this (λ_ h=>h) λy hy=>HP.aq hy
theorem u4(S:HP)(w:Int)(a:Option Addr)(n c:Nat)(l:List UInt8)(hr:bR S a n (l.map fH))(hl:l.length=n)(hb:n<=140737488355328):
 ax Tryz.prog 236 #[.agg #[.int .i64 w,.slice a n c]] S (λv=>HP.ex λa'=>HP.ex λc'=>HP.and (v=.agg #[.int .i64 w,.slice a' n c']) (HP.an (aO a' n l) S)):=by
 refine ah (ρ:=[.i w,.a a,.n n,.n c,.p S]) mixed Tryz.func236 zU ?_
 unfold Km
 refine cY ?_
 intro x y
 refine(jm S a n c l hr hl hb).ak (λ_ _ h=>h) ?_
 rintro v R h ⟨a',c',rfl,H⟩
 exact⟨a',n,c',aO a' n l,rfl,.of λR h H=>⟨a',c',rfl,HP.ao H⟩,H⟩
theorem PX(w1:Int)(a:Option Addr)(n c:Nat)(la:List UInt8)(w2:Int)(b:Option Addr)(m d:Nat)(lb:List UInt8)(Sa Sb:HP)(hA:bR Sa a n (la.map fH))(hB:bR Sb b m (lb.map fH))(hla:la.length=n)(hlb:lb.length=m):
 ax Tryz.prog 234 #[.agg #[.int .i64 w1,.slice a n c],.agg #[.int .i64 w2,.slice b m d]] (HP.an Sa Sb) (λv=>HP.and (v=.bool (decide (w1=w2/\la=lb))) (HP.an Sa Sb)):=by
 refine ah (ρ:=[.i w1,.a a,.n n,.n c,.p Sa,.i w2,.a b,.n m,.n d,.p Sb]) mixed Tryz.func234 Ge ?_
 unfold Gd
 refine cY ?_
 refine λx y=>⟨λh=>?_,λh=>.of λR h' H=>⟨by simp[h],H⟩⟩
 refine(zW a n c la b m d lb Sa Sb hA hB hla hlb).ak (λ_ _ h=>h) ?_
 rintro v R h' ⟨rfl,H⟩
 exact⟨_,rfl,.of λR h' H=>⟨by simp[h],H⟩,H⟩
section
variable (b:Nat)(o:fO)
abbrev fO.yu(ua:Option Addr)(uc:Nat)(da:Option Addr)(dc:Nat):bp:=[.n b,.i o.at',.i o.state,.i o.low,.a ua,.n o.us.length,.n uc,.p (OU o ua),.i o.step,.i o.place,.i o.cell.what,.a da,.n o.cell.data.length,.n dc,.p (OD o da)]
theorem z7:ax Tryz.prog 201 #[.pointer (some ⟨b,0,none⟩)] (eg b o) (λv=>HP.and (v=.int .i64 o.state) (eg b o)):=by
 refine eg.kF λua uc da dc hs=>?_
 refine ah (ρ:=fO.yu b o ua uc da dc) mixed Tryz.func201 Gg ?_
 unfold Gf fO.yu
 refine cY ?_
 exact .of λR h H=>⟨trivial,ua,uc,da,dc,hs,H⟩
theorem aaM:ax Tryz.prog 269 #[.pointer (some ⟨b,0,none⟩)] (eg b o) (λv=>HP.and (v=.int .i64 o.at') (eg b o)):=by
 refine eg.kF λua uc da dc hs=>?_
 refine ah (ρ:=fO.yu b o ua uc da dc) mixed Tryz.func269 Uq ?_
 unfold YX fO.yu
 refine cY ?_
 exact .of λR h H=>⟨trivial,ua,uc,da,dc,hs,H⟩
theorem Xw:ax Tryz.prog 208 #[.pointer (some ⟨b,0,none⟩)] (eg b o) (λv=>HP.and (v=.int .i64 o.low) (eg b o)):=by
 refine eg.kF λua uc da dc hs=>?_
 refine ah (ρ:=fO.yu b o ua uc da dc) mixed Tryz.func208 PG ?_
 unfold Ur fO.yu
 refine cY ?_
 exact .of λR h H=>⟨trivial,ua,uc,da,dc,hs,H⟩
def xf(o:fO):Int:=if o.step=1\/o.step=2 then 2 else 1
theorem uj(ua:Option Addr)(uc:Nat)(da:Option Addr)(dc:Nat)(Uc Dc:HP):ax Tryz.prog 184 #[.pointer (some ⟨b,0,none⟩)] (HP.an (ef b o ua uc da dc) (HP.an Uc Dc)) (λv=>HP.and (v=.int .i64 (xf o)) (HP.an (ef b o ua uc da dc) (HP.an Uc Dc))):=by
 refine ah (ρ:=[.n b,.i o.at',.i o.state,.i o.low,.a ua,.n o.us.length,.n uc,.p Uc,.i o.step,.i o.place,.i o.cell.what,.a da,.n o.cell.data.length,.n dc,.p Dc]) mixed Tryz.func184 Ko ?_
 unfold Np
 refine cY ?_
 refine⟨λh=>.of λR y H=>⟨by simp[xf,h],H⟩,λh=>⟨λh2=>.of λR y H=>⟨by simp[xf,h2],H⟩,λh2=>.of λR y H=>⟨by simp[xf,h,h2],H⟩⟩⟩
def eP(o:fO):eS:=if o.state=2 then o.cell else⟨0,[]⟩
end
section
variable (b:Nat)(o:fO)
def jE(o:fO):eS:=if o.state=1 then(if o.step=0 then o.cell else if o.step=3 then⟨2,[]⟩else⟨0,[]⟩)else⟨0,[]⟩
theorem Xx(hp:o.state=1->0<=o.place/\o.place<o.us.length):ax Tryz.prog 268 #[.pointer (some ⟨b,0,none⟩)] (eg b o)
 (λv=>HP.ex λa'=>HP.ex λc'=>HP.and (v=.tuple #[.int .i64 (if o.state=1 then(o.us[o.place.toNat]?).getD 0 else 0),.int .i64 (if o.state=1 then xf o else 0),.agg #[.int .i64 (jE o).what,.slice a' (jE o).data.length c'],.bool (decide (o.state=1))])
   (HP.an (aO a' (jE o).data.length (jE o).data) (eg b o))):=by
 refine eg.kF λua uc da dc hs=>?_
 refine ax.bV (φ:=o.us.length≠0->ua.isSome=true) (λR h H hn=>bb.some (HP.aj (HP.ai H)) (by omega)) λhua=>?_
 refine ah (ρ:=fO.yu b o ua uc da dc) mixed Tryz.func268 PJ ?_
 unfold Us fO.yu
 refine cY ?_
 intro x
 refine⟨λh=>.of λR y H=>⟨none,0,by simp[jE,h],?_⟩,λh1=>?_⟩
 ·have e:jE o=⟨0,[]⟩:=by simp[jE,h]
  rw[e]
  exact bb.join (n6 none:(aO none 0 []).p R y) ⟨ua,uc,da,dc,hs,H⟩
 obtain⟨p1,p2⟩:=hp h1
 have hlt:o.place.toNat<o.us.length:=by omega
 have hg:(o.us.map dN)[o.place.toNat*1+0]? =some (dN o.us[o.place.toNat]):=by simp[hlt]
 have rd:=b7 pE A7 L7 (bb.rd 1 ua o.us.length (o.us.map dN)) hg
 have kd:=λDc=>uj b o ua uc da dc (OU o ua) Dc
 have Iz:(o.us[o.place.toNat]?).getD 0=o.us[o.place.toNat]:=by simp[hlt]
 refine⟨λh0=>?_,λh0=>⟨λh3=>?_,λh3=>?_⟩⟩
 ·have e:jE o=o.cell:=by simp[jE,h1,h0]
  rw[e,if_pos h1,if_pos h1,Iz,decide_eq_true h1]
  refine(u4 (OD o da) o.cell.what da _ dc o.cell.data (bR.ro _ _ _ _) rfl hs.2).ak (λ_ _ h=>h) ?_
  rintro v R h ⟨a',c',rfl,H⟩
  refine⟨_,a',_,c',aO a' o.cell.data.length o.cell.data,rfl,?_,H⟩
  clear H
  repeat' (first
   |refine⟨p1,λ_=>?_⟩
   |refine⟨p2,λ_=>?_⟩
   |refine⟨hua (by omega),λ_=>?_⟩
   |refine⟨_,rd,?_⟩
   |(refine(kd _).ak (λ_ _ h=>h) ?_;rintro v R h ⟨rfl,H⟩;refine⟨_,rfl,?_,H⟩;clear H)
   |exact .of λR y H=>⟨a',c',rfl,HP.ae (HP.pick [_,_,_,_] [3,0,1,2] (by decide) rfl H) (λ_ h=>h) λy hy=>⟨ua,uc,da,dc,hs,hy⟩⟩
   |refine⟨?_,?_⟩)
 ·have e:jE o=⟨2,[]⟩:=by simp[jE,h1,h0,h3]
  rw[e,if_pos h1,if_pos h1,Iz,decide_eq_true h1]
  repeat' (first
   |refine⟨p1,λ_=>?_⟩
   |refine⟨p2,λ_=>?_⟩
   |refine⟨hua (by omega),λ_=>?_⟩
   |refine⟨_,rd,?_⟩
   |(refine(kd _).ak (λ_ _ h=>h) ?_;rintro v R h ⟨rfl,H⟩;refine⟨_,rfl,?_,H⟩;clear H)
   |exact .of λR y H=>⟨none,0,rfl,bb.join (n6 none:(aO none 0 []).p R y) ⟨ua,uc,da,dc,hs,H⟩⟩
   |refine⟨?_,?_⟩)
 ·have e:jE o=⟨0,[]⟩:=by simp[jE,h1,h0,h3]
  rw[e,if_pos h1,if_pos h1,Iz,decide_eq_true h1]
  repeat' (first
   |refine⟨p1,λ_=>?_⟩
   |refine⟨p2,λ_=>?_⟩
   |refine⟨hua (by omega),λ_=>?_⟩
   |refine⟨_,rd,?_⟩
   |(refine(kd _).ak (λ_ _ h=>h) ?_;rintro v R h ⟨rfl,H⟩;refine⟨_,rfl,?_,H⟩;clear H)
   |exact .of λR y H=>⟨none,0,rfl,bb.join (n6 none:(aO none 0 []).p R y) ⟨ua,uc,da,dc,hs,H⟩⟩
   |refine⟨?_,?_⟩)
end
def hE(o:fO)(pl:Int)(x:eS):fO:={o with step:=0,place:=pl,cell:=x,state:=if(o.us.length:Int)<=pl then 2 else o.state}
theorem s9(b:Nat)(o:fO)(ua:Option Addr)(uc:Nat)(da:Option Addr)(dc:Nat)(Dc:HP)(pl w:Int)(a:Option Addr)(n c:Nat)(l:List UInt8)(S:HP)(hu:o.us.length<=1000000000)(hr:bR S a n (l.map fH))(hl:l.length=n)(hb:n<=140737488355328):
 ax Tryz.prog 235 #[.pointer (some ⟨b,0,none⟩),.int .i64 pl,.agg #[.int .i64 w,.slice a n c]] (HP.an (ef b o ua uc da dc) (HP.an (OU o ua) (HP.an Dc S)))
 (λv=>HP.and (v=.tuple #[]) (HP.ex λiQ=>HP.ex λkI=>HP.an (ef b (hE o pl ⟨w,l⟩) ua uc iQ kI) (HP.an (OU o ua) (HP.an (aO iQ n l) (HP.an (OU o ua) (HP.an Dc S)))))):=by
 refine ah (ρ:=[.n b,.i o.at',.i o.state,.i o.low,.a ua,.n o.us.length,.n uc,.p (OU o ua),.i o.step,.i o.place,.i o.cell.what,.a da,.n o.cell.data.length,.n dc,.p Dc,.i pl,.i w,.a a,.n n,.n c,.p S]) mixed Tryz.func235 Gi ?_
 unfold Gh
 refine cY ?_
 intro x
 refine(u4 S w a n c l hr hl hb).ak (λ_ _ h=>h) ?_
 rintro v R h ⟨a',c',rfl,H⟩
 subst hl
 refine⟨_,a',_,c',aO a' l.length l,rfl,⟨λlN=>.of λR y H=>⟨trivial,a',c',?_⟩,λhlt=>.of λR y H=>⟨trivial,a',c',?_⟩⟩,H⟩
 ·have e:hE o pl ⟨w,l⟩=⟨o.at',2,o.low,o.us,0,pl,⟨w,l⟩⟩:=by simp[hE,lN]
  rw[e]
  exact HP.pick [_,_,_,_,_,_] [1,2,3,0,4,5] (by decide) rfl (bb.join (HP.aj (HP.ai H)) H)
 ·have e:hE o pl ⟨w,l⟩=⟨o.at',o.state,o.low,o.us,0,pl,⟨w,l⟩⟩:=by simp[hE,hlt]
  rw[e]
  exact HP.pick [_,_,_,_,_,_] [1,2,3,0,4,5] (by decide) rfl (bb.join (HP.aj (HP.ai H)) H)
theorem KA(b:Nat)(o:fO)(ua:Option Addr)(uc:Nat)(da:Option Addr)(dc:Nat)(pl:Int)(hs:o.small):
 ax Tryz.prog 235 #[.pointer (some ⟨b,0,none⟩),.int .i64 pl,.agg #[.int .i64 o.cell.what,.slice da o.cell.data.length dc]] (HP.an (ef b o ua uc da dc) (HP.an (OU o ua) (OD o da)))
 (λv=>HP.and (v=.tuple #[]) (HP.ex λiQ=>HP.ex λkI=>HP.an (ef b (hE o pl o.cell) ua uc iQ kI) (HP.an (OU o ua) (HP.an (OD o iQ) (HP.an (OU o ua) (OD o da)))))):=by
 refine(s9 b o ua uc da dc HP.tt pl o.cell.what da _ dc o.cell.data (OD o da) hs.1 (bR.ro _ _ _ _) rfl hs.2).ak (λR h H=>?_) λv R h ⟨e,iQ,kI,H⟩=>⟨e,iQ,kI,?_⟩
 ·exact HP.ae H (λ_ h=>h) λy hy=>HP.ae hy (λ_ h=>h) λz hz=>HP.aM hz
 ·exact HP.pick [_,_,_,_,_,_] [0,1,2,3,5] (by decide) rfl H
theorem KB(b:Nat)(o:fO)(ua:Option Addr)(uc:Nat)(da:Option Addr)(dc:Nat)(pl w:Int)(hs:o.small):
 ax Tryz.prog 235 #[.pointer (some ⟨b,0,none⟩),.int .i64 pl,.agg #[.int .i64 w,.slice none 0 0]] (HP.an (ef b o ua uc da dc) (HP.an (OU o ua) (OD o da)))
 (λv=>HP.and (v=.tuple #[]) (HP.ex λiQ=>HP.ex λkI=>HP.an (ef b (hE o pl ⟨w,[]⟩) ua uc iQ kI) (HP.an (OU o ua) (HP.an (aO iQ 0 []) (HP.an (OU o ua) (OD o da)))))):=by
 refine(s9 b o ua uc da dc (OD o da) pl w none 0 0 [] (aO none 0 []) hs.1 (bR.ro _ _ _ _) rfl (by omega)).ak (λR h H=>?_) λv R h ⟨e,iQ,kI,H⟩=>⟨e,iQ,kI,?_⟩
 ·exact HP.ae H (λ_ h=>h) λy hy=>HP.ae hy (λ_ h=>h) λz hz=>bb.gR (n6 none:(aO none 0 []).p R z) hz
 ·exact HP.pick [_,_,_,_,_,_] [0,1,2,3,4] (by decide) rfl H
def eX(o:fO)(bM:Int)(x:eS):fO:=
 if o.step=0/\(bM=0\/(bM=10/\x.what=o.cell.what/\x.data=o.cell.data))then hE o (o.place+1) o.cell
 else if o.step=1/\bM=0 then{o with cell:=x,state:=2}
 else if o.step=1/\bM=9 then{o with step:=if o.us.length=1 then 3 else 2,place:=0}
 else if o.step=2/\bM=0 then hE o 1 x
 else if o.step=2/\bM=9 then{o with step:=3}
 else if o.step=3/\bM=0 then hE o 1 ⟨2,[]⟩
 else if o.step=3/\bM=10 then hE o 1 x
 else{o with state:=3}
def jF(o:fO)(m:MS):fO:=
 if o.state≠1 then o else if m.kind≠xf o then o
 else if m.bM=0\/m.bM=10\/m.bM=9 then eX o m.bM m.cell
 else if m.bM=11 then{o with state:=4,low:=m.low}
 else if m.bM=8 then{o with state:=5}
 else if m.bM=4 then{o with state:=6}
 else{o with state:=3}
def Xy(m:MS)(ca:Option Addr)(cc:Nat)(va:Option Addr)(vc:Nat):bp:=[.i m.fr,.i m.to,.i m.num,.c m.bf,.i m.kind,.i m.ep,.i m.at',.i m.cell.what,.a ca,.n m.cell.data.length,.n cc,.p (m.bB ca),.i m.br,.i m.bw,.a va,.n m.val.length,.n vc,.p (m.bj va),.i m.bM,.i m.tail,.i m.low,.i m.back]
set_option maxHeartbeats 1000000 in
theorem UK(b:Nat)(o:fO)(ua:Option Addr)(uc:Nat)(da:Option Addr)(dc:Nat)(m:MS)(ca:Option Addr)(cc:Nat)(va:Option Addr)(vc:Nat)(hs:o.small)(hp:0<=o.place/\o.place<=1000000000)(hm:m.cell.data.length<=140737488355328):
 ax Tryz.prog 185 #[.pointer (some ⟨b,0,none⟩),.agg (m.cF ca cc va vc).aA] (HP.an (ef b o ua uc da dc) (HP.an (OU o ua) (HP.an (OD o da) (HP.an (m.bB ca) (m.bj va)))))
 (λv=>HP.and (v=.tuple #[]) (HP.ex λiQ=>HP.ex λkI=>HP.an (ef b (eX o m.bM m.cell) ua uc iQ kI) (HP.an (OU o ua) (HP.an (OD (eX o m.bM m.cell) iQ) (HP.an (OU o ua) (HP.an (OD o da) (HP.an (m.bB ca) (m.bj va)))))))):=by
 refine ah (ρ:=fO.yu b o ua uc da dc++Xy m ca cc va vc) mixed Tryz.func185 Kp ?_
 unfold Nq fO.yu Xy
 refine cY ?_
 intro x
 obtain⟨hp1,hp2⟩:=hp
 have hs1:=hs.1
 repeat' (first
  |(exfalso;omega)
  |refine⟨λ_=>?_,λ_=>?_⟩
  |refine⟨aK _ (by omega) (by omega),λ_=>?_⟩
  |(refine(PX m.cell.what ca _ cc m.cell.data o.cell.what da _ dc o.cell.data (m.bB ca) (OD o da) (bR.ro _ _ _ _) (bR.ro _ _ _ _) rfl rfl).ak (λ_ _ h=>h) ?_
    rintro v R h ⟨rfl,H⟩
    refine⟨_,rfl,?_,H⟩
    clear H
    simp only[decide_eq_true_eq])
  |fail)
 all_goals first
  |(have e:eX o m.bM m.cell={o with state:=3}:=by simp[eX, *]
    exact .of λR y H=>⟨trivial,da,dc,by rw[e];exact HP.pick [_,_,_,_,_,_,_] [2,3,4,1,0,5,6] (by decide) rfl (bb.join (HP.aj (HP.ai (HP.ai H))) (bb.join (HP.aj (HP.ai H)) H))⟩)
  |(have e:eX o m.bM m.cell={o with step:=3,place:=0}:=by simp[eX, *]<;>omega
    exact .of λR y H=>⟨trivial,da,dc,by rw[e];exact HP.pick [_,_,_,_,_,_,_] [2,3,4,1,0,5,6] (by decide) rfl (bb.join (HP.aj (HP.ai (HP.ai H))) (bb.join (HP.aj (HP.ai H)) H))⟩)
  |(have e:eX o m.bM m.cell={o with step:=2,place:=0}:=by simp[eX, *]<;>omega
    exact .of λR y H=>⟨trivial,da,dc,by rw[e];exact HP.pick [_,_,_,_,_,_,_] [2,3,4,1,0,5,6] (by decide) rfl (bb.join (HP.aj (HP.ai (HP.ai H))) (bb.join (HP.aj (HP.ai H)) H))⟩)
  |(have e:eX o m.bM m.cell={o with step:=3}:=by simp[eX, *]
    exact .of λR y H=>⟨trivial,da,dc,by rw[e];exact HP.pick [_,_,_,_,_,_,_] [2,3,4,1,0,5,6] (by decide) rfl (bb.join (HP.aj (HP.ai (HP.ai H))) (bb.join (HP.aj (HP.ai H)) H))⟩)
  |(have e:eX o m.bM m.cell=hE o (o.place+1) o.cell:=by simp[eX, *]
    rw[e]
    refine(KA b o ua uc da dc (o.place+1) hs).ak (λ_ _ h=>h) ?_
    rintro v R h ⟨rfl,iQ,kI,H⟩
    exact⟨_,_,_,ua,_,uc,OU o ua,_,_,_,iQ,_,kI,OD o iQ,rfl,.of λR y H=>⟨trivial,iQ,kI,H⟩,H⟩)
  |(have e:eX o m.bM m.cell=hE o 1 ⟨2,[]⟩:=by simp[eX, *]
    rw[e]
    refine(KB b o ua uc da dc 1 2 hs).ak (λ_ _ h=>h) ?_
    rintro v R h ⟨rfl,iQ,kI,H⟩
    exact⟨_,_,_,ua,_,uc,OU o ua,_,_,_,iQ,_,kI,aO iQ 0 [],rfl,.of λR y H=>⟨trivial,iQ,kI,H⟩,H⟩)
  |(have e:eX o m.bM m.cell=hE o 1 m.cell:=by simp[eX, *]
    rw[e]
    refine(s9 b o ua uc da dc (OD o da) 1 m.cell.what ca _ cc m.cell.data (m.bB ca) hs.1 (bR.ro _ _ _ _) rfl hm).ak (λ_ _ h=>h) ?_
    rintro v R h ⟨rfl,iQ,kI,H⟩
    exact⟨_,_,_,ua,_,uc,OU o ua,_,_,_,iQ,_,kI,aO iQ _ m.cell.data,rfl,.of λR y H=>⟨trivial,iQ,kI,H⟩,H⟩)
  |(have e:eX o m.bM m.cell={o with cell:=m.cell,state:=2}:=by simp[eX, *]
    rw[e]
    refine(u4 (m.bB ca) m.cell.what ca _ cc m.cell.data (bR.ro _ _ _ _) rfl hm).ak (λ_ _ h=>h) ?_
    rintro v R h ⟨a',c',rfl,H⟩
    refine⟨_,a',_,c',aO a' m.cell.data.length m.cell.data,rfl,.of λR y H=>⟨trivial,a',c',?_⟩,H⟩
    exact HP.pick [_,_,_,_,_,_,_] [1,2,3,0,4,5,6] (by decide) rfl (bb.join (HP.aj (HP.ai H)) H))
set_option maxHeartbeats 1000000 in
theorem UL(b:Nat)(o:fO)(m:MS)(ca:Option Addr)(cc:Nat)(va:Option Addr)(vc:Nat)(hp:0<=o.place/\o.place<=1000000000)(hm:m.cell.data.length<=140737488355328):
 ax Tryz.prog 127 #[.pointer (some ⟨b,0,none⟩),.agg (m.cF ca cc va vc).aA] (HP.an (eg b o) (HP.an (m.bB ca) (m.bj va)))
 (λv=>HP.and (v=.tuple #[]) (HP.an (eg b (jF o m)) (HP.an (m.bB ca) (m.bj va)))):=by
 refine eg.ahJ λua uc da dc hs=>?_
 refine ah (ρ:=fO.yu b o ua uc da dc++Xy m ca cc va vc) mixed Tryz.func127 Kq ?_
 unfold Nr fO.yu Xy
 refine cY ?_
 intro x
 have done:∀(o':fO) (iQ:Option Addr) (kI:Nat) (R h:PH),o'.small->o'.us=o.us->(HP.an (HP.one b (.cells (o'.aA ua uc iQ kI) 251)) (HP.an (OU o ua) (HP.an (OD o' iQ) (HP.an (m.bB ca) (m.bj va))))).p R h->(HP.an (eg b o') (HP.an (m.bB ca) (m.bj va))).p R h:=λo' iQ kI R h qK hu H=>by
  have H1:(HP.an (HP.an (HP.one b (.cells (o'.aA ua uc iQ kI) 251)) (HP.an (OU o ua) (OD o' iQ))) (HP.an (m.bB ca) (m.bj va))).p R h:=HP.ay (HP.ae H (λ_ h=>h) λy hy=>HP.ay hy)
  refine HP.ae H1 (λy hy=>⟨ua,uc,iQ,kI,qK,?_⟩) λ_ h=>h
  rw[show OU o' ua=OU o ua by unfold OU;rw[hu]]
  exact hy
 have KC:(eX o m.bM m.cell).small/\(eX o m.bM m.cell).us=o.us:=by
  unfold eX hE fO.small
  repeat' split
  all_goals exact⟨⟨hs.1,by first|exact hs.2|exact hm|simp⟩,rfl⟩
 have lone:∀(o':fO) (R h:PH),jF o m=o'->o'.small->o'.us=o.us->o'.cell=o.cell->(HP.an (HP.one b (.cells (o'.aA ua uc da dc) 251)) (HP.an (OU o ua) (HP.an (OD o da) (HP.an (m.bB ca) (m.bj va))))).p R h->(HP.and True (HP.an (eg b (jF o m)) (HP.an (m.bB ca) (m.bj va)))).p R h:=λo' R h e qK hu hc H=>by
  refine⟨trivial,?_⟩
  rw[e]
  exact done o' da dc R h qK hu (by unfold OD at H⊢;rw[hc];exact H)
 refine⟨λh1=>.of λR y H=>lone o R y (by simp[jF,h1]) hs rfl rfl H,λh1=>?_⟩
 refine(uj b o ua uc da dc (OU o ua) (OD o da)).ak (λ_ _ h=>h) ?_
 rintro v R h ⟨rfl,H⟩
 refine⟨_,rfl,?_,H⟩
 clear H
 refine⟨λhk=>.of λR y H=>lone o R y (by simp[jF,h1,hk]) hs rfl rfl H,λhk=>?_⟩
 have goes:(m.bM=0\/m.bM=10\/m.bM=9)->∀(B:Value->HP),
  (∀(iQ:Option Addr) (kI:Nat) R h,(HP.an (ef b (eX o m.bM m.cell) ua uc iQ kI) (HP.an (OU o ua) (HP.an (OD (eX o m.bM m.cell) iQ) (HP.an (OU o ua) (HP.an (OD o da) (HP.an (m.bB ca) (m.bj va))))))).p R h->(B (.tuple #[])).p R h)->
  ax Tryz.prog 185 #[.pointer (some ⟨b,0,none⟩),.agg (m.cF ca cc va vc).aA] (HP.an (ef b o ua uc da dc) (HP.an (OU o ua) (HP.an (OD o da) (HP.an (m.bB ca) (m.bj va))))) B:=λ_ B hB=>
  (UK b o ua uc da dc m ca cc va vc hs hp hm).ak (λ_ _ h=>h) λv R h ⟨e,iQ,kI,H⟩=>by subst e;exact hB iQ kI R h H
 have iW:(m.bM=0\/m.bM=10\/m.bM=9)->∀(iQ:Option Addr) (kI:Nat) (R y:PH),(HP.an (HP.one b (.cells ((eX o m.bM m.cell).aA ua uc iQ kI) 251)) (HP.an (OU o ua) (HP.an (OD (eX o m.bM m.cell) iQ) (HP.an (OU o ua) (HP.an (OD o da) (HP.an (m.bB ca) (m.bj va))))))).p R y->(HP.and True (HP.an (eg b (jF o m)) (HP.an (m.bB ca) (m.bj va)))).p R y:=λhe iQ kI R y H=>by
  refine⟨trivial,?_⟩
  have e:jF o m=eX o m.bM m.cell:=by simp only[jF];rw[if_neg (by simpa using h1),if_neg (by simpa using hk),if_pos he]
  rw[e]
  exact done _ iQ kI R y KC.1 KC.2 (HP.pick [_,_,_,_,_,_,_] [0,1,2,5,6] (by decide) rfl H)
 have hus:=KC.2
 refine⟨λh0=>?_,λh0=>⟨λQU=>?_,λQU=>⟨λh9=>?_,λh9=>⟨λh11=>?_,λh11=>⟨λh8=>?_,λh8=>⟨λh4=>?_,λh4=>?_⟩⟩⟩⟩⟩⟩
 ·refine goes (.inl h0) _ λiQ kI R h H=>⟨_,_,_,ua,_,uc,OU o ua,_,_,_,iQ,_,kI,OD _ iQ,rfl,.of λR y H=>iW (.inl h0) iQ kI R y H,H⟩
 ·refine goes (.inr (.inl QU)) _ λiQ kI R h H=>⟨_,_,_,ua,_,uc,OU o ua,_,_,_,iQ,_,kI,OD _ iQ,rfl,.of λR y H=>iW (.inr (.inl QU)) iQ kI R y H,H⟩
 ·refine goes (.inr (.inr h9)) _ λiQ kI R h H=>⟨_,_,_,ua,_,uc,OU o ua,_,_,_,iQ,_,kI,OD _ iQ,rfl,.of λR y H=>iW (.inr (.inr h9)) iQ kI R y H,H⟩
 ·exact .of λR y H=>lone {o with state:=4,low:=m.low} R y (by simp[jF,h1,hk,h11]) hs rfl rfl H
 ·exact .of λR y H=>lone {o with state:=5} R y (by simp[jF,h1,hk,h8]) hs rfl rfl H
 ·exact .of λR y H=>lone {o with state:=6} R y (by simp[jF,h1,hk,h4]) hs rfl rfl H
 ·exact .of λR y H=>lone {o with state:=3} R y (by simp[jF,h1,hk,h0,QU,h9,h11,h8,h4]) hs rfl rfl H
def dF(at':Int)(us:List Int):fO:=⟨at',if us.length=0 then 3 else 1,0,us,0,0,⟨0,[]⟩⟩
theorem Gn(at':Int)(a:Option Addr)(n c:Nat)(us:List Int)(S:HP)(hr:bR S a n (us.map dN))(hl:us.length=n)(hb:n<=1000000000):
 ax Tryz.prog 267 #[.int .i64 at',.slice a n c] S
 (λv=>HP.ex λb=>HP.ex λua=>HP.ex λuc=>HP.and (v=.pointer (some ⟨b,0,none⟩)) (HP.an S (HP.an (ef b (dF at' us) ua uc none 0) (pp ua n us)))):=by
 refine ah (ρ:=[.i at',.a a,.n n,.n c,.p S]) mixed Tryz.func267 Kl ?_
 unfold Nn
 refine cY ?_
 refine(PM S a n c us hr hl hb).ak (λ_ _ h=>h) ?_
 rintro v R h ⟨ua,uc,rfl,H⟩
 subst hl
 refine⟨ua,_,uc,pp ua us.length us,rfl,λb=>⟨λh0=>.of λR y H=>⟨b,ua,uc,rfl,?_⟩,λh0=>.of λR y H=>⟨b,ua,uc,rfl,?_⟩⟩,H⟩
 ·have e:dF at' us=⟨at',3,0,us,0,0,⟨0,[]⟩⟩:=by
   have:us.length=0:=by omega
   simp[dF,this]
  rw[e]
  exact H
 ·have e:dF at' us=⟨at',1,0,us,0,0,⟨0,[]⟩⟩:=by
   have:¬us.length=0:=by omega
   simp[dF,this]
  rw[e]
  exact H
theorem UM:(Tryz.prog.info? 44).map (λi=>(i.zero,i.size,i.bytes))=some (some (.agg #[.int .i64 0,.slice none 0 0]),2,32):=by kernel_rfl
theorem tf(b:Nat)(cs:Array Value)(e:TypeId)(off:Nat)(x:Int)(hk:off+1<=cs.size):aI Tryz.prog (bH 3 (.pointer (some ⟨b,off,none⟩)) (.int .i64 x)) (HP.one b (.cells cs e (0,0))) (λv=>HP.and (v=.tuple #[]) (HP.one b (.cells (cs.toList.take off++[Value.int .i64 x]++cs.toList.drop (off+1)).toArray e (0,0)))):=by
 obtain⟨i,hi,h1,h2,h3⟩:=info_parts iG
 exact ij hi e b cs off (.int .i64 x) [.int .i64 x] rfl (by rw[h2];rfl) (by simp) (λv hv=>by simp at hv;subst hv;rfl) (by simpa using hk) (by unfold maxLen;omega)
theorem PY(b:Nat)(cs:Array Value)(e:TypeId)(off:Nat)(w:Int)(a:Option Addr)(n c:Nat)(hk:off+2<=cs.size):aI Tryz.prog (bH 44 (.pointer (some ⟨b,off,none⟩)) (.agg #[.int .i64 w,.slice a n c])) (HP.one b (.cells cs e (0,0))) (λv=>HP.and (v=.tuple #[]) (HP.one b (.cells (cs.toList.take off++[Value.int .i64 w,Value.slice a n c]++cs.toList.drop (off+2)).toArray e (0,0)))):=by
 obtain⟨i,hi,h1,h2,h3⟩:=info_parts UM
 exact ij hi e b cs off (.agg #[.int .i64 w,.slice a n c]) [.int .i64 w,.slice a n c] (by first|rfl|simp[Value.cells]) (by rw[h2];rfl) (by simp) (λv hv=>by simp at hv;rcases hv with rfl|rfl<;>rfl) (by simpa using hk) (by unfold maxLen;omega)
theorem rI{ρ:bp}{i:Nat}{t ty:TypeId}{u:V}{x:Value}:dM ρ (.store t (.tmp i) (.const x)) ty [(i,u)]=bH t (u.den ρ) x:=by
 simp[dM,execOp,fl,bH]
theorem KD(at':Int)(a:Option Addr)(n c:Nat)(us:List Int)(S:HP)(hr:bR S a n (us.map dN))(hl:us.length=n)(hb:n<=1000000000)
 (w:Int) (xa:Option Addr) (xn xc:Nat) (l:List UInt8) (Sx:HP) (hx:bR Sx xa xn (l.map fH)) (nq:l.length=xn) (hxb:xn<=140737488355328):
 ax Tryz.prog 199 #[.int .i64 at',.slice a n c,.agg #[.int .i64 w,.slice xa xn xc]] (HP.an S Sx)
 (λv=>HP.ex λb=>HP.and (v=.pointer (some ⟨b,0,none⟩)) (HP.an S (HP.an Sx (eg b {dF at' us with cell:=⟨w,l⟩})))):=by
 refine ah (ρ:=[.i at',.a a,.n n,.n c,.p S,.i w,.a xa,.n xn,.n xc,.p Sx]) mixed Tryz.func199 Ca ?_
 unfold zV
 refine cY ?_
 intro x
 refine(Gn at' a n c us S hr hl hb).ak (λ_ _ h=>h) ?_
 rintro v R h ⟨b,ua,uc,rfl,H⟩
 subst hl
 refine⟨b,HP.an (ef b (dF at' us) ua uc none 0) (pp ua us.length us),rfl,?_,HP.ao H⟩
 clear H
 refine(u4 Sx w xa xn xc l hx nq hxb).ak (λ_ _ h=>h) ?_
 rintro v R h ⟨da,dc,rfl,H⟩
 subst nq
 refine⟨_,da,_,dc,aO da l.length l,rfl,?_,H⟩
 clear H
 rw[rI]
 refine cY ?_
 refine((tf b (fO.aA (dF at' us) ua uc none 0) _ 4 0 (of_decide_eq_true rfl)).frame (pp ua us.length us)).ak (λ_ _ h=>h) ?_
 rintro v R h ⟨h1,h2,d,l1,l2,⟨rfl,H⟩,HU⟩
 refine⟨HP.an (ef b (dF at' us) ua uc none 0) (pp ua us.length us),rfl,?_,⟨h1,h2,d,l1,l2,H,HU⟩⟩
 clear H HU
 rw[tI (by decide)]
 refine cY ?_
 let o:fO:={dF at' us with cell:=⟨w,l⟩}
 refine(((PY b (fO.aA (dF at' us) ua uc none 0) _ 6 w da l.length dc (of_decide_eq_true rfl)).frame (pp ua us.length us)).frame (aO da l.length l)).ak (λ_ _ h=>h) ?_
 rintro v R h ⟨h1,h2,d,l1,l2,⟨h3,h4,d',l3,l4,⟨rfl,H⟩,HU⟩,HD⟩
 have H1:(HP.an (HP.an (ef b o ua uc da dc) (pp ua us.length us)) (aO da l.length l)).p R h:=⟨h1,h2,d,l1,l2,⟨h3,h4,d',l3,l4,H,HU⟩,HD⟩
 refine⟨eg b o,rfl,.of λR y H=>⟨b,rfl,H⟩,?_⟩
 exact bb.gR (HP.ai H1) ⟨ua,uc,da,dc,⟨hb,hxb⟩,HP.aq H1⟩
theorem Gp(at':Int)(a:Option Addr)(n c:Nat)(us:List Int)(S:HP)(hr:bR S a n (us.map dN))(hl:us.length=n)(hb:n<=1000000000):
 ax Tryz.prog 206 #[.int .i64 at',.slice a n c] S
 (λv=>HP.ex λb=>HP.and (v=.pointer (some ⟨b,0,none⟩)) (HP.an S (eg b {dF at' us with step:=1,place:=(n:Int) - 1}))):=by
 refine ah (ρ:=[.i at',.a a,.n n,.n c,.p S]) mixed Tryz.func206 yr ?_
 unfold xb
 refine cY ?_
 refine(Gn at' a n c us S hr hl hb).ak (λ_ _ h=>h) ?_
 rintro v R h ⟨b,ua,uc,rfl,H⟩
 subst hl
 refine⟨b,HP.an (ef b (dF at' us) ua uc none 0) (pp ua us.length us),rfl,⟨aK _ (by omega) (by omega),λ_=>?_⟩,HP.ao H⟩
 clear H
 rw[rI]
 refine cY ?_
 refine((tf b (fO.aA (dF at' us) ua uc none 0) _ 4 1 (of_decide_eq_true rfl)).frame (pp ua us.length us)).ak (λ_ _ h=>h) ?_
 rintro v R h ⟨h1,h2,d,l1,l2,⟨rfl,H⟩,HU⟩
 let o1:fO:={dF at' us with step:=1}
 refine⟨HP.an (ef b o1 ua uc none 0) (pp ua us.length us),rfl,?_,⟨h1,h2,d,l1,l2,H,HU⟩⟩
 clear H HU
 rw[tI (by decide)]
 refine cY ?_
 let o:fO:={dF at' us with step:=1,place:=(us.length:Int) - 1}
 refine((tf b (fO.aA o1 ua uc none 0) _ 5 _ (of_decide_eq_true rfl)).frame (pp ua us.length us)).ak (λ_ _ h=>h) ?_
 rintro v R h ⟨h1,h2,d,l1,l2,⟨rfl,H⟩,HU⟩
 have H1:(HP.an (ef b o ua uc none 0) (pp ua us.length us)).p R h:=⟨h1,h2,d,l1,l2,H,HU⟩
 refine⟨eg b o,rfl,.of λR y H=>⟨b,rfl,H⟩,?_⟩
 exact⟨ua,uc,none,0,⟨hb,by show 0<=_;omega⟩,HP.ae H1 (λ_ h=>h) λy hy=>bb.gR (n6 none:(aO none 0 []).p R y) hy⟩
end
namespace RX
-- eC/YB.List[eC/api.ajo]:ρ:=[.n r,.p rP,.i bO,.v one,.p alg]
end RX
section
open RX
theorem UN{i:Nat}{S:HP}{a:Option Addr}{n c:Nat}{l:List UInt8}(hr:bR S a n (l.map fH))(hl:l.length=n):aH Tryz.prog (bI (.convert 42 9 (.tmp i)) 9 [(i,.slice a n c)]) S (sE l):=by
 have:=A8 (ρ:=[.v (.slice a n c)]) (i:=i) (x:=.w (.a (.val 0))) (S:=S) (a:=a) (n:=n) (c:=c) (l:=l) rfl hr hl
 rw[cu]at this
 exact this
end
namespace RX
-- eC/entry.part:ρ:=[.i n]
def Nv:T:=
(.br (.le (.i 0) 0)
(.ret (.bool (.le 0 (.i 2147483647))) [])
(.ret (.bool (.c false)) []))
theorem KE:tree Tryz.prog {} Tryz.f293 [0] [] 1=Nv:=by kernel_rfl
def Gq:T:=
(.new
(.br (.not (.eq 0 (.i 1)))
(.br (.not (.eq 0 (.i 2)))
(.ret (.bool (.c false)) [(6,9)])
(.call 293 [1] [] [.c] (.bool 11) []
(.br (.not 11)
(.ret (.bool (.c false)) [(6,9)])
(.call 293 [2] [] [.c] (.bool 12) []
(.br (.not 12)
(.ret (.bool (.c false)) [(6,9)])
(.call 293 [3] [] [.c] (.bool 13) []
(.br (.not 13)
(.ret (.bool (.c false)) [(6,9)])
(.br (.lt 4 (.i 0))
(.ret (.bool (.c false)) [(6,9)])
(.br (.le (.i 8) 4)
(.ret (.bool (.c false)) [(6,9)])
(.br (.lt 5 (.i (-1)))
(.ret (.bool (.c false)) [(6,9)])
(.br (.lt (.i 4294967296) 5)
(.ret (.bool (.c false)) [(6,9)])
(.ret (.bool (.le (.of 7) (.i 65506))) [(6,9)]))))))))))))
(.call 293 [1] [] [.c] (.bool 11) []
(.br (.not 11)
(.ret (.bool (.c false)) [(6,9)])
(.call 293 [2] [] [.c] (.bool 12) []
(.br (.not 12)
(.ret (.bool (.c false)) [(6,9)])
(.call 293 [3] [] [.c] (.bool 13) []
(.br (.not 13)
(.ret (.bool (.c false)) [(6,9)])
(.br (.lt 4 (.i 0))
(.ret (.bool (.c false)) [(6,9)])
(.br (.le (.i 8) 4)
(.ret (.bool (.c false)) [(6,9)])
(.br (.lt 5 (.i (-1)))
(.ret (.bool (.c false)) [(6,9)])
(.br (.lt (.i 4294967296) 5)
(.ret (.bool (.c false)) [(6,9)])
(.ret (.bool (.le (.of 7) (.i 65506))) [(6,9)])))))))))))))
theorem Gr:tree Tryz.prog {} Tryz.f233 [.agg [0,1,2,3,4,5,.s 6]] [(6,9)] 10=Gq:=by kernel_rfl
def z8:T:=
(.new
(.br (.lt (.i 65536) (.of 1))
(.ret (.au [.agg [.k 0,.k 0,.k 0,.k 0,.k 0,.k 0,.z],.k 3]) [(0,3)])
(.call 134 [.s 0] [(0,3)] [.a,.n,.n,.p,.i,.p] (.au [.s 5,9]) [(5,8),(0,10)]
(.br (.not (.eq 9 (.i 0)))
(.ret (.au [.agg [.k 0,.k 0,.k 0,.k 0,.k 0,.k 0,.z],.k 3]) [(0,10)])
(.call 56 [.s 5] [(5,8)] [.n,.p,.p] (.ptr 11 0) [(.b 11,12),(5,13)]
(.new
(.call 57 [.ptr 11 0] [(.b 11,12)] [.i,.p] (.w (.a (.int .u8 15))) [(.b 11,16)]
  (.rg 15
(.call 95 [.ptr 11 0,.k 4] [(.b 11,16)] [.i,.p] (.w (.a (.int .u64 17))) [(.b 11,18)]
(.call 95 [.ptr 11 0,.k 4] [(.b 11,18)] [.i,.p] (.w (.a (.int .u64 19))) [(.b 11,20)]
(.call 95 [.ptr 11 0,.k 4] [(.b 11,20)] [.i,.p] (.w (.a (.int .u64 21))) [(.b 11,22)]
(.call 57 [.ptr 11 0] [(.b 11,22)] [.i,.p] (.w (.a (.int .u8 23))) [(.b 11,24)]
  (.rg 23
(.call 58 [.ptr 11 0] [(.b 11,24)] [.i,.p] 25 [(.b 11,26)]
(.call 59 [.ptr 11 0,.k 65536] [(.b 11,26)] [.a,.n,.n,.p,.p] (.s 27) [(27,30),(.b 11,31)]
(.call 60 [.ptr 11 0] [(.b 11,31)] [.i,.p] 32 [(.b 11,33)]
(.br (.not (.eq 32 (.i 0)))
(.ret (.au [.agg [.k 0,.k 0,.k 0,.k 0,.k 0,.k 0,.z],.k 3]) [(0,10)])
(.call 233 [.agg [15,.int .i64 (.o1 (.wrap .i64) 17),.int .i64 (.o1 (.wrap .i64) 19),.int .i64 (.o1 (.wrap .i64) 21),23,25,.s 27]] [(27,30)] [.c,.p] (.bool 34) [(27,35)]
(.br (.not 34)
(.ret (.au [.agg [.k 0,.k 0,.k 0,.k 0,.k 0,.k 0,.z],.k 3]) [(0,10)])
(.ret (.au [.agg [15,.int .i64 (.o1 (.wrap .i64) 17),.int .i64 (.o1 (.wrap .i64) 19),.int .i64 (.o1 (.wrap .i64) 21),23,25,.s 27],.k 0]) [(0,10),(27,35)]))))))))))))))))))))
theorem Cf:tree Tryz.prog {} Tryz.f271 [.s 0] [(0,3)] 4=z8:=by kernel_rfl
def Aa:T:=
(.new
(.call 134 [.s 0] [(0,3)] [.a,.n,.n,.p,.i,.p] (.au [.s 5,9]) [(5,8),(0,10)]
(.br (.not (.eq 9 (.i 0)))
(.ret (.au [.agg [.k 0,.str (.s []),.str (.s []),.k 0,.k 0,.z],.k 3]) [(0,10)])
(.call 56 [.s 5] [(5,8)] [.n,.p,.p] (.ptr 11 0) [(.b 11,12),(5,13)]
(.new
(.call 57 [.ptr 11 0] [(.b 11,12)] [.i,.p] (.w (.a (.int .u8 15))) [(.b 11,16)]
 (.rg 15
(.call 59 [.ptr 11 0,.k 300] [(.b 11,16)] [.a,.n,.n,.p,.p] (.s 17) [(17,20),(.b 11,21)]
(.read (.convert 42 9 (.tmp 23)) 9 [(23,.s 17)] [(17,20)] [.s] (.str 22)
(.call 59 [.ptr 11 0,.k 300] [(.b 11,21)] [.a,.n,.n,.p,.p] (.s 23) [(23,26),(.b 11,27)]
(.read (.convert 42 9 (.tmp 27)) 9 [(27,.s 23)] [(23,26)] [.s] (.str 28)
(.call 58 [.ptr 11 0] [(.b 11,27)] [.i,.p] 29 [(.b 11,30)]
(.call 58 [.ptr 11 0] [(.b 11,30)] [.i,.p] 31 [(.b 11,32)]
(.call 59 [.ptr 11 0,.k 4096] [(.b 11,32)] [.a,.n,.n,.p,.p] (.s 33) [(33,36),(.b 11,37)]
(.call 60 [.ptr 11 0] [(.b 11,37)] [.i,.p] 38 [(.b 11,39)]
(.br (.not (.eq 38 (.i 0)))
(.ret (.au [.agg [.k 0,.str (.s []),.str (.s []),.k 0,.k 0,.z],.k 3]) [(0,10)])
(.ret (.au [.agg [15,.str 22,.str 28,29,31,.s 33],.k 0]) [(0,10),(33,36)])))))))))))))))))
theorem Cg:tree Tryz.prog {} Tryz.f100 [.s 0] [(0,3)] 4=Aa:=by kernel_rfl
end RX
section
open RX
structure yv where
 kind:Int
 cl:Int
 bi:Int
 nu:Int
 st:Int
 bk:Int
 pl:List UInt8
def yv.val(x:yv)(a:Option Addr)(c:Nat):Value:=.agg #[.int .i64 x.kind,.int .i64 x.cl,.int .i64 x.bi,.int .i64 x.nu,.int .i64 x.st,.int .i64 x.bk,.slice a x.pl.length c]
def ky(n:Int):Bool:=decide (0<=n)&&decide (n<=2147483647)
def dU(x:yv):Bool:=(decide (x.kind=1)||decide (x.kind=2))&&ky x.cl&&ky x.bi&&ky x.nu&&decide (0<=x.st)&&decide (x.st<8)&&decide (-1<=x.bk)&&decide (x.bk<=4294967296)&&decide (x.pl.length<=65506)
theorem mv(n:Int):ax Tryz.prog 293 #[.int .i64 n] HP.tt (λv=>HP.and (v=.bool (ky n)) HP.tt):=by
 refine ah (ρ:=[.i n]) mixed Tryz.func293 KE ?_
 unfold Nv
 refine cg ?_
 unfold ky
 refine⟨λh=>.of λR x _=>⟨?_,trivial⟩,λh=>.of λR x _=>⟨?_,trivial⟩⟩
 ·have h':0<=n:=h
  rw[decide_eq_true h',Bool.true_and];rfl
 ·have h':¬0<=n:=h
  rw[decide_eq_false h',Bool.false_and]
theorem Ab(x:yv)(a:Option Addr)(c:Nat)(S:HP):ax Tryz.prog 233 #[x.val a c] S (λv=>HP.and (v=.bool (dU x)) S):=by
 refine ah (ρ:=[.i x.kind,.i x.cl,.i x.bi,.i x.nu,.i x.st,.i x.bk,.a a,.n x.pl.length,.n c,.p S]) mixed Tryz.func233 Gr ?_
 unfold Gq
 refine cg ?_
 intro _
 have no:dU x=false->HP.aV S (HP.and (Value.bool false=.bool (dU x)) S):=λh=>.of λR h' H=>⟨by rw[h],H⟩
 refine⟨λh1=>⟨λh2=>no ?_,λh2=>?_⟩,λh1=>?_⟩
 ·unfold dU;simp[h1,h2]
 ·have A5:(decide (x.kind=1)||decide (x.kind=2))=true:=by
   have h2:x.kind=2:=by simpa using h2
   simp[h2]
  clear h1 h2
  refine(mv x.cl).ak (λ_ _ h=>h) ?_
  rintro v R h ⟨rfl,H⟩
  refine⟨_,rfl,⟨λh=>no ?_,λh1=>?_⟩,H⟩
  ·unfold dU;simp[h]
  refine(mv x.bi).ak (λ_ _ h=>h) ?_
  rintro v R h ⟨rfl,H⟩
  refine⟨_,rfl,⟨λh=>no ?_,λh2=>?_⟩,H⟩
  ·unfold dU;simp[h]
  refine(mv x.nu).ak (λ_ _ h=>h) ?_
  rintro v R h ⟨rfl,H⟩
  refine⟨_,rfl,⟨λh=>no ?_,λh3=>⟨λh=>no ?_,λh4=>⟨λh=>no ?_,λh5=>⟨λh=>no ?_,λh6=>⟨λh=>no ?_,λh7=>.of λR h' H=>⟨?_,H⟩⟩⟩⟩⟩⟩,H⟩
  ·unfold dU;simp[h]
  ·unfold dU;have:¬0<=x.st:=by omega
   simp[this]
  ·unfold dU;have:¬x.st<8:=by omega
   simp[this]
  ·unfold dU;have:¬ -1<=x.bk:=by omega
   simp[this]
  ·unfold dU;have:¬x.bk<=4294967296:=by omega
   simp[this]
  ·have a1:0<=x.st:=by omega
   have a2:x.st<8:=by omega
   have a3: -1<=x.bk:=by omega
   have a4:x.bk<=4294967296:=by omega
   have h1:ky x.cl=true:=by simpa using h1
   have h2:ky x.bi=true:=by simpa using h2
   have h3:ky x.nu=true:=by simpa using h3
   unfold dU
   rw[A5,h1,h2,h3]
   simp[a1,a2,a3,a4]
   omega
 ·have A5:(decide (x.kind=1)||decide (x.kind=2))=true:=by
   have h1:x.kind=1:=by simpa using h1
   simp[h1]
  clear h1
  refine(mv x.cl).ak (λ_ _ h=>h) ?_
  rintro v R h ⟨rfl,H⟩
  refine⟨_,rfl,⟨λh=>no ?_,λh1=>?_⟩,H⟩
  ·unfold dU;simp[h]
  refine(mv x.bi).ak (λ_ _ h=>h) ?_
  rintro v R h ⟨rfl,H⟩
  refine⟨_,rfl,⟨λh=>no ?_,λh2=>?_⟩,H⟩
  ·unfold dU;simp[h]
  refine(mv x.nu).ak (λ_ _ h=>h) ?_
  rintro v R h ⟨rfl,H⟩
  refine⟨_,rfl,⟨λh=>no ?_,λh3=>⟨λh=>no ?_,λh4=>⟨λh=>no ?_,λh5=>⟨λh=>no ?_,λh6=>⟨λh=>no ?_,λh7=>.of λR h' H=>⟨?_,H⟩⟩⟩⟩⟩⟩,H⟩
  ·unfold dU;simp[h]
  ·unfold dU;have:¬0<=x.st:=by omega
   simp[this]
  ·unfold dU;have:¬x.st<8:=by omega
   simp[this]
  ·unfold dU;have:¬ -1<=x.bk:=by omega
   simp[this]
  ·unfold dU;have:¬x.bk<=4294967296:=by omega
   simp[this]
  ·have a1:0<=x.st:=by omega
   have a2:x.st<8:=by omega
   have a3: -1<=x.bk:=by omega
   have a4:x.bk<=4294967296:=by omega
   have h1:ky x.cl=true:=by simpa using h1
   have h2:ky x.bi=true:=by simpa using h2
   have h3:ky x.nu=true:=by simpa using h3
   unfold dU
   rw[A5,h1,h2,h3]
   simp[a1,a2,a3,a4]
   omega
def pq(s:RS):yv×RS:=
 let k:=bq s 1
 let a:=bq k.2 4
 let b:=bq a.2 4
 let c:=bq b.2 4
 let t:=bq c.2 1
 let i:=bq t.2 8
 let p:=eI i.2 65536
 (⟨((k.1%256:Nat):Int),(a.1:Int),(b.1:Int),(c.1:Int),((t.1%256:Nat):Int),cD i.1,p.1⟩,p.2)
def tg(l:List UInt8):Option yv:=if 65536<l.length then none else match cm l with
 |none=>none
 |some q=>if(pq (q,false)).2.2=true\/(pq (q,false)).2.1≠[]then none else if dU (pq (q,false)).1=true then some (pq (q,false)).1 else none
def rJ(l:List UInt8)(S:HP)(v:Value):HP:=match tg l with
 |none=>HP.and (v=.tuple #[.agg #[.int .i64 0,.int .i64 0,.int .i64 0,.int .i64 0,.int .i64 0,.int .i64 0,.slice none 0 0],.int .i64 3]) S
 |some x=>HP.ex λa=>HP.ex λc=>HP.and (v=.tuple #[x.val a c,.int .i64 0]) (HP.an (du a x.pl.length c x.pl) S)
theorem UO(v:Nat)(h:v<256^4):IntKind.i64.wrap (v:Int)=v:=by
 have h4:(256:Nat)^4=4294967296:=by decide
 exact gu ⟨by show(-9223372036854775808:Int)<=_;omega,by show _<=(9223372036854775807:Int);omega⟩
set_option maxHeartbeats 1000000 in
theorem KF(a:Option Addr)(n c:Nat)(l:List UInt8)(S:HP)(hr:bR S a n (l.map fH))(hl:l.length=n)(hc:n<=c)(ha:n≠0->a.isSome=true):
 ax Tryz.prog 271 #[.slice a n c] S (rJ l S):=by
 refine ah (ρ:=[.a a,.n n,.n c,.p S]) mixed Tryz.func271 Cf ?_
 unfold z8
 refine cg ?_
 intro _
 have bad:tg l=none->∀ {A:HP},HP.aV A S->HP.aV A (rJ l S (.tuple #[.agg #[.int .i64 0,.int .i64 0,.int .i64 0,.int .i64 0,.int .i64 0,.int .i64 0,.slice none 0 0],.int .i64 3])):=λh A hA=>by
  unfold rJ;rw[h];exact hA.trans (.of λR h H=>⟨rfl,H⟩)
 refine⟨λh=>bad ?_ (HP.aV.refl _),λh=>?_⟩
 ·unfold tg;rw[if_pos (by omega)]
 have hle:¬65536<l.length:=by omega
 have sf:tg l=match cm l with
  |none=>none
  |some q=>if(pq (q,false)).2.2=true\/(pq (q,false)).2.1≠[]then none else if dU (pq (q,false)).1=true then some (pq (q,false)).1 else none:=by unfold tg;rw[if_neg hle]
 refine(sG a n c l S hr hl hc ha (by omega)).ak (λ_ _ h=>h) ?_
 rintro v R h ⟨a',c',rfl,H⟩
 refine⟨a',_,c',du a' _ c' _,_,S,rfl,?_,HP.ao H⟩
 clear H
 cases hu:cm l with
 |none=>
  rw[hu]at sf
  exact⟨λ_=>bad sf (HP.aV.refl _),λh=>(by simp at h)⟩
 |some q=>
  rw[hu]at sf
  simp only at sf
  refine⟨λh=>absurd rfl h,λ_=>?_⟩
  simp only[Option.getD_some]
  have hq:q.length<=1000000:=by
   unfold cm at hu
   split at hu
   ·cases hu
   ·split at hu
    ·cases hu;rw[List.length_take];omega
    ·cases hu
  refine(nZ a' _ c' q _ (bR.ow _ _ _ _ _ _) rfl (by omega)).ak (λ_ _ h=>h) ?_
  rintro v R h ⟨b,rfl,H⟩
  refine⟨b,_,_,rfl,?_,HP.ao H⟩
  clear H
  intro _
  refine(nY b (q,false)).ak (λ_ _ h=>h) ?_
  rintro v R h ⟨rfl,H⟩
  refine⟨_,_,rfl,⟨aK _ (by omega) (by omega),λ_=>?_⟩,H⟩
  clear H
  refine(gi b _ 4 (by omega)).ak (λ_ _ h=>h) ?_
  rintro v R h ⟨rfl,H⟩
  refine⟨_,_,rfl,?_,H⟩
  clear H
  refine(gi b _ 4 (by omega)).ak (λ_ _ h=>h) ?_
  rintro v R h ⟨rfl,H⟩
  refine⟨_,_,rfl,?_,H⟩
  clear H
  refine(gi b _ 4 (by omega)).ak (λ_ _ h=>h) ?_
  rintro v R h ⟨rfl,H⟩
  refine⟨_,_,rfl,?_,H⟩
  clear H
  refine(nY b _).ak (λ_ _ h=>h) ?_
  rintro v R h ⟨rfl,H⟩
  refine⟨_,_,rfl,⟨aK _ (by omega) (by omega),λ_=>?_⟩,H⟩
  clear H
  refine(kV b _).ak (λ_ _ h=>h) ?_
  rintro v R h ⟨rfl,H⟩
  refine⟨_,_,rfl,?_,H⟩
  clear H
  refine(j6 b _ 65536).ak (λ_ _ h=>h) ?_
  rintro v R h ⟨pa,pc,rfl,H⟩
  refine⟨pa,_,pc,_,_,rfl,?_,HP.ao H⟩
  clear H
  refine(jY b _).ak (λ_ _ h=>h) ?_
  rintro v R h ⟨rfl,H⟩
  refine⟨_,_,rfl,⟨λh1=>bad ?_ (HP.aV.refl _),λh1=>?_⟩,H⟩
  ·rw[sf,if_pos]
   by_cases e:(pq (q,false)).2.2=true\/(pq (q,false)).2.1≠[]
   ·exact e
   ·exact absurd (if_neg e) h1
  clear H
  have lC:¬((pq (q,false)).2.2=true\/(pq (q,false)).2.1≠[]):=λe=>by
   have h3:(if(pq (q,false)).2.2=true\/(pq (q,false)).2.1≠[]then(3:Int)else 0)=3:=if_pos e
   exact absurd (h3.symm.trans h1) (by decide)
  rw[if_neg lC]at sf
  rw[UO _ (jX _ _),UO _ (jX _ _),UO _ (jX _ _)]
  refine(Ab (pq (q,false)).1 pa pc _).ak (λ_ _ h=>h) ?_
  rintro v R h ⟨rfl,H⟩
  refine⟨_,_,rfl,⟨λh2=>bad ?_ (HP.aV.refl _),λh2=>?_⟩,H⟩
  ·rw[sf,if_neg h2]
  ·have h2:dU (pq (q,false)).1=true:=by simpa using h2
   rw[if_pos h2]at sf
   unfold rJ
   rw[sf]
   exact .of λR h H=>⟨pa,pc,rfl,HP.ao H⟩
structure fh where
 kind:Int
 path:Nm
 bh:Nm
 off:Int
 n:Int
 data:List UInt8
def fh.val(x:fh)(a:Option Addr)(c:Nat):Value:=.agg #[.int .i64 x.kind,sE x.path,sE x.bh,.int .i64 x.off,.int .i64 x.n,.slice a x.data.length c]
def nD(s:RS):fh×RS:=
 let k:=bq s 1
 let a:=eI k.2 300
 let b:=eI a.2 300
 let o:=bq b.2 8
 let n:=bq o.2 8
 let p:=eI n.2 4096
 (⟨((k.1%256:Nat):Int),a.1,b.1,cD o.1,cD n.1,p.1⟩,p.2)
def lg(l:List UInt8):Option fh:=match cm l with
 |none=>none
 |some q=>if(nD (q,false)).2.2=true\/(nD (q,false)).2.1≠[]then none else some (nD (q,false)).1
def mw(l:List UInt8)(S:HP)(v:Value):HP:=match lg l with
 |none=>HP.and (v=.tuple #[.agg #[.int .i64 0,sE [],sE [],.int .i64 0,.int .i64 0,.slice none 0 0],.int .i64 3]) S
 |some x=>HP.ex λa=>HP.ex λc=>HP.and (v=.tuple #[x.val a c,.int .i64 0]) (HP.an (du a x.data.length c x.data) S)
set_option maxHeartbeats 1000000 in
theorem xg(a:Option Addr)(n c:Nat)(l:List UInt8)(S:HP)(hr:bR S a n (l.map fH))(hl:l.length=n)(hc:n<=c)(ha:n≠0->a.isSome=true)(hb:n<=140737488355000):
 ax Tryz.prog 100 #[.slice a n c] S (mw l S):=by
 refine ah (ρ:=[.a a,.n n,.n c,.p S]) mixed Tryz.func100 Cg ?_
 unfold Aa
 refine cg ?_
 intro _
 have bad:lg l=none->∀ {A:HP},HP.aV A S->HP.aV A (mw l S (.tuple #[.agg #[.int .i64 0,sE [],sE [],.int .i64 0,.int .i64 0,.slice none 0 0],.int .i64 3])):=λh A hA=>by
  unfold mw;rw[h];exact hA.trans (.of λR h H=>⟨rfl,H⟩)
 have sf:lg l=match cm l with
  |none=>none
  |some q=>if(nD (q,false)).2.2=true\/(nD (q,false)).2.1≠[]then none else some (nD (q,false)).1:=rfl
 refine(sG a n c l S hr hl hc ha (by omega)).ak (λ_ _ h=>h) ?_
 rintro v R h ⟨a',c',rfl,H⟩
 refine⟨a',_,c',du a' _ c' _,_,S,rfl,?_,HP.ao H⟩
 clear H
 cases hu:cm l with
 |none=>
  rw[hu]at sf
  exact⟨λ_=>bad sf (HP.aV.refl _),λh=>(by simp at h)⟩
 |some q=>
  rw[hu]at sf
  simp only at sf
  refine⟨λh=>absurd rfl h,λ_=>?_⟩
  simp only[Option.getD_some]
  have hq:q.length<=140737488355000:=by
   unfold cm at hu
   split at hu
   ·cases hu
   ·split at hu
    ·cases hu;rw[List.length_take];omega
    ·cases hu
  refine(nZ a' _ c' q _ (bR.ow _ _ _ _ _ _) rfl (by omega)).ak (λ_ _ h=>h) ?_
  rintro v R h ⟨b,rfl,H⟩
  refine⟨b,_,_,rfl,?_,HP.ao H⟩
  clear H
  intro _
  refine(nY b (q,false)).ak (λ_ _ h=>h) ?_
  rintro v R h ⟨rfl,H⟩
  refine⟨_,_,rfl,⟨aK _ (by omega) (by omega),λ_=>?_⟩,H⟩
  clear H
  refine(j6 b _ 300).ak (λ_ _ h=>h) ?_
  rintro v R h ⟨pa,pc,rfl,H⟩
  refine⟨pa,_,pc,_,_,rfl,⟨_,UN (bR.ow _ _ _ _ _ _) rfl,?_⟩,HP.ao H⟩
  clear H
  refine(j6 b _ 300).ak (λ_ _ h=>h) ?_
  rintro v R h ⟨oa,oc,rfl,H⟩
  refine⟨oa,_,oc,_,_,rfl,⟨_,UN (bR.ow _ _ _ _ _ _) rfl,?_⟩,HP.ao H⟩
  clear H
  refine(kV b _).ak (λ_ _ h=>h) ?_
  rintro v R h ⟨rfl,H⟩
  refine⟨_,_,rfl,?_,H⟩
  clear H
  refine(kV b _).ak (λ_ _ h=>h) ?_
  rintro v R h ⟨rfl,H⟩
  refine⟨_,_,rfl,?_,H⟩
  clear H
  refine(j6 b _ 4096).ak (λ_ _ h=>h) ?_
  rintro v R h ⟨da,dc,rfl,H⟩
  refine⟨da,_,dc,_,_,rfl,?_,HP.ao H⟩
  clear H
  refine(jY b _).ak (λ_ _ h=>h) ?_
  rintro v R h ⟨rfl,H⟩
  refine⟨_,_,rfl,⟨λh1=>bad ?_ (HP.aV.refl _),λh1=>?_⟩,H⟩
  ·rw[sf,if_pos]
   by_cases e:(nD (q,false)).2.2=true\/(nD (q,false)).2.1≠[]
   ·exact e
   ·exact absurd (if_neg e) h1
  clear H
  have lC:¬((nD (q,false)).2.2=true\/(nD (q,false)).2.1≠[]):=λe=>by
   have h3:(if(nD (q,false)).2.2=true\/(nD (q,false)).2.1≠[]then(3:Int)else 0)=3:=if_pos e
   exact absurd (h3.symm.trans h1) (by decide)
  rw[if_neg lC]at sf
  unfold mw
  rw[sf]
  exact .of λR h H=>⟨da,dc,rfl,HP.ao H⟩
end
section
open Go.RowKit
section
variable {P:Program}{κ:Type}[DecidableEq κ]
theorem KG{kt:TypeId}{enc:κ->Value}{d:TypeDesc}(hd:P.underlying kt=some d)(hn:∀a b,Instr.sameNow d a b=none)
 (check:∀(em:Bool) (k:κ) (w:World),(Instr.checkKey em 10000 kt (enc k)).run P w=.ok () w)
 (heq:∀(k k':κ) (w:World),(Op.equal kt (enc k) (enc k')).run P w=.ok (decide (k=k')) w)
 (bits:∀k,Instr.sameBits 10000 (enc k) (enc k)=true):gH P kt enc where
 check:=check
 bits:=bits
 find k l w:=by
  have ZP:∀(l:AL κ) (i:Nat),(Instr.findAsking kt (enc k) (l.map (qY enc)) i).run P w=.ok (iI k l i) w:=by
   intro l
   induction l with
   |nil=>intro i;simp[Instr.findAsking,iI]
   |cons x l ih=>
    intro i
    simp only[List.map_cons,Instr.findAsking,Sem.run_bind,qY,heq,Result.andThen_ok,iI]
    by_cases e:k=x.1
    ·simp[e]
    ·simp only[e,decide_false,Bool.false_eq_true,if_false]
     exact ih (i+1)
  unfold Instr.findKey
  cases l with
  |nil=>simp[run_underlying hd,Instr.findNow,iI]
  |cons x l=>
   have hf:Instr.findNow d (enc k) ((x::l).map (qY enc)) 0=none:=by
    simp[Instr.findNow,hn]
   simp only[Sem.run_bind,run_underlying hd,Result.andThen_ok,hf]
   exact ZP (x::l) 0
end
section
variable {P:Program}{ops:Array Oper}{rest:List Oper}{o:Oper}{a:Act}{w:World}{Q:Exit->Act->World->Prop}
end
end
section
open RX
abbrev lj:=Int×Int×Int
def uJ(k:lj):Value:=.agg #[.int .i64 k.1,.int .i64 k.2.1,.int .i64 k.2.2]
theorem iR{P:Program}{w:World}{e:TypeId}{k:IntKind}(he:P.underlying e=some (.int k))(cs:Array Value)(i:Nat)(v:Value)(hv:cs[i]? =some v):(part e cs i).run P w=.ok v w:=by
 have ahM:(isAgg e).run P w=.ok false w:=by
  unfold isAgg
  rw[Sem.run_bind,run_underlying he]
  rfl
 simp[part,ahM,hv]
theorem ahN:(Tryz.prog.fieldsOf 56).toList.map (λf=>(decide (f.name= "_"),f.type,f.offset))=[(false,3,0),(false,3,1),(false,3,2)]:=by kernel_rfl
theorem aef:∃f0 f1 f2:Field,(Tryz.prog.fieldsOf 56).toList=[f0,f1,f2]/\(f0.name≠ "_" /\f0.type=3/\f0.offset=0)/\(f1.name≠ "_" /\f1.type=3/\f1.offset=1)/\(f2.name≠ "_" /\f2.type=3/\f2.offset=2):=by
 have h:=ahN
 obtain⟨f0,r0,e0,h0,h⟩:=List.map_eq_cons_iff.1 h
 obtain⟨f1,r1,e1,h1,h⟩:=List.map_eq_cons_iff.1 h
 obtain⟨f2,r2,e2,h2,h⟩:=List.map_eq_cons_iff.1 h
 have e3:=List.map_eq_nil_iff.1 h
 subst e3 e2 e1
 simp only[Prod.mk.injEq,decide_eq_false_iff_not]at h0 h1 h2
 exact⟨f0,f1,f2,e0,h0,h1,h2⟩
theorem KH:Tryz.prog.underlying 56=some (.struct (Tryz.prog.fieldsOf 56)):=by kernel_rfl
theorem aaN:Tryz.prog.stoodInHeld 56=false:=by kernel_rfl
theorem rK:Tryz.prog.underlying 3=some (.int .i64):=by kernel_rfl
theorem idK:gH Tryz.prog 56 uJ:=by
 obtain⟨f0,f1,f2,hf,⟨n0,t0,o0⟩,⟨n1,t1,o1⟩,n2,t2,o2⟩:=aef
 have hck:∀(em:Bool) (n:Int) (m:Nat) (w:World),(Instr.checkKey em (m+1) 3 (.int .i64 n)).run Tryz.prog w=.ok () w:=by
  intro em n m w
  unfold Instr.checkKey
  simp[run_underlying rK]
 have q0:∀(a b c:Int) (w:World),(part 3 #[.int .i64 a,.int .i64 b,.int .i64 c] 0).run Tryz.prog w=.ok (.int .i64 a) w:=λa b c w=>iR rK _ 0 _ rfl
 have q1:∀(a b c:Int) (w:World),(part 3 #[.int .i64 a,.int .i64 b,.int .i64 c] 1).run Tryz.prog w=.ok (.int .i64 b) w:=λa b c w=>iR rK _ 1 _ rfl
 have q2:∀(a b c:Int) (w:World),(part 3 #[.int .i64 a,.int .i64 b,.int .i64 c] 2).run Tryz.prog w=.ok (.int .i64 c) w:=λa b c w=>iR rK _ 2 _ rfl
 have he:∀(a b:Int) (w:World),(Op.equalIn 9999 3 (.int .i64 a) (.int .i64 b)).run Tryz.prog w=.ok (a==b) w:=λa b w=>run_equalIn_int w 9998 _ _ _ _ _ rK
 refine KG KH (λa b=>rfl) ?_ ?_ ?_
 ·rintro em ⟨a,b,c⟩ w
  unfold Instr.checkKey uJ
  simp only[Sem.run_bind,run_underlying KH,Result.andThen_ok]
  rw[<-Array.forIn_toList,hf]
  simp only[List.forIn_cons,List.forIn_nil,Sem.run_bind,n0,n1,n2,t0,t1,t2,o0,o1,o2,ne_eq,not_false_eq_true,if_true,q0,q1,q2,Result.andThen_ok,hck em _ 9998 w,Sem.run_pure]
 ·rintro⟨a,b,c⟩ ⟨x,y,z⟩ w
  unfold Op.equal uJ
  rw[show Op.maxDepth=9998+1+1 from rfl,run_equalIn_struct w _ _ _ _ KH aaN,hf]
  simp only[Op.eqFields,n0,n1,n2,t0,t1,t2,o0,o1,o2,ne_eq,not_false_eq_true,if_true,Sem.run_bind,q0,q1,q2,Result.andThen_ok,run_equalIn_int w _ _ _ _ _ _ rK]
  by_cases h1:a=x
  ·by_cases h2:b=y
   ·by_cases h3:c=z
    ·simp[h1,h2,h3,q1,q2,he]
    ·simp[h1,h2,h3,q1,q2,he]
   ·simp[h1,h2,q1,he]
  ·simp[h1]
 ·intro k
  simp[uJ,Instr.sameBits]
def oD(q:List UInt8):List UInt8:=gw q.length 4++q
def i7(x:fh):List UInt8:=nr ([nz x.kind]++oD x.path++oD x.bh++gw (dO x.off) 8++gw (dO x.n) 8++oD x.data)
def xh(x:yv):List UInt8:=nr ([nz x.kind]++gw (dO x.cl) 4++gw (dO x.bi) 4++gw (dO x.nu) 4++[nz x.st]++gw (dO x.bk) 8++oD x.pl)
def rL(s:Nm):Option Nm:=match bN s with
 |some (x::_)=>some x
 |_=>none
def fT(x:fh):Int:=if x.kind=12 then 0 else match rL x.path with
 |none=>0
 |some m=>if(x.kind=5\/x.kind=6)/\rL x.bh≠some m then 0 else 1+((n5 m%7:Nat):Int)
def cP(p:rf)(at':Int):List Int:=if at'<0\/cH p=false then[]else p.ch.getD (at'%p.ch.length).toNat []
structure KI where
 i1:Int
 i2:Int
 i3:Int
 kind:Int
 step:Int
 lK:Int
 pl:List UInt8
 at':Int
 cell:eS
 op:Option fO
 left:List Int
def KJ:KI:=⟨0,0,0,0,0,0,[],0,zC,none,[]⟩
structure cE(α:Type) where
 node:Int
 fB:Int
 cv:Int
 bt:rf
 rp:α
 oG:Int
 rM:Int
 num:Int
 busy:Bool
 bo:KI
 gx:Option bY
 Y1:Int
 bK:List (Int×MS)
 out:List MS
 waits:Bool
 id:lj
 aQ:eV
section
variable {α:Type}
def rN(x m:MS):Bool:=decide (x.to=m.to)&&decide (x.kind=m.kind)&&decide (x.ep=m.ep)&&decide (x.at'=m.at')&&(decide (x.br=m.br)&&decide (x.bw=m.bw))
def Gs(l:List (Int×MS))(k:Int):Bool:=l.any λy=>decide (y.1=k)
def xi(g:cE α)(m:MS):cE α:=if Gs g.bK m.to=true then g else
 {g with num:=g.num+1,bK:=g.bK++[(m.to,{m with fr:=g.node,num:=g.num+1})],out:=g.out++[{m with fr:=g.node,num:=g.num+1}]}
def Ac(g:cE α)(asks:List MS):cE α:=asks.foldl xi {g with bK:=g.bK.filter λy=>asks.any λx=>rN x y.2}
def Ch(g:cE α)(a:eV):cE α:={g with waits:=true,id:=(g.bo.i1,g.bo.i2,g.bo.i3),aQ:=a,busy:=false,bo:=KJ,gx:=none,bK:=[],out:=[]}
def jT(g:cE α):cE α:=Ch g {bM:=30}
def u5(g:cE α):List MS:=[{mC with to:=7,kind:=8,ep:=g.bt.ep,at':=g.bo.lK}]
def Xz(o:fO):Int:=if o.state=1 then(o.us[o.place.toNat]?).getD 0 else 0
def XA(o:fO):Int:=if o.state=1 then xf o else 0
def pm(g:cE α)(o:fO):List MS:=[{mC with to:=Xz o,kind:=XA o,ep:=g.bt.ep,at':=o.at',cell:=jE o}]
def KK(g:cE α):Int:=64*(g.rM+1)+65536*g.fB+g.node
def fI(g:cE α):cE α:={g with rM:=g.rM+1,gx:=some (g9 g.bt g.cv (KK g)),Y1:=0}
def cE.bQ(g:cE α)(o:Option fO):cE α:={g with bo:={g.bo with op:=o}}
def cE.pT(g:cE α)(n:Int):cE α:={g with bo:={g.bo with step:=n}}
def jO(g:cE α)(r:MS):yv:=⟨g.bo.kind,g.bo.i1,g.bo.i2,g.bo.i3,g.bo.lK,r.back,g.bo.pl⟩
def jP(g:cE α)(r:MS):cE α:=
 if r.bM=0 then(if dU (jO g r)=true then{g with bo:={g.bo with step:=1,at':=r.tail,cell:=⟨1,xh (jO g r)⟩}}else jT g)
 else if r.bM=8 then fI g else jT g
def rO(g:cE α):fO:=g.bo.op.getD ({dF g.bo.at' (cP g.bt g.bo.at')with step:=0,cell:=g.bo.cell})
def jp(g:cE α):cE α×Option (List MS):=
 let o:=rO g
 let g1:=g.bQ (some o)
 if o.state=1 then(g1,some (pm g1 o))else if o.state=2 then((g1.pT 2).bQ none,none)else if o.state=3 then((g1.pT 0).bQ none,none)
 else if o.state=5 then(fI g1,none)else(jT g1,none)
end
structure RF(α:Type) where
 nx:α->Int
 lost:α->Bool
 take:α->eS->α
 skip:α->Int->α
 aQ:α->lj->Option eV
section
variable {α:Type}(F:RF α)
def lm(g:cE α):cE α:=if g.bo.kind=2 then Ch g {}else match F.aQ g.rp (g.bo.i1,g.bo.i2,g.bo.i3)with
 |none=>jT g
 |some a=>Ch g a
def oH(at':Int)(us:List Int):fO:={dF at' us with step:=1,place:=(us.length:Int) - 1}
def eG(g:cE α)(o:fO):cE α×Option (List MS):=
 if o.state=1 then(g,some (pm g o))else if o.state=2 then({g with rp:=F.take g.rp (eP o)}.bQ none,none)
 else if o.state=4 then(if o.low<=F.nx g.rp\/g.bo.at'<o.low then(jT g,none)else({g with rp:=F.skip g.rp o.low}.bQ none,none))
 else if o.state=5 then(fI g,none)else(jT g,none)
def kz(g:cE α):cE α×Option (List MS):=match g.bo.op with
 |some o=>eG F g o
 |none=>if g.bo.at'<F.nx g.rp/\F.lost g.rp=false then(lm F g,none)else if F.nx g.rp=g.bo.at' then({g with rp:=F.take g.rp g.bo.cell},none)
  else eG F (g.bQ (some (oH (F.nx g.rp) (cP g.bt (F.nx g.rp))))) (oH (F.nx g.rp) (cP g.bt (F.nx g.rp)))
def PZ(g:cE α):cE α×Option (List MS):=if g.bo.left=[]then(Ch g {},none)else
 (g,some (g.bo.left.map λu=>{mC with to:=u,kind:=3,ep:=g.bt.ep,at':=g.bo.at'}))
def aaO(p:rf):List Int:=((List.range 7).map λ(k:Nat)=>(k:Int)).filter λu=>p.ch.any λc=>c.contains u
def fp(g:cE α)(a:bY):cE α×Option (List MS):=
 if a.st=5 then({g with bt:=a.bt,gx:=none,bo:={g.bo with op:=none,left:=if g.bo.step=3 then aaO a.bt else g.bo.left}},none)
 else if a.st=6 then(jT g,none)else(g,some (dI a))
def i9(g:cE α):cE α×Option (List MS):=match g.gx with
 |some a=>fp g a
 |none=>if g.bo.step=0 then(g,some (u5 g))else if g.bo.step=1 then jp g else if g.bo.step=2 then kz F g else PZ g
def lq:Nat->cE α->cE α
 |0,g=>g
 |n+1,g=>if g.busy=false then g else match i9 F g with
  |(g',some l)=>Ac g' l
  |(g',none)=>lq n g'
def kA(g:cE α)(j:KI):cE α:={g with oG:=g.oG+1,busy:=true,bo:={j with i1:=g.node,i2:=g.fB,i3:=g.oG+1}}
def Nw(x y:fh):Bool:=decide (x.kind=y.kind)&&(decide (x.path=y.path)&&(decide (x.bh=y.bh)&&(decide (x.off=y.off)&&(decide (x.n=y.n)&&decide (x.data=y.data)))))
def Gt(x:fh):Bool:=match lg (i7 x)with
 |some y=>Nw x y
 |none=>false
def qB(g:cE α)(x:fh):cE α×Int:=if g.busy=true\/g.waits=true then(g,7)else if Gt x=true then
 (lq F 9 (kA g {KJ with kind:=1,lK:=fT x,pl:=i7 x}),0)else(g,1)
def jG(m q:MS):Bool:=m.bf&&(!q.bf&&(decide (m.to=q.fr)&&(decide (m.fr=q.to)&&(decide (m.num=q.num)&&(decide (m.kind=q.kind)&&(decide (m.ep=q.ep)&&decide (m.at'=q.at')))))))
def UP(g:cE α)(m:MS):cE α:=if m.bM=0 then{g with bo:={g.bo with left:=g.bo.left.filter λu=> !decide (u=m.fr)}}else if m.bM=8 then fI g else jT g
def kB(g:cE α)(m:MS)(a':bY):cE α:=match g.gx with
 |some _=>{g with gx:=some a'}
 |none=>if g.bo.step=0 then jP g m else if g.bo.step=3 then UP g m else g.bQ (g.bo.op.map λo=>jF o m)
def bL(l:List (Int×MS))(k:Int):Option MS:=(l.find? λy=>decide (y.1=k)).map (·.2)
def pU(l:List (Int×MS))(k:Int):List (Int×MS):=l.filter λy=> !decide (y.1=k)
def jU(g:cE α)(m:MS)(a':bY):cE α:=match bL g.bK m.fr with
 |none=>g
 |some q=>if jG m q=true then lq F 9 (kB {g with bK:=pU g.bK m.fr} m a')else g
def KL(g:cE α):cE α:={g with out:=[]}
def fJ(g:cE α):cE α:=if g.waits=true then{g with waits:=false,id:=(0,0,0),aQ:={}}else g
def uK(node fB cv:Int)(p:rf)(r:α):cE α:=⟨node,fB,cv,p,r,0,0,fB*4294967296,false,KJ,none,0,[],[],false,(0,0,0),{}⟩
end
def XB(T:List Nd)(d:Nat)(nm:Nm)(k:Nat):Prop:=∃n,nodeAt T d=some n/\n.kind=1/\lk n.cO nm=some k
theorem th{T:List Nd}{a:Nat}{l:List Nm}{nm:Nm}{k:Nat}:dR T a (l++[nm])=(k,0)↔∃d,dR T a l=(d,0)/\XB T d nm k:=by
 rw[sZ]
 constructor
 ·intro h
  split at h
  ·rename_i h0
   obtain⟨n,h1,h2,h3⟩:=Fu h
   exact⟨_,Prod.ext rfl h0,n,h1,h2,h3⟩
  ·rename_i h0
   rw[h]at h0;exact absurd rfl h0
 ·rintro⟨d,h1,n,h2,h3,h4⟩
  rw[h1]
  simp[dR,h2,h3,h4]
theorem Gu{T:List Nd}{a:Nat}{l m:List Nm}{k:Nat}(h:dR T a (l++m)=(k,0)):∃d,dR T a l=(d,0)/\dR T d m=(k,0):=by
 rw[sZ]at h
 split at h
 ·rename_i h0
  exact⟨_,Prod.ext rfl h0,h⟩
 ·rename_i h0
  rw[h]at h0;exact absurd rfl h0
inductive Rch(T:List Nd):Nat->Prop where
 |root:Rch T 0
 |step {d k:Nat} {w:Nm}:Rch T d->XB T d w k->Rch T k
theorem rQ{l:List (Nm×Nat)}{d:Nat}{a:Nm}(h:(a,d)∈l):1<=ku l d:=by
 unfold ku
 have:0<l.countP λe=>decide (e.2=d):=List.countP_pos_iff.2 ⟨_,h,by simp⟩
 omega
theorem Gv{d:Nat}{a c:Nm}(hac:a≠c):∀ {l:List (Nm×Nat)},(a,d)∈l->(c,d)∈l->2<=ku l d
 |[],h,_=>by cases h
 |y::r,h,g=>by
  have hc:ku (y::r) d=ku r d+if y.2=d then 1 else 0:=by unfold ku;rw[List.countP_cons];simp
  rcases List.mem_cons.1 h with rfl|h1
  ·rcases List.mem_cons.1 g with e|g1
   ·injection e with e _;exact absurd e.symm hac
   ·have:=rQ g1;rw[hc];simp;omega
  ·rcases List.mem_cons.1 g with rfl|g1
   ·have:=rQ h1;rw[hc];simp;omega
   ·have:=Gv hac h1 g1;rw[hc];omega
theorem rR{n:Nd}{k:Nat}:∀ {T:List Nd},n∈T->ku n.cO k<=refs T k
 |[],h=>by cases h
 |y::r,h=>by
  rw[ip]
  rcases List.mem_cons.1 h with rfl|h
  ·omega
  ·have:=rR (k:=k) h;omega
theorem Gw{n m:Nd}{k:Nat}(hnm:n≠m):∀ {T:List Nd},n∈T->m∈T->ku n.cO k+ku m.cO k<=refs T k
 |[],h,_=>by cases h
 |y::r,h,g=>by
  rw[ip]
  rcases List.mem_cons.1 h with rfl|h1
  ·rcases List.mem_cons.1 g with rfl|g1
   ·exact absurd rfl hnm
   ·have:=rR (k:=k) g1;omega
  ·rcases List.mem_cons.1 g with rfl|g1
   ·have:=rR (k:=k) h1;omega
   ·have:=Gw (k:=k) hnm h1 g1;omega
theorem XC{B:Nat}{T:List Nd}(wf:qw B T){d p q:Nat}{a c:Nm}{x:Nd}(hx:nodeAt T d=some x)(hk:x.kind=1)(h:XB T p a d)(g:XB T q c d):p=q/\a=c:=by
 obtain⟨n,h1,_,h3⟩:=h
 obtain⟨m,g1,_,g3⟩:=g
 obtain⟨hn,hnn,hnm⟩:=wf.at' h1
 obtain⟨hm,hmn,hmm⟩:=wf.at' g1
 have sf:d≠0:=(hn.name _ (mV h3)).2
 have hc:=wf.aav hx sf
 have hl:x.d9=1:=by
  rcases(wf.at' hx).1.kind with⟨_,_,h⟩|⟨h,_⟩
  ·exact h
  ·rw[hk]at h;cases h
 have h2:refs T d=1:=by omega
 by_cases e:n=m
 ·subst e
  refine⟨by omega,Classical.byContradiction λhac=>?_⟩
  have:=Gv hac (mV h3) (mV g3)
  have:=rR (k:=d) hnm
  omega
 ·have:=Gw (k:=d) e hnm hmm
  have:=rQ (mV h3)
  have:=rQ (mV g3)
  omega
theorem UQ{B:Nat}{T:List Nd}(wf:qw B T):∀(N:Nat) (l m:List Nm) (d:Nat) (x:Nd),l.length<=N->nodeAt T d=some x->x.kind=1->dR T 0 l=(d,0)->dR T 0 m=(d,0)->l=m:=by
 have zero:∀(l:List Nm) (a:Nm),dR T 0 (l++[a])≠(0,0):=λl a h=>by
  obtain⟨d,_,n,h1,_,h3⟩:=th.1 h
  exact((wf.at' h1).1.name _ (mV h3)).2 rfl
 intro N
 induction N with
 |zero=>
  intro l m d x hl hx hk h g
  obtain rfl:=List.length_eq_zero_iff.1 (Nat.le_zero.1 hl)
  cases h
  rcases List.eq_nil_or_concat m with rfl|⟨m',c,rfl⟩
  ·rfl
  ·rw[List.concat_eq_append]at g
   exact absurd g (zero m' c)
 |succ N ih=>
  intro l m d x hl hx hk h g
  rcases List.eq_nil_or_concat l with rfl|⟨l',a,rfl⟩
  ·cases h
   rcases List.eq_nil_or_concat m with rfl|⟨m',c,rfl⟩
   ·rfl
   ·rw[List.concat_eq_append]at g
    exact absurd g (zero m' c)
  ·rw[List.concat_eq_append]at h hl⊢
   rcases List.eq_nil_or_concat m with rfl|⟨m',c,rfl⟩
   ·cases g
    exact absurd h (zero l' a)
   ·rw[List.concat_eq_append]at g⊢
    obtain⟨p,h1,h2⟩:=th.1 h
    obtain⟨q,g1,g2⟩:=th.1 g
    obtain⟨rfl,rfl⟩:=XC wf hx hk h2 g2
    obtain⟨y,hy,hyk,_⟩:=h2
    rw[ih l' m' p y (by simp at hl;omega) hy hyk h1 g1]
theorem P4{B:Nat}{T:List Nd}(wf:qw B T){l m:List Nm}{d:Nat}{x:Nd}(hx:nodeAt T d=some x)(hk:x.kind=1)(h:dR T 0 l=(d,0))(g:dR T 0 m=(d,0)):l=m:=
 UQ wf l.length l m d x (Nat.le_refl _) hx hk h g
def Reach(T:List Nd):Prop:=∀n∈T,Rch T n.num
theorem Ad{α:Type}[DecidableEq α]:∀ {l m:List α},l.Nodup->(∀x∈l,x∈m)->l.length<=m.length
 |[],_,_,_=>Nat.zero_le _
 |x::l,m,h,hs=>by
  rw[List.nodup_cons]at h
  have hx:=hs x (by simp)
  have ih:=Ad (m:=m.erase x) h.2 λy hy=>by
   have:y≠x:=λe=>h.1 (by rw[<-e];exact hy)
   exact(List.mem_erase_of_ne this).2 (hs y (by simp[hy]))
  rw[List.length_erase_of_mem hx]at ih
  have:=List.length_pos_of_mem hx
  rw[List.length_cons];omega
def oI(T:List Nd)(l:List Nm)(i:Nat):Nat:=(dR T 0 (l.take i)).1
theorem aeg{B:Nat}{T:List Nd}(wf:qw B T){l:List Nm}{k:Nat}(h:dR T 0 l=(k,0))(hk:(nodeAt T k).isSome=true):l.length+1<=T.length:=by
 have pre:∀i,i<=l.length->dR T 0 (l.take i)=(oI T l i,0)/\(i<l.length->∃x,nodeAt T (oI T l i)=some x/\x.kind=1):=λi hi=>by
  have e:=h
  rw[<-List.take_append_drop i l]at e
  obtain⟨d,h1,h2⟩:=Gu e
  have hd:oI T l i=d:=by unfold oI;rw[h1]
  rw[hd]
  refine⟨h1,λhlt=>?_⟩
  have hdr:l.drop i=l[i]::l.drop (i+1):=List.drop_eq_getElem_cons hlt
  rw[hdr]at h2
  obtain⟨d2,h3,_⟩:=Gu (l:=[l[i]]) (m:=l.drop (i+1)) h2
  obtain⟨n,h4,h5,_⟩:=Fu h3
  exact⟨n,h4,h5⟩
 have inj:∀i j,i<j->j<=l.length->oI T l i≠oI T l j:=λi j uy hj e=>by
  obtain⟨h1,h2⟩:=pre i (by omega)
  obtain⟨x,h3,h4⟩:=h2 (by omega)
  have h5:=(pre j hj).1
  rw[<-e]at h5
  have:=P4 wf h3 h4 h1 h5
  have:=congrArg List.length this
  rw[List.length_take,List.length_take]at this
  omega
 have nd:((List.range (l.length+1)).map (oI T l)).Nodup:=by
  rw[List.nodup_iff_pairwise_ne,List.pairwise_map]
  refine List.Pairwise.imp_of_mem (R:=(· < ·)) (λ{a b} ha hb hab=>inj a b hab (by have:=List.mem_range.1 hb;omega)) (List.pairwise_lt_range)
 have sub:∀x∈(List.range (l.length+1)).map (oI T l),x∈T.map (·.num):=λx hx=>by
  obtain⟨i,hi,rfl⟩:=List.mem_map.1 hx
  have hi:=List.mem_range.1 hi
  have:(nodeAt T (oI T l i)).isSome=true:=by
   by_cases e:i<l.length
   ·obtain⟨x,h3,_⟩:=(pre i (by omega)).2 e
    rw[h3];rfl
   ·have:oI T l i=k:=by unfold oI;rw[List.take_of_length_le (by omega),h]
    rw[this];exact hk
  obtain⟨n,hn⟩:=Option.isSome_iff_exists.1 this
  obtain⟨h1,h2⟩:=eM hn
  exact List.mem_map.2 ⟨n,h1,h2⟩
 have:=Ad nd sub
 simpa using this
variable {T:List Nd}
end
namespace RX
-- (*eC/tree.aln).whole:ρ:=[.n t,.p tP]
end RX
section
open RX
end
namespace RX
-- eC/alo.ahO:ρ:=[.a ba,.n bl,.n bc,.p bP]
end RX
section
open RX
end
namespace RX
def xj:=(({aB:=[190,138,137,24,25,271,100,310]}:gA).aB)
def Ny:T:=
(.call 71 [] [] [.n,.p] (.ptr 0 0) [(.b 0,1)]
(.new
(.new
(.ret (.ptr 3 0) [(.b 3,.cells [.k 0,.ptr 0 0,.map 2,.k (-1),.k (-1),.k 0,.z] 158),(.b 0,1),(.b 2,.kD)]))))
theorem KM:tree Tryz.prog {aB:=xj,aY:=[(327,[0])],cx:=true} Tryz.f41 [] [] 0=Ny:=by kernel_rfl
def Gx:T:=
(.ret 1 [(.b 0,.cells [1,.ptr 2 0,.map 4,6,7,8,.s 9] 158),(.b 2,3),(.b 4,5),(9,12)])
theorem Gy:tree Tryz.prog {aB:=xj,aY:=[(327,[0])],cx:=true} Tryz.f203 [.ptr 0 0] [(.b 0,.cells [1,.ptr 2 0,.map 4,6,7,8,.s 9] 158),(.b 2,3),(.b 4,5),(9,12)] 13=Gx:=by kernel_rfl
def Gz:T:=
(.ret (.bool (.c false)) [(.b 0,.cells [1,.ptr 2 0,.map 4,6,7,8,.s 9] 158),(.b 2,3),(.b 4,5),(9,12)])
theorem GA:tree Tryz.prog {aB:=xj,aY:=[(327,[0])],cx:=true} Tryz.f137 [.ptr 0 0] [(.b 0,.cells [1,.ptr 2 0,.map 4,6,7,8,.s 9] 158),(.b 2,3),(.b 4,5),(9,12)] 13=Gz:=by kernel_rfl
def UR:T:=
(.new
(.new
(.join [.n,.i,.i,.i,.i,.a,.n,.n,.a,.n,.n,.p,.p,.p]
 (.all
(.call 327 [.ptr 2 0,.agg [16,.str 17,.str 18,19,20,.s 21]] [(.b 2,3),(21,24)] [.i,.i,.i,.i,.a,.n,.n,.p,.a,.n,.n,.p,.p] (.agg [27,28,29,30,.s 31,.s 35]) [(31,34),(35,38),(.b 2,39),(21,24)]
(.new
(.again 0 [.n 40,.z 27,.z 28,.z 29,.z 30,.a 31,.e (.cQ 32 (.n 0)),.e (.cQ 33 (.n 0)),.a 35,.e (.cQ 36 (.n 0)),.e (.cQ 37 (.n 0)),.p [(31,34)],.p [(35,38)],.p [(.b 2,39)]])))
(.new
(.call 327 [.ptr 2 0,.agg [16,.str 17,.str 18,19,20,.s 21]] [(.b 2,3),(21,24)] [.i,.i,.i,.i,.a,.n,.n,.p,.a,.n,.n,.p,.p] (.agg [28,29,30,31,.s 32,.s 36]) [(32,35),(36,39),(.b 2,40),(21,24)]
(.again 0 [.n 27,.z 28,.z 29,.z 30,.z 31,.a 32,.e (.cQ 33 (.n 0)),.e (.cQ 34 (.n 0)),.a 36,.e (.cQ 37 (.n 0)),.e (.cQ 38 (.n 0)),.p [(32,35)],.p [(36,39)],.p [(.b 2,40)]]))))
(.read (.lookup 155 (.tmp 19) (.tmp 20) true) 335 [(19,.map 4),(20,.agg [13,14,15])] [(.b 4,5)] [.i,.i,.i,.i,.a,.n,.n,.a,.n,.n,.c] (.au [.agg [41,42,43,44,.s 45,.s 48],.bool 51])
(.new
(.br (.not 51)
(.op (.mapUpdate 155 (.tmp 29) (.tmp 30) (.tmp 31)) 0 [(29,.map 4),(30,.agg [13,14,15]),(31,.agg [28,29,30,31,.s 32,.s 35])] [(.b 4,5),(32,38),(35,39)] [.p] (.au []) [(.b 4,53),(32,38),(35,39)]
(.ret (.au []) [(.b 0,.cells [1,.ptr 2 0,.map 4,6,7,8,.s 9] 158),(.b 2,40),(.b 4,53),(9,12),(21,24)]))
(.ret (.au []) [(.b 0,.cells [1,.ptr 2 0,.map 4,6,7,8,.s 9] 158),(.b 2,40),(.b 4,5),(9,12),(21,24)])))))))
theorem P6:tree Tryz.prog {aB:=xj,aY:=[(327,[0])],cx:=true,jn:=[((9,27),some {ss:=[.n,.i,.i,.i,.i,.a,.n,.n,.a,.n,.n,.p,.p,.p],n:=41,tv:=[(9,none),(10,none),(11,none),(12,none),(13,none),(14,none),(6,some (.ptr 27 0))],h:=[(.b 27,.cells [28,29,30,31,.s 32,.s 35] 59),(32,38),(35,39),(.b 2,40),(21,24),(.b 26,.cells [16,.str 17,.str 18,19,20,.s 21] 52),(.b 25,.cells [13,14,15] 56),(.b 0,.cells [1,.ptr 2 0,.map 4,6,7,8,.s 9] 158),(.b 4,5),(9,12)],lk:=[]})]} Tryz.f309 [.ptr 0 0,.agg [13,14,15],.agg [16,.str 17,.str 18,19,20,.s 21]] [(.b 0,.cells [1,.ptr 2 0,.map 4,6,7,8,.s 9] 158),(.b 2,3),(.b 4,5),(9,12),(21,24)] 25=UR:=by kernel_rfl
def rS:T:=
(.new
(.call 100 [.s 20] [(20,23)] [.i,.s,.s,.i,.i,.a,.n,.n,.p,.i] (.au [.agg [25,.str 26,.str 27,28,29,.s 30],34]) [(30,33),(20,23)]
(.new
(.br (.not (.eq 34 (.i 0)))
(.ret (.au []) [(.b 0,.cells [1,.ptr 2 0,.map 4,6,7,8,.s 9] 158),(.b 2,3),(.b 4,5),(9,12),(20,23)])
(.call 137 [.ptr 0 0] [(.b 0,.cells [1,.ptr 2 0,.map 4,6,7,8,.s 9] 158),(.b 2,3),(.b 4,5),(9,12)] [.c] (.bool 36) [(.b 0,.cells [1,.ptr 2 0,.map 4,6,7,8,.s 9] 158),(.b 2,3),(.b 4,5),(9,12)]
(.br 36
(.new
(.op (.call ⟨.builtin .append,#[.tmp 22,.tmp 28],#[156,156]⟩) 156 [(22,.s 9),(28,.sl (.b 37 0) (.n 1) (.n 1))] [(9,12),(.b 37,.cells [13,15,16,17,25,.str 26,.str 27,28,29,.s 30] 365),(30,33)] [.a,.n,.n,.p] (.s 38) [(38,41),(.b 37,.cells [13,15,16,17,25,.str 26,.str 27,28,29,.s 30] 365),(30,33)]
(.ret (.au []) [(.b 0,.cells [1,.ptr 2 0,.map 4,6,7,8,.s 38] 158),(.b 2,3),(.b 4,5),(38,41),(20,23)])))
(.call 309 [.ptr 0 0,.agg [15,16,17],.agg [25,.str 26,.str 27,28,29,.s 30]] [(.b 0,.cells [1,.ptr 2 0,.map 4,6,7,8,.s 9] 158),(.b 2,3),(.b 4,5),(9,12),(30,33)] [.i,.n,.p,.n,.p,.i,.i,.i,.a,.n,.n,.p,.p] (.au []) [(.b 0,.cells [37,.ptr 38 0,.map 40,42,43,44,.s 45] 158),(.b 38,39),(.b 40,41),(45,48),(30,49)]
(.ret (.au []) [(.b 0,.cells [37,.ptr 38 0,.map 40,42,43,44,.s 45] 158),(.b 38,39),(.b 40,41),(45,48),(20,23)]))))))))
theorem uL:tree Tryz.prog {aB:=xj,aY:=[(327,[0])],cx:=true} Tryz.f272 [.ptr 0 0,13,.agg [14,15,16,17,18,19,.s 20]] [(.b 0,.cells [1,.ptr 2 0,.map 4,6,7,8,.s 9] 158),(.b 2,3),(.b 4,5),(9,12),(20,23)] 24=rS:=by kernel_rfl
def GB:T:=
(.new
(.rg (.add 1 (.i 1))
(.br (.not (.eq 13 (.i 1)))
(.ret (.au []) [(.b 0,.cells [.int .i64 (.add 1 (.i 1)),.ptr 2 0,.map 4,6,7,8,.s 9] 158),(.b 2,3),(.b 4,5),(9,12),(14,17)])
(.call 271 [.s 14] [(14,17)] [.i,.i,.i,.i,.i,.i,.a,.n,.n,.p,.i] (.au [.agg [19,20,21,22,23,24,.s 25],29]) [(25,28),(14,17)]
(.new
(.br (.not (.eq 29 (.i 0)))
(.ret (.au []) [(.b 0,.cells [.int .i64 (.add 1 (.i 1)),.ptr 2 0,.map 4,6,7,8,.s 9] 158),(.b 2,3),(.b 4,5),(9,12),(14,17)])
(.br (.eq 19 (.i 1))
(.call 272 [.ptr 0 0,1,.agg [19,20,21,22,23,24,.s 25]] [(.b 0,.cells [.int .i64 (.add 1 (.i 1)),.ptr 2 0,.map 4,6,7,8,.s 9] 158),(.b 2,3),(.b 4,5),(9,12),(25,28)] [.i,.n,.p,.n,.p,.i,.i,.i,.a,.n,.n,.p,.p] (.au []) [(.b 0,.cells [31,.ptr 32 0,.map 34,36,37,38,.s 39] 158),(.b 32,33),(.b 34,35),(39,42),(25,43)]
(.ret (.au []) [(.b 0,.cells [31,.ptr 32 0,.map 34,36,37,38,.s 39] 158),(.b 32,33),(.b 34,35),(39,42),(14,17)]))
(.br (.eq 19 (.i 2))
(.call 273 [.ptr 0 0,1,.agg [19,20,21,22,23,24,.s 25]] [(.b 0,.cells [.int .i64 (.add 1 (.i 1)),.ptr 2 0,.map 4,6,7,8,.s 9] 158),(.b 2,3),(.b 4,5),(9,12),(25,28)] [.i,.n,.p,.n,.p,.i,.i,.i,.a,.n,.n,.p,.p] (.au []) [(.b 0,.cells [31,.ptr 32 0,.map 34,36,37,38,.s 39] 158),(.b 32,33),(.b 34,35),(39,42),(25,43)]
(.ret (.au []) [(.b 0,.cells [31,.ptr 32 0,.map 34,36,37,38,.s 39] 158),(.b 32,33),(.b 34,35),(39,42),(14,17)]))
(.ret (.au []) [(.b 0,.cells [.int .i64 (.add 1 (.i 1)),.ptr 2 0,.map 4,6,7,8,.s 9] 158),(.b 2,3),(.b 4,5),(9,12),(14,17)])))))))))
theorem GC:tree Tryz.prog {aB:=xj,aY:=[(327,[0])],cx:=true} Tryz.f205 [.ptr 0 0,.agg [13,.s 14]] [(.b 0,.cells [1,.ptr 2 0,.map 4,6,7,8,.s 9] 158),(.b 2,3),(.b 4,5),(9,12),(14,17)] 18=GB:=by kernel_rfl
def xk:T:=
(.new
(.new
(.read (.lookup 155 (.tmp 12) (.tmp 13) true) 335 [(12,.map 4),(13,.agg [13,14,15])] [(.b 4,5)] [.i,.i,.i,.i,.a,.n,.n,.a,.n,.n,.c] (.au [.agg [18,19,20,21,.s 22,.s 25],.bool 28])
(.new
(.br (.not 28)
(.ret (.au [.agg [.k 0,.k 0,.k 0,.k 0,.z,.z],.bool (.c false)]) [(.b 0,.cells [1,.ptr 2 0,.map 4,6,7,8,.s 9] 158),(.b 2,3),(.b 4,5),(9,12)])
(.call 24 [.s 22] [(.b 4,5)] [.a,.n,.n,.p] (.s 30) [(30,33),(.b 4,5)]
(.call 25 [.s 25] [(.b 4,5)] [.a,.n,.n,.p] (.s 34) [(34,37),(.b 4,5)]
(.ret (.au [.agg [18,19,20,21,.s 30,.s 34],.bool (.c true)]) [(.b 0,.cells [1,.ptr 2 0,.map 4,6,7,8,.s 9] 158),(.b 2,3),(.b 4,5),(9,12),(30,33),(34,37)]))))))))
theorem yw:tree Tryz.prog {aB:=xj,aY:=[(327,[0])],cx:=true} Tryz.f270 [.ptr 0 0,.agg [13,14,15]] [(.b 0,.cells [1,.ptr 2 0,.map 4,6,7,8,.s 9] 158),(.b 2,3),(.b 4,5),(9,12)] 16=xk:=by kernel_rfl
def Ae:T:=
(.br (.not (.is 0))
(.ret .z [(0,3)])
(.new
(.op (.call ⟨.builtin .append,#[.tmp 5,.tmp 6],#[42,42]⟩) 42 [(5,.sl (.b 4 0) (.n 0) (.n 0)),(6,.s 0)] [(.b 4,.cells [] 5),(0,3)] [.a,.n,.n,.p] (.s 5) [(5,8),(0,3)]
(.ret (.s 5) [(0,3),(5,8)]))))
theorem Ci:tree Tryz.prog {} Tryz.f24 [.s 0] [(0,3)] 4=Ae:=by kernel_rfl
def GD:T:=
(.br (.not (.is 0))
(.ret .z [(0,3)])
(.new
(.op (.call ⟨.builtin .append,#[.tmp 5,.tmp 6],#[57,57]⟩) 57 [(5,.sl (.b 4 0) (.n 0) (.n 0)),(6,.s 0)] [(.b 4,.cells [] 9),(0,3)] [.a,.n,.n,.p] (.s 5) [(5,8),(0,3)]
(.ret (.s 5) [(0,3),(5,8)]))))
theorem GF:tree Tryz.prog {} Tryz.f25 [.s 0] [(0,3)] 4=GD:=by kernel_rfl
end RX
section
open RX
theorem US(S:HP)(a:Option Addr)(n c:Nat)(l:List UInt8)(hr:bR S a n (l.map fH))(hl:l.length=n)(hb:n<=140737488355328):
 ax Tryz.prog 24 #[.slice a n c] S (λv=>HP.ex λa'=>HP.ex λc'=>HP.and (v=.slice a' n c') (HP.an (du a' n c' l) S)):=by
 refine ah (ρ:=[.a a,.n n,.n c,.p S]) mixed Tryz.func24 Ci ?_
 unfold Ae
 refine cg ?_
 refine⟨λha=>.of λR h H=>?_,λha x=>?_⟩
 ·have hn:n=0:=hr.none R h H (by simpa using ha)
  subst hn
  obtain rfl:l=[]:=List.eq_nil_of_length_eq_zero hl
  exact⟨none,0,rfl,HP.aM H|>λH=>HP.ae H (λx _=>cp.nil _ _ R x) λ_ h=>h⟩
 ·have:=kS (some ⟨x,0,none⟩) 0 0 [] S a n c l hr hl (λ_=>by simpa[Option.isSome_iff_ne_none]using ha) (by omega)
  refine this.ak (λR h H=>HP.ae H (λy hy=>⟨rfl,.inr ⟨x,#[],rfl,hy,Nat.le_refl _,by unfold maxLen;omega,rfl,rfl⟩⟩) λ_ h=>h) ?_
  rintro v R h ⟨a',c',rfl,H⟩
  rw[Nat.zero_add,List.nil_append]at H
  exact⟨a',n,c',du a' n c' l,by rw[Nat.zero_add],.of λR' h' H'=>⟨a',c',rfl,HP.ao H'⟩,H⟩
theorem UT(S:HP)(a:Option Addr)(n c:Nat)(l:List Nm)(hr:bR S a n (l.map sE))(hl:l.length=n)(hb:n<=1000000000):
 ax Tryz.prog 25 #[.slice a n c] S (λv=>HP.ex λa'=>HP.ex λc'=>HP.and (v=.slice a' n c') (HP.an (tX a' n c' l) S)):=by
 refine ah (ρ:=[.a a,.n n,.n c,.p S]) mixed Tryz.func25 GF ?_
 unfold GD
 refine cg ?_
 refine⟨λha=>.of λR h H=>?_,λha x=>?_⟩
 ·have hn:n=0:=hr.none R h H (by simpa using ha)
  subst hn
  obtain rfl:l=[]:=List.eq_nil_of_length_eq_zero hl
  exact⟨none,0,rfl,HP.aM H|>λH=>HP.ae H (λx _=>cp.nil _ _ R x) λ_ h=>h⟩
 ·have ha:a.isSome=true:=by simpa using ha
  obtain⟨ad,rfl⟩:=Option.isSome_iff_exists.1 ha
  obtain⟨i,hi,h1,h2,h3⟩:=info_parts u3
  have:=fG 57 57 9 i _ E6 hi h1 (by rw[h2];rfl) (by omega) (some ⟨x,0,none⟩) 0 0 [] S ad n c (l.map sE) hr.rd (by simp[hl,h2]) (aam l) (by unfold maxLen;omega) (by rw[h3];omega)
  rw[h2]at this
  refine this.ak (λR h H=>HP.ae H (λy hy=>⟨rfl,.inr ⟨x,#[],rfl,hy,Nat.le_refl _,by unfold maxLen;omega,rfl,rfl⟩⟩) λ_ h=>h) ?_
  rintro v R h ⟨a',c',rfl,H⟩
  rw[Nat.zero_add,List.nil_append]at H
  exact⟨a',n,c',tX a' n c' l,by rw[Nat.zero_add],.of λR' h' H'=>⟨a',c',rfl,HP.ao H'⟩,H⟩
def oJ(x:eV)(da:Option Addr)(dc:Nat)(na:Option Addr)(nc:Nat):Value:=.agg #[.int .i64 x.bM,.int .i64 x.kind,.int .i64 x.size,.int .i64 x.d9,.slice da x.data.length dc,.slice na x.aL.length nc]
def pu(v:Value)(x:eV):HP:=HP.ex λda:Option Addr=>HP.ex λdc:Nat=>HP.ex λna:Option Addr=>HP.ex λnc:Nat=>HP.and (v=oJ x da dc na nc/\x.data.length<=1000000/\x.aL.length<=1000000) (HP.both (aO da x.data.length x.data) (tY na x.aL.length x.aL))
theorem pu.gf:DQ pu:=λv x R h h' ⟨da,dc,na,nc,e,H1,H2⟩=>⟨da,dc,na,nc,e,H1,H2⟩
abbrev oL(m:Nat)(f:lj->Option eV):HP:=eJ pu uJ m f
theorem Y2:Tryz.prog.underlying 155=some (.map 56 59):=by kernel_rfl
def aaP:Value:=.agg #[.int .i64 0,.int .i64 0,.int .i64 0,.int .i64 0,.slice none 0 0,.slice none 0 0]
theorem XD:(Tryz.prog.info? 59).map (λi=>(i.zero,i.size))=some (some aaP,6):=by kernel_rfl
theorem UU:∃i,Tryz.prog.info? 59=some i/\i.zero=some aaP/\i.size=6:=by
 have h:=XD
 obtain⟨i,h1,h2⟩:=Option.map_eq_some_iff.1 h
 simp only[Prod.mk.injEq]at h2
 exact⟨i,h1,h2.1,h2.2⟩
theorem Y3{m:Nat}{f:lj->Option eV}{l:AL lj}{c:Nat}{R h:PH}(H:(aC pu uJ m f l c).p R h)(k:lj):
 (f k=none/\aG k l=none)\/∃x da dc na nc,f k=some x/\aG k l=some (oJ x da dc na nc)/\x.data.length<=1000000/\x.aL.length<=1000000/\(aO da x.data.length x.data).p R h/\(tY na x.aL.length x.aL).p R h:=by
 cases hf:f k with
 |none=>exact .inl ⟨rfl,aC.no H hf⟩
 |some x=>
  obtain⟨v,h1,da,dc,na,nc,⟨rfl,e1,e2⟩,h2,h3⟩:=aC.Bo H pu.gf hf h
  exact .inr ⟨x,da,dc,na,nc,rfl,h1,e1,e2,h2,h3⟩
structure Af where
 nx:Int
 tb:Nat
 t:TS
 am:Nat
 f:lj->Option eV
 up:Int
 at':Int
 la:Int
def RpC(b:Nat)(s:Af):HP:=HP.one b (.cells #[.int .i64 s.nx,.pointer (some ⟨s.tb,0,none⟩),.map (some s.am),.int .i64 s.up,.int .i64 s.at',.int .i64 s.la,.slice none 0 0] 158 (0,0))
def lr(b:Nat)(s:Af):HP:=HP.an (RpC b s) (HP.an (b8 s.tb s.t) (HP.an (oL s.am s.f) HP.tt))
def Ib(b:Nat)(s:Af)(K:HP):HP:=HP.an (RpC b s) (HP.an (b8 s.tb s.t) (HP.an (oL s.am s.f) (HP.an HP.tt K)))
theorem Ib.of{b:Nat}{s:Af}{K:HP}{R h:PH}(H:(HP.an (lr b s) K).p R h):(Ib b s K).p R h:=by
 have H1:=HP.aq H
 refine HP.ae H1 (λ_ h=>h) λx hx=>?_
 have H2:=HP.aq hx
 exact HP.ae H2 (λ_ h=>h) λy hy=>HP.aq hy
theorem Ib.to{b:Nat}{s:Af}{K:HP}{R h:PH}(H:(Ib b s K).p R h):(HP.an (lr b s) K).p R h:=
 HP.ay (HP.ae H (λ_ h=>h) λx hx=>HP.ay (HP.ae hx (λ_ h=>h) λy hy=>HP.ay hy))
theorem UV:ax Tryz.prog 41 #[] HP.tt (λv=>HP.ex λb:Nat=>HP.ex λs:Af=>HP.and (v=.pointer (some ⟨b,0,none⟩)/\s.nx=0/\s.up= -1/\s.at'= -1/\s.la=0/\s.t.cS=FC/\s.f=λ_=>none) (lr b s)):=by
 refine ah (ρ:=[]) mixed Tryz.func41 KM ?_
 unfold Ny
 refine cg ?_
 refine W7.ak (λ_ _ h=>h) ?_
 rintro v R h ⟨tb,t0,⟨rfl,h0⟩,H⟩
 refine⟨tb,b8 tb t0,rfl,?_,H⟩
 intro m b
 refine .of λR h H=>⟨b,⟨0,tb,t0,m,λ_=>none,-1,-1,0⟩,⟨rfl,rfl,rfl,rfl,rfl,h0,rfl⟩,?_⟩
 exact HP.ae H (λ_ h=>h) λx hx=>HP.ae hx (λ_ h=>h) λy hy=>HP.az (eJ.new pu uJ m hy)
variable {b:Nat}{s:Af}
theorem P7:ax Tryz.prog 203 #[.pointer (some ⟨b,0,none⟩)] (lr b s) (λv=>HP.and (v=.int .i64 s.nx) (lr b s)):=by
 refine ah (ρ:=[.n b,.i s.nx,.n s.tb,.p (b8 s.tb s.t),.n s.am,.p (oL s.am s.f),.i s.up,.i s.at',.i s.la,.a none,.n 0,.n 0,.p HP.tt]) mixed Tryz.func203 Gy ?_
 unfold Gx
 refine cg ?_
 exact .of λR h H=>⟨trivial,H⟩
theorem Ag:ax Tryz.prog 137 #[.pointer (some ⟨b,0,none⟩)] (lr b s) (λv=>HP.and (v=.bool false) (lr b s)):=by
 refine ah (ρ:=[.n b,.i s.nx,.n s.tb,.p (b8 s.tb s.t),.n s.am,.p (oL s.am s.f),.i s.up,.i s.at',.i s.la,.a none,.n 0,.n 0,.p HP.tt]) mixed Tryz.func137 GA ?_
 unfold Gz
 refine cg ?_
 exact .of λR h H=>⟨trivial,H⟩
def uk(f:lj->Option eV)(k:lj)(x:eV):lj->Option eV:=match f k with
 |none=>gU f k (some x)
 |some _=>f
theorem Y4{m:Nat}{f:lj->Option eV}{l:AL lj}{c:Nat}(k:lj):aH Tryz.prog (kU 155 (.map (some m)) (uJ k) true) (aC pu uJ m f l c) (.tuple #[(aG k l).getD aaP,.bool (aG k l).isSome]):=by
 obtain⟨i,hi,hz,_⟩:=UU
 exact gX (c:=c) (l:=l) idK Y2 hi hz k true λR h H=>aC.at H
def UW(f:lj->Option eV)(l:AL lj)(k:lj):Prop:=(f k=none/\aG k l=none)\/∃x da dc na nc,f k=some x/\aG k l=some (oJ x da dc na nc)/\x.data.length<=1000000/\x.aL.length<=1000000
theorem Nz{m:Nat}{f:lj->Option eV}{l:AL lj}{c:Nat}(k:lj){R h:PH}(H:(aC pu uJ m f l c).p R h):UW f l k:=by
 rcases Y3 H k with h|⟨x,da,dc,na,nc,h1,h2,h3,h4,_⟩
 ·exact .inl h
 ·exact .inr ⟨x,da,dc,na,nc,h1,h2,h3,h4⟩
theorem Y5{m:Nat}{f:lj->Option eV}{l:AL lj}{c:Nat}{k:lj}{x:eV}{da:Option Addr}{dc:Nat}{na:Option Addr}{nc:Nat}(hf:f k=some x)(ha:aG k l=some (oJ x da dc na nc)){R h:PH}(H:(aC pu uJ m f l c).p R h):
 (aO da x.data.length x.data).p R h/\(tY na x.aL.length x.aL).p R h:=by
 rcases Y3 H k with⟨h,_⟩|⟨y,iQ,kI,na',nc',h1,h2,_,_,h3,h4⟩
 ·rw[h]at hf;cases hf
 ·rw[h1]at hf;cases hf
  rw[h2]at ha
  have e:=Option.some.inj ha
  unfold oJ at e
  simp only[Value.agg.injEq,Array.mk.injEq,List.cons.injEq,Value.slice.injEq,and_true,true_and]at e
  obtain⟨⟨e1,_⟩,e2,_⟩:=e
  rw[<-e1,<-e2]
  exact⟨h3,h4⟩
theorem ul{S:HP}{a:Option Addr}{n:Nat}{xs:List Value}(h:∀R x,S.p R x->(bb 1 a n xs).p R x):bR S a n xs:=⟨Rd.nU (bR.ro 1 a n xs).rd h,λR x H e=>(bR.ro 1 a n xs).none R x (h R x H) e⟩
def VR(b:Nat)(s:Af)(l:AL lj)(c:Nat)(K:HP):HP:=HP.an (RpC b s) (HP.an (b8 s.tb s.t) (HP.an (aC pu uJ s.am s.f l c) (HP.an HP.tt K)))
theorem VR.back{l:AL lj}{c:Nat}{K:HP}{R h:PH}(H:(VR b s l c K).p R h):(Ib b s K).p R h:=
 HP.ae H (λ_ h=>h) λx hx=>HP.ae hx (λ_ h=>h) λy hy=>HP.ae hy (λ_ h=>⟨l,c,h⟩) λ_ h=>h
theorem ax.rpM{P:Program}{f:FuncId}{args:Array Value}{K:HP}{B:Value->HP}(t:∀l c,ax P f args (VR b s l c K) B):ax P f args (Ib b s K) B:=
 (ax.ex (A:=λl:AL lj=>HP.ex λc:Nat=>VR b s l c K) λl=>ax.ex λc=>t l c).ak (λR h ⟨h1,h2,d,l1,l2,HC,⟨h3,h4,d2,l3,l4,HT,⟨h5,h6,d3,l5,l6,⟨l,c,HA⟩,HK⟩⟩⟩=>⟨l,c,h1,h2,d,l1,l2,HC,h3,h4,d2,l3,l4,HT,h5,h6,d3,l5,l6,HA,HK⟩) λ_ _ _ h=>h
theorem VR.map{l:AL lj}{c:Nat}{K:HP}{R h:PH}(H:(VR b s l c K).p R h):(aC pu uJ s.am s.f l c).p R h:=HP.aj (HP.ai (HP.ai H))
def aei:eV:=⟨0,0,0,0,[],[]⟩
def oM(f:lj->Option eV)(k:lj):eV:=(f k).getD aei
set_option maxHeartbeats 1000000 in
theorem GG(k:lj):ax Tryz.prog 270 #[.pointer (some ⟨b,0,none⟩),uJ k] (lr b s)
 (λv=>HP.ex λda:Option Addr=>HP.ex λdc:Nat=>HP.ex λna:Option Addr=>HP.ex λnc:Nat=>HP.and (v=.tuple #[oJ (oM s.f k) da dc na nc,.bool (s.f k).isSome]) (HP.an (du da (oM s.f k).data.length dc (oM s.f k).data) (HP.an (tX na (oM s.f k).aL.length nc (oM s.f k).aL) (lr b s)))):=by
 refine(ax.rpM (K:=HP.tt) (b:=b) (s:=s) λl c=>?_).ak (λR h H=>Ib.of (HP.az H)) λ_ _ _ h=>h
 have back:∀ {R h},(VR b s l c HP.tt).p R h->(lr b s).p R h:=λH=>HP.aj (Ib.to (VR.back H))
 refine ax.bV (φ:=UW s.f l k) (λR h H=>Nz k (VR.map H)) λhA=>?_
 refine ax.ak (A:=HP.an (RpC b s) (HP.an (b8 s.tb s.t) (HP.an (aC pu uJ s.am s.f l c) HP.tt))) ?_ (λR h H=>HP.ae H (λ_ h=>h) λx hx=>HP.ae hx (λ_ h=>h) λy hy=>HP.ae hy (λ_ h=>h) λ_ _=>trivial) λ_ _ _ h=>h
 have back:∀ {R h},(HP.an (RpC b s) (HP.an (b8 s.tb s.t) (HP.an (aC pu uJ s.am s.f l c) HP.tt))).p R h->(lr b s).p R h:=λH=>HP.ae H (λ_ h=>h) λx hx=>HP.ae hx (λ_ h=>h) λy hy=>HP.ae hy (λ_ h=>⟨l,c,h⟩) λ_ h=>h
 refine ah (ρ:=[.n b,.i s.nx,.n s.tb,.p (b8 s.tb s.t),.n s.am,.p (aC pu uJ s.am s.f l c),.i s.up,.i s.at',.i s.la,.a none,.n 0,.n 0,.p HP.tt,.i k.1,.i k.2.1,.i k.2.2]) mixed Tryz.func270 yw ?_
 unfold xk
 refine cg ?_
 intro _ _
 have np:=Y4 (m:=s.am) (f:=s.f) (l:=l) (c:=c) k
 rcases hA with⟨hf,ha⟩|⟨x,da,dc,na,nc,hf,ha,hd,hn⟩
 ·rw[ha]at np
  refine⟨0,0,0,0,none,0,0,none,0,0,false,np,λ_=>⟨λ_=>.of λR h H=>⟨none,0,none,0,?_,?_⟩,λh=>(by cases h)⟩⟩
  ·unfold oM;rw[hf];rfl
  ·unfold oM;rw[hf]
   exact HP.aM (back H)|>λH=>HP.ae H (λy _=>cp.nil _ _ R y) λy hy=>HP.aM hy|>λH=>HP.ae H (λz _=>cp.nil _ _ R z) λ_ h=>h
 ·rw[ha]at np
  have e:oM s.f k=x:=by unfold oM;rw[hf];rfl
  rw[e]
  refine⟨x.bM,x.kind,x.size,x.d9,da,x.data.length,dc,na,x.aL.length,nc,true,np,λ_=>⟨λh=>absurd rfl h,λ_=>?_⟩⟩
  refine(US _ da x.data.length dc x.data (ul λR h H=>(Y5 hf ha H).1) rfl (by omega)).ak (λ_ _ h=>h) ?_
  rintro v R h ⟨a',c',rfl,H⟩
  refine⟨a',_,c',du a' x.data.length c' x.data,rfl,?_,H⟩
  clear H
  refine(UT _ na x.aL.length nc x.aL (ul λR h H=>(Y5 hf ha H).2) rfl (by omega)).ak (λ_ _ h=>h) ?_
  rintro v R h ⟨a2,c2,rfl,H⟩
  refine⟨a2,_,c2,tX a2 x.aL.length c2 x.aL,rfl,.of λR h H=>⟨a',c',a2,c2,?_,?_⟩,H⟩
  ·rw[hf];rfl
  ·have:=HP.pick [_,_,_,_,_,_] [4,5,0,1,2,3] (by decide) rfl H
   exact HP.ae this (λ_ h=>h) λy hy=>HP.ae hy (λ_ h=>h) λz hz=>back hz
structure mD where
 nx:Int
 T:List Nd
 f:lj->Option eV
 up:Int
 at':Int
def Af.cS(s:Af):mD:=⟨s.nx,s.t.cS,s.f,s.up,s.at'⟩
def NA(p:mD)(k:lj)(c:fh):mD:={p with T:=(W5 p.T c.kind c.path c.bh c.off c.n c.data).1,f:=uk p.f k (W5 p.T c.kind c.path c.bh c.off c.n c.data).2}
def fh.m(x:fh)(a:Option Addr)(c:Nat):uf:=⟨x.kind,x.path,x.bh,x.off,x.n,a,x.data.length,c⟩
def KN(b:Nat)(p:mD)(S:HP)(v:Value):HP:=HP.ex λs':Af=>HP.and (v=.tuple #[]/\s'.cS=p) (Ib b s' S)
end
namespace RX
def fC:=(({aB:=[123,122,116,101,135,24,115,202,147,108,198,176,201,269,207,208,268,203,137,270,105,104,200,103,99,100,182,40,70,69,156,106]}:gA).aB)
def fF:=(({aY:=[(199,[]),(206,[]),(232,[])]}:gA).aY)
def GH:T:=
(.new
(.new
(.call 24 [.s 8] [(8,11)] [.a,.n,.n,.p] (.s 24) [(24,27),(8,11)]
(.call 24 [.s 14] [(14,17)] [.a,.n,.n,.p] (.s 28) [(28,31),(14,17)]
(.ret (.agg [0,1,2,.bool 3,4,5,6,7,.s 24,12,13,.s 28,18,19,20,21]) [(8,11),(14,17),(24,27),(28,31)])))))
theorem GI:tree Tryz.prog {fx:=[109,116,113],aB:=fC,aY:=fF,bz:=true,cx:=true,cf:=[109,116,113]} Tryz.f116 [.agg [0,1,2,.bool 3,4,5,6,7,.s 8,12,13,.s 14,18,19,20,21]] [(8,11),(14,17)] 22=GH:=by kernel_rfl
def rT:T:=
(.new
(.new
(.call 69 [.s 1] [(1,4)] [.a,.n,.n,.p] (.s 7) [(7,10),(1,4)]
(.loop [.i,.p] [.z (.i 0),.p [(7,10)]]
(.br (.lt 11 (.of 8))
(.need (.le (.i 0) 11)
(.need (.is 7)
  (.ld 71 17 (.aW 7 11 1 0) [(7,12)] [.a,.n,.n] (.s 13)
(.call 70 [.s 13] [(7,12)] [.a,.n,.n,.p] (.s 16) [(16,19),(7,12)]
(.op (.store 71 (.tmp 20) (.tmp 19)) 0 [(20,.aW 7 11 1 0),(19,.s 16)] [(7,12),(16,19)] [.p] (.au []) [(7,20)]
  (.rg (.add 11 (.i 1))
(.again 0 [.z (.add 11 (.i 1)),.p [(7,20)]])))))))
(.ret (.agg [0,.s 7]) [(1,4),(7,12)]))))))
theorem uM:tree Tryz.prog {fx:=[109,116,113],hv:=[(0,[.a 7])],aB:=fC,aY:=fF,bz:=true,cx:=true,cf:=[109,116,113]} Tryz.f40 [.agg [0,.s 1]] [(1,4)] 5=rT:=by kernel_rfl
def rU:T:=
(.new
(.new
(.br (.eq 0 9)
(.br (.o2 .seq 1 10)
(.br (.o2 .seq 2 11)
(.br (.eq 3 12)
(.br (.eq 4 13)
(.call 135 [.s 5,.s 14] [(5,8),(14,17)] [.c] (.bool 20) [(5,8),(14,17)]
(.ret (.bool 20) [(5,8),(14,17)]))
(.ret (.bool (.c false)) [(5,8),(14,17)]))
(.ret (.bool (.c false)) [(5,8),(14,17)]))
(.ret (.bool (.c false)) [(5,8),(14,17)]))
(.ret (.bool (.c false)) [(5,8),(14,17)]))
(.ret (.bool (.c false)) [(5,8),(14,17)]))))
theorem uN:tree Tryz.prog {fx:=[109,116,113],aB:=fC,aY:=fF,bz:=true,cx:=true,cf:=[109,116,113]} Tryz.f101 [.agg [0,.str 1,.str 2,3,4,.s 5],.agg [9,.str 10,.str 11,12,13,.s 14]] [(5,8),(14,17)] 18=rU:=by kernel_rfl
def NB:T:=
(.new
(.call 40 [.agg [3,.s 4]] [(4,7)] [.i,.a,.n,.n,.p] (.agg [9,.s 10]) [(10,13),(4,7)]
(.call 41 [] [] [.v,.p] (.val 14) [(14,15)]
(.new
(.new
(.ret (.ptr 17 0) [(4,7),(.b 17,.cells [0,1,2,9,.s 10,.val 14,.k 0,.k 0,.int .i64 (.o2 (.shl .i64) 1 (.i 32)),.bool (.c false),.k 0,.k 0,.k 0,.k 0,.k 0,.k 0,.z,.k 0,.k 0,.z,.fZ,.z,.fZ,.k 0,.map 16,.z,.bool (.c false),.k 0,.k 0,.k 0,.k 0,.k 0,.k 0,.k 0,.z,.z] 118),(10,13),(14,15),(.b 16,.kD)]))))))
theorem KO:tree Tryz.prog {fx:=[109,116,113],aB:=fC,aY:=fF,bz:=true,cx:=true,cf:=[109,116,113]} Tryz.f20 [0,1,2,.agg [3,.s 4]] [(4,7)] 8=NB:=by kernel_rfl
def UX:T:=
(.new
(.ld 4 10 (.ptr 0 9) [(.b 0,1)] [.c] (.bool 12)
(.br 12
(.ret (.k 7) [(.b 0,1),(7,10)])
 (.ld 4 15 (.ptr 0 26) [(.b 0,1)] [.c] (.bool 13)
(.br 13
(.ret (.k 7) [(.b 0,1),(7,10)])
(.call 99 [.agg [2,.str 3,.str 4,5,6,.s 7]] [(7,10)] [.a,.n,.n,.p] (.s 14) [(14,17),(7,10)]
(.call 100 [.s 14] [(14,17)] [.i,.s,.s,.i,.i,.a,.n,.n,.p,.i] (.au [.agg [18,.str 19,.str 20,21,22,.s 23],27]) [(23,26),(14,17)]
(.new
(.br (.not (.eq 27 (.i 0)))
(.ret (.k 1) [(.b 0,1),(7,10)])
(.call 101 [.agg [2,.str 3,.str 4,5,6,.s 7],.agg [18,.str 19,.str 20,21,22,.s 23]] [(7,10),(23,26)] [.c] (.bool 29) [(7,10),(23,26)]
(.br (.not 29)
(.ret (.k 1) [(.b 0,1),(7,10)])
(.call 103 [.agg [2,.str 3,.str 4,5,6,.s 7]] [(7,10)] [.i] 30 [(7,10)]
(.call 102 [.ptr 0 0,.agg [.k 0,.k 0,.k 0,.k 1,.k 0,30,.s 14,.k 0,.k 0,.z,.fZ,.z]] [(.b 0,1),(14,17)] [.p,.p] (.au []) [(.b 0,31),(14,32)]
(.ret (.k 0) [(.b 0,31),(7,10)]))))))))))))))
theorem P8:tree Tryz.prog {fx:=[109,116,113],aB:=fC,aY:=fF,bz:=true,cx:=true,cf:=[109,116,113]} Tryz.f73 [.ptr 0 0,.agg [2,.str 3,.str 4,5,6,.s 7]] [(.b 0,1),(7,10)] 11=UX:=by kernel_rfl
def GJ:T:=
(.ld 4 5 (.ptr 0 9) [(.b 0,1)] [.c] (.bool 2)
(.ret (.bool 2) [(.b 0,1)]))
theorem GK:tree Tryz.prog {fx:=[109,116,113],aB:=fC,aY:=fF,bz:=true,cx:=true,cf:=[109,116,113]} Tryz.f33 [.ptr 0 0] [(.b 0,1)] 2=GJ:=by kernel_rfl
def xl:T:=
(.new
(.new
(.ld 4 9 (.ptr 0 26) [(.b 0,1)] [.c] (.bool 4)
(.br (.not 4)
(.ret (.au [.agg [.k 0,.k 0,.k 0],.agg [.k 0,.k 0,.k 0,.k 0,.z,.z],.bool (.c false)]) [(.b 0,1)])
(.join [.n,.n,.i,.i,.i,.i,.a,.n,.n,.a,.n,.n,.i,.i,.i]
  (.ld 56 16 (.ptr 0 27) [(.b 0,1)] [.i,.i,.i] (.agg [5,6,7])
  (.ld 59 20 (.ptr 0 30) [(.b 0,1)] [.i,.i,.i,.i,.a,.n,.n,.a,.n,.n] (.agg [8,9,10,11,.s 12,.s 15])
  (.all
(.new
(.new
(.again 0 [.n 18,.n 19,.z 8,.z 9,.z 10,.z 11,.a 12,.e (.cQ 13 (.n 0)),.e (.cQ 14 (.n 0)),.a 15,.e (.cQ 16 (.n 0)),.e (.cQ 17 (.n 0)),.z 5,.z 6,.z 7])))
(.new
(.new
(.again 0 [.n 19,.n 18,.z 8,.z 9,.z 10,.z 11,.a 12,.e (.cQ 13 (.n 0)),.e (.cQ 14 (.n 0)),.a 15,.e (.cQ 16 (.n 0)),.e (.cQ 17 (.n 0)),.z 5,.z 6,.z 7]))))))
(.op (.store 4 (.tmp 28) (.const (.bool false))) 0 [(28,.ptr 0 26)] [(.b 0,1)] [.p] (.au []) [(.b 0,20)]
(.op (.store 56 (.tmp 30) (.tmp 25)) 0 [(30,.ptr 0 27),(25,.agg [.k 0,.k 0,.k 0])] [(.b 0,20)] [.p] (.au []) [(.b 0,21)]
(.op (.store 59 (.tmp 32) (.tmp 26)) 0 [(32,.ptr 0 30),(26,.agg [.k 0,.k 0,.k 0,.k 0,.z,.z])] [(.b 0,21)] [.p] (.au []) [(.b 0,22)]
(.ret (.au [.agg [17,18,19],.agg [7,8,9,10,.s 11,.s 14],.bool (.c true)]) [(.b 0,22)])))))))))
theorem yx:tree Tryz.prog {fx:=[109,116,113],aB:=fC,aY:=fF,bz:=true,cx:=true,cf:=[109,116,113],jn:=[((14,5),some {ss:=[.n,.n,.i,.i,.i,.i,.a,.n,.n,.a,.n,.n,.i,.i,.i],n:=20,tv:=[(14,none),(15,none),(16,none),(17,none),(18,none),(19,none),(20,none),(21,none),(5,some (.ptr 5 0)),(6,some (.ptr 6 0))],h:=[(.b 6,.cells [7,8,9,10,.s 11,.s 14] 59),(.b 5,.cells [17,18,19] 56),(.b 3,.cells [.k 0,.k 0,.k 0,.k 0,.z,.z] 59),(.b 2,.cells [.k 0,.k 0,.k 0] 56),(.b 0,1)],lk:=[(11,.b 0),(14,.b 0)]})]} Tryz.f31 [.ptr 0 0] [(.b 0,1)] 2=xl:=by kernel_rfl
def Ah:T:=
(.new
(.ld 3 6 (.ptr 0 6) [(.b 0,1)] [.i] 25
(.rg (.add 25 (.i 1))
(.op (.store 3 (.tmp 10) (.tmp 8)) 0 [(10,.ptr 0 6),(8,.w (.a (.int .i64 (.add 25 (.i 1)))))] [(.b 0,1)] [.p] (.au []) [(.b 0,26)]
(.ld 3 13 (.ptr 0 0) [(.b 0,26)] [.i] 27
(.ld 3 17 (.ptr 0 1) [(.b 0,26)] [.i] 28
(.ld 3 21 (.ptr 0 6) [(.b 0,26)] [.i] 29
(.op (.store 4 (.tmp 29) (.const (.bool true))) 0 [(29,.ptr 0 9)] [(.b 0,26)] [.p] (.au []) [(.b 0,30)]
(.op (.store 115 (.tmp 31) (.tmp 27)) 0 [(31,.ptr 0 10),(27,.agg [27,28,29,5,6,7,.s 8,12,13,.s 14,.val 18,.s 20])] [(.b 0,30),(8,11),(14,17),(18,19),(20,23)] [.p] (.au []) [(.b 0,31),(8,11),(14,17),(18,19),(20,23)]
(.call 110 [.ptr 0 0] [(.b 0,31)] [.p] (.au []) [(.b 0,32)]
(.ret (.au []) [(.b 0,32),(8,11),(14,17),(18,19),(20,23)])))))))))))
theorem Cj:tree Tryz.prog {fx:=[109,116,113,113],aB:=fC,aY:=fF,bz:=true,cx:=true,cf:=[109,116,113]} Tryz.f102 [.ptr 0 0,.agg [2,3,4,5,6,7,.s 8,12,13,.s 14,.val 18,.s 20]] [(.b 0,1),(8,11),(14,17),(18,19),(20,23)] 24=Ah:=by kernel_rfl
def ND:T:=
(.new
(.ld 56 10 (.ptr 0 10) [(.b 0,1)] [.i,.i,.i] (.agg [15,16,17])
(.op (.store 4 (.tmp 14) (.const (.bool true))) 0 [(14,.ptr 0 26)] [(.b 0,1)] [.p] (.au []) [(.b 0,18)]
(.op (.store 56 (.tmp 16) (.tmp 11)) 0 [(16,.ptr 0 27),(11,.agg [15,16,17])] [(.b 0,18)] [.p] (.au []) [(.b 0,19)]
(.op (.store 59 (.tmp 18) (.tmp 12)) 0 [(18,.ptr 0 30),(12,.agg [2,3,4,5,.s 6,.s 10])] [(.b 0,19),(6,9),(10,13)] [.p] (.au []) [(.b 0,20),(6,9),(10,13)]
(.op (.store 4 (.tmp 24) (.const (.bool false))) 0 [(24,.ptr 0 9)] [(.b 0,20)] [.p] (.au []) [(.b 0,21)]
(.op (.store 115 (.tmp 26) (.tmp 22)) 0 [(26,.ptr 0 10),(22,.agg [.k 0,.k 0,.k 0,.k 0,.k 0,.k 0,.z,.k 0,.k 0,.z,.fZ,.z])] [(.b 0,21)] [.p] (.au []) [(.b 0,22)]
(.op (.store 116 (.tmp 28) (.const (.pointer none))) 0 [(28,.ptr 0 22)] [(.b 0,22)] [.p] (.au []) [(.b 0,23)]
(.ld 112 31 (.ptr 0 24) [(.b 0,23)] [.n] (.map 24)
(.op (.call ⟨.builtin .clear,#[.tmp 32],#[112]⟩) 0 [(32,.map 24)] [(.b 0,23)] [.p] (.au []) [(.b 0,25)]
(.op (.store 33 (.tmp 35) (.const (.slice none 0 0))) 0 [(35,.ptr 0 25)] [(.b 0,25)] [.p] (.au []) [(.b 0,26)]
(.ret (.au []) [(.b 0,26),(6,9),(10,13)]))))))))))))
theorem KP:tree Tryz.prog {fx:=[109,116,113],aB:=fC,aY:=fF,bz:=true,cx:=true,cf:=[109,116,113]} Tryz.f142 [.ptr 0 0,.agg [2,3,4,5,.s 6,.s 10]] [(.b 0,1),(6,9),(10,13)] 14=ND:=by kernel_rfl
def GL:T:=
(.call 142 [.ptr 0 0,.agg [.k 30,.k 0,.k 0,.k 0,.z,.z]] [(.b 0,1)] [.p] (.au []) [(.b 0,2)]
(.ret (.au []) [(.b 0,2)]))
theorem GM:tree Tryz.prog {fx:=[109,116,113],aB:=fC,aY:=fF,bz:=true,cx:=true,cf:=[109,116,113]} Tryz.f107 [.ptr 0 0] [(.b 0,1)] 2=GL:=by kernel_rfl
def GN:T:=
(.loop [.p] [.p [(.b 0,1)]]
 (.ld 4 6 (.ptr 0 9) [(.b 0,2)] [.c] (.bool 3)
(.br 3
  (.ld 116 16 (.ptr 0 22) [(.b 0,2)] [.v] (.val 4)
(.read (.binOp .neq 116 (.tmp 17) (.const (.pointer none)) 116) 4 [(17,.val 4)] [(.b 0,2)] [.c] (.bool 5)
(.br 5
(.call 146 [.ptr 0 0] [(.b 0,2)] [.a,.n,.n,.p,.c,.p] (.au [.s 6,.bool 10]) [(6,9),(.b 0,11)]
(.br 10
(.call 151 [.ptr 0 0,.s 6] [(.b 0,11),(6,9)] [.p,.p] (.au []) [(.b 0,12),(6,13)]
(.ret (.au []) [(.b 0,12)]))
(.again 0 [.p [(.b 0,11)]])))
  (.ld 3 28 (.ptr 0 14) [(.b 0,2)] [.i] 6
(.br (.eq 6 (.i 0))
(.call 147 [.ptr 0 0] [(.b 0,2)] [.a,.n,.n,.p] (.s 7) [(7,10),(.b 0,2)]
(.call 151 [.ptr 0 0,.s 7] [(.b 0,2),(7,10)] [.p,.p] (.au []) [(.b 0,11),(7,12)]
(.ret (.au []) [(.b 0,11)])))
  (.ld 3 37 (.ptr 0 14) [(.b 0,2)] [.i] 7
(.br (.eq 7 (.i 1))
(.call 148 [.ptr 0 0] [(.b 0,2)] [.a,.n,.n,.p,.c,.p] (.au [.s 8,.bool 12]) [(8,11),(.b 0,13)]
(.br 12
(.call 151 [.ptr 0 0,.s 8] [(.b 0,13),(8,11)] [.p,.p] (.au []) [(.b 0,14),(8,15)]
(.ret (.au []) [(.b 0,14)]))
(.again 0 [.p [(.b 0,13)]])))
  (.ld 3 49 (.ptr 0 14) [(.b 0,2)] [.i] 8
(.br (.eq 8 (.i 2))
(.call 149 [.ptr 0 0] [(.b 0,2)] [.a,.n,.n,.p,.c,.p] (.au [.s 9,.bool 13]) [(9,12),(.b 0,14)]
(.br 13
(.call 151 [.ptr 0 0,.s 9] [(.b 0,14),(9,12)] [.p,.p] (.au []) [(.b 0,15),(9,16)]
(.ret (.au []) [(.b 0,15)]))
(.again 0 [.p [(.b 0,14)]])))
(.call 150 [.ptr 0 0] [(.b 0,2)] [.a,.n,.n,.p,.c,.p] (.au [.s 9,.bool 13]) [(9,12),(.b 0,14)]
(.br 13
(.call 151 [.ptr 0 0,.s 9] [(.b 0,14),(9,12)] [.p,.p] (.au []) [(.b 0,15),(9,16)]
(.ret (.au []) [(.b 0,15)]))
(.again 0 [.p [(.b 0,14)]]))))))))))))
(.ret (.au []) [(.b 0,2)]))))
theorem GO:tree Tryz.prog {fx:=[109,116,113],hv:=[(0,[.b 0])],aB:=fC,aY:=fF,bz:=true,cx:=true,cf:=[109,116,113]} Tryz.f110 [.ptr 0 0] [(.b 0,1)] 2=GN:=by kernel_rfl
def xm:T:=
(.ld 3 6 (.ptr 0 3) [(.b 0,1)] [.i] 2
(.ld 3 11 (.ptr 0 15) [(.b 0,1)] [.i] 3
(.new
(.ret (.sl (.b 4 0) (.n 1) (.n 1)) [(.b 0,1),(.b 4,.cells [.k 0,.k 7,.k 0,.bool (.c false),.k 8,2,3,.k 0,.z,.k 0,.k 0,.z,.k 0,.k 0,.k 0,.k 0] 48)]))))
theorem yy:tree Tryz.prog {fx:=[109,116,113],aB:=fC,aY:=fF,bz:=true,cx:=true,cf:=[109,116,113]} Tryz.f147 [.ptr 0 0] [(.b 0,1)] 2=xm:=by kernel_rfl
def Ai:T:=
(.new
(.br (.eq 20 (.i 0))
 (.ld 3 23 (.ptr 0 13) [(.b 0,1)] [.i] 25
 (.ld 56 27 (.ptr 0 10) [(.b 0,1)] [.i,.i,.i] (.agg [26,27,28])
 (.ld 3 31 (.ptr 0 15) [(.b 0,1)] [.i] 29
 (.ld 42 37 (.ptr 0 16) [(.b 0,1)] [.a,.n,.n] (.s 30)
(.call 182 [.agg [25,26,27,28,29,23,.s 30]] [(.b 0,1)] [.a,.n,.n,.p,.i] (.au [.s 33,37]) [(33,36),(.b 0,1)]
(.br (.not (.eq 37 (.i 0)))
(.call 107 [.ptr 0 0] [(.b 0,1)] [.p] (.au []) [(.b 0,38)]
(.ret (.au []) [(.b 0,38),(10,13),(16,19)]))
(.join [.p]
  (.all
(.op (.store 3 (.tmp 55) (.const (.int .i64 1))) 0 [(55,.ptr 0 14)] [(.b 0,1)] [.p] (.au []) [(.b 0,38)]
(.op (.store 3 (.tmp 57) (.tmp 51)) 0 [(57,.ptr 0 17),(51,21)] [(.b 0,38)] [.p] (.au []) [(.b 0,39)]
(.op (.store 44 (.tmp 59) (.tmp 53)) 0 [(59,.ptr 0 18),(53,.agg [.k 1,.s 33])] [(.b 0,39),(33,36)] [.p] (.au []) [(.b 0,40),(33,36)]
(.again 0 [.p [(.b 0,40)]]))))
(.op (.store 3 (.tmp 55) (.const (.int .i64 1))) 0 [(55,.ptr 0 14)] [(.b 0,1)] [.p] (.au []) [(.b 0,38)]
  (.all
(.op (.store 3 (.tmp 57) (.tmp 51)) 0 [(57,.ptr 0 17),(51,21)] [(.b 0,38)] [.p] (.au []) [(.b 0,39)]
(.op (.store 44 (.tmp 59) (.tmp 53)) 0 [(59,.ptr 0 18),(53,.agg [.k 1,.s 33])] [(.b 0,39),(33,36)] [.p] (.au []) [(.b 0,40),(33,36)]
(.again 0 [.p [(.b 0,40)]])))
(.op (.store 3 (.tmp 57) (.tmp 51)) 0 [(57,.ptr 0 17),(51,21)] [(.b 0,38)] [.p] (.au []) [(.b 0,39)]
(.op (.store 44 (.tmp 59) (.tmp 53)) 0 [(59,.ptr 0 18),(53,.agg [.k 1,.s 33])] [(.b 0,39),(33,36)] [.p] (.au []) [(.b 0,40),(33,36)]
(.again 0 [.p [(.b 0,40)]]))))))
(.ret (.au []) [(.b 0,38),(10,13),(16,19)]))))))))
(.br (.eq 20 (.i 8))
(.call 181 [.ptr 0 0] [(.b 0,1)] [.p] (.au []) [(.b 0,25)]
(.ret (.au []) [(.b 0,25),(10,13),(16,19)]))
(.call 107 [.ptr 0 0] [(.b 0,1)] [.p] (.au []) [(.b 0,25)]
(.ret (.au []) [(.b 0,25),(10,13),(16,19)])))))
theorem Ck:tree Tryz.prog {fx:=[109,116,113],aB:=fC,aY:=fF,bz:=true,cx:=true,cf:=[109,116,113],jn:=[((47,38),some {ss:=[.p],n:=39,tv:=[(47,none),(48,none),(49,none),(50,none),(51,none),(52,none),(53,none),(54,none),(55,none),(56,none),(57,none),(58,none),(59,none)],h:=[(.b 0,38),(33,36),(.b 24,.cells [2,3,4,.bool 5,6,7,8,9,.s 10,14,15,.s 16,20,21,22,23] 48),(10,13),(16,19)],lk:=[]})]} Tryz.f125 [.ptr 0 0,.agg [2,3,4,.bool 5,6,7,8,9,.s 10,14,15,.s 16,20,21,22,23]] [(.b 0,1),(10,13),(16,19)] 24=Ai:=by kernel_rfl
def xo:T:=
(.ld 113 11 (.ptr 0 20) [(.b 0,1)] [.v] (.val 2)
(.call 268 [.val 2] [(.b 0,1)] [.i,.i,.i,.a,.n,.n,.p,.c] (.au [3,4,.agg [5,.s 6],.bool 10]) [(6,9),(.b 0,1)]
(.new
(.ld 3 23 (.ptr 0 3) [(.b 0,1)] [.i] 12
(.ld 113 28 (.ptr 0 20) [(.b 0,1)] [.v] (.val 13)
(.call 269 [.val 13] [(.b 0,1)] [.i] 14 [(.b 0,1)]
(.new
(.ret (.sl (.b 15 0) (.n 1) (.n 1)) [(.b 0,1),(.b 15,.cells [.k 0,3,.k 0,.bool (.c false),4,12,14,5,.s 6,.k 0,.k 0,.z,.k 0,.k 0,.k 0,.k 0] 48),(6,9)]))))))))
theorem yz:tree Tryz.prog {fx:=[109,116,113],aB:=fC,aY:=fF,bz:=true,cx:=true,cf:=[109,116,113]} Tryz.f202 [.ptr 0 0] [(.b 0,1)] 2=xo:=by kernel_rfl
def pV:T:=
(.ld 113 10 (.ptr 0 20) [(.b 0,1)] [.v] (.val 2)
(.read (.binOp .eql 113 (.tmp 11) (.const (.pointer none)) 113) 4 [(11,.val 2)] [(.b 0,1)] [.c] (.bool 3)
(.join [.p]
(.br 3
  (.ld 3 16 (.ptr 0 17) [(.b 0,1)] [.i] 4
  (.ld 29 20 (.ptr 0 3) [(.b 0,1)] [.i,.a,.n,.n] (.agg [5,.s 6])
  (.ld 3 24 (.ptr 0 17) [(.b 0,1)] [.i] 9
  (.ld 44 29 (.ptr 0 18) [(.b 0,1)] [.i,.a,.n,.n] (.agg [10,.s 11])
(.call 200 [.agg [5,.s 6],9] [(.b 0,1)] [.a,.n,.n,.p] (.s 14) [(14,17),(.b 0,1)]
(.call 199 [4,.s 14,.agg [10,.s 11]] [(14,17),(.b 0,1)] [.v,.p] (.val 18) [(18,19),(14,17),(.b 0,1)]
(.op (.store 113 (.tmp 33) (.tmp 31)) 0 [(33,.ptr 0 20),(31,.val 18)] [(.b 0,1),(18,19)] [.p] (.au []) [(.b 0,20)]
(.again 0 [.p [(.b 0,20)]]))))))))
(.again 0 [.p [(.b 0,1)]]))
(.ld 113 36 (.ptr 0 20) [(.b 0,4)] [.v] (.val 5)
(.call 201 [.val 5] [(.b 0,4)] [.i] 6 [(.b 0,4)]
(.br (.eq 6 (.i 1))
(.call 202 [.ptr 0 0] [(.b 0,4)] [.a,.n,.n,.p] (.s 7) [(7,10),(.b 0,4)]
(.ret (.au [.s 7,.bool (.c true)]) [(.b 0,4),(7,10)]))
(.join [.p]
(.br (.eq 6 (.i 2))
(.op (.store 3 (.tmp 50) (.const (.int .i64 2))) 0 [(50,.ptr 0 14)] [(.b 0,4)] [.p] (.au []) [(.b 0,7)]
(.op (.store 113 (.tmp 52) (.const (.pointer none))) 0 [(52,.ptr 0 20)] [(.b 0,7)] [.p] (.au []) [(.b 0,8)]
(.again 0 [.p [(.b 0,8)]])))
(.join [.p]
(.br (.eq 6 (.i 3))
(.op (.store 3 (.tmp 58) (.const (.int .i64 0))) 0 [(58,.ptr 0 14)] [(.b 0,4)] [.p] (.au []) [(.b 0,7)]
(.op (.store 113 (.tmp 60) (.const (.pointer none))) 0 [(60,.ptr 0 20)] [(.b 0,7)] [.p] (.au []) [(.b 0,8)]
(.again 0 [.p [(.b 0,8)]])))
(.join [.p]
(.br (.eq 6 (.i 5))
(.call 181 [.ptr 0 0] [(.b 0,4)] [.p] (.au []) [(.b 0,7)]
(.again 0 [.p [(.b 0,7)]]))
(.call 107 [.ptr 0 0] [(.b 0,4)] [.p] (.au []) [(.b 0,7)]
(.again 0 [.p [(.b 0,7)]])))
(.again 0 [.p [(.b 0,7)]])))
(.again 0 [.p [(.b 0,7)]])))
(.ret (.au [.z,.bool (.c false)]) [(.b 0,7)]))))))))
theorem ti:tree Tryz.prog {fx:=[109,116,113],aB:=fC,aY:=fF,bz:=true,cx:=true,cf:=[109,116,113],jn:=[((2000012,4),some {ss:=[.p],n:=5,tv:=[(13,none),(14,none),(15,none),(16,none),(17,none),(18,none),(19,none),(20,none),(21,none),(22,none),(23,none),(24,none),(25,none),(26,none),(27,none),(28,none),(29,none),(30,none),(31,none),(32,none),(33,none)],h:=[(.b 0,4)],lk:=[]}),((2000061,7),some {ss:=[.p],n:=8,tv:=[(63,none),(64,none),(39,none),(40,none)],h:=[(.b 0,7)],lk:=[]}),((2000053,7),some {ss:=[.p],n:=8,tv:=[(55,none),(56,none),(57,none),(58,none),(59,none),(60,none),(62,none),(61,none),(63,none),(64,none),(39,none),(40,none)],h:=[(.b 0,7)],lk:=[]}),((2000045,7),some {ss:=[.p],n:=8,tv:=[(47,none),(48,none),(49,none),(50,none),(51,none),(52,none),(54,none),(53,none),(55,none),(56,none),(57,none),(58,none),(59,none),(60,none),(62,none),(61,none),(63,none),(64,none),(39,none),(40,none)],h:=[(.b 0,7)],lk:=[]})]} Tryz.f148 [.ptr 0 0] [(.b 0,1)] 2=pV:=by kernel_rfl
def um:T:=
(.ld 113 12 (.ptr 0 20) [(.b 0,1)] [.v] (.val 2)
(.read (.binOp .eql 113 (.tmp 13) (.const (.pointer none)) 113) 4 [(13,.val 2)] [(.b 0,1)] [.c] (.bool 3)
(.join [.p]
(.br 3
  (.ld 109 17 (.ptr 0 5) [(.b 0,1)] [.v] (.val 4)
(.call 203 [.val 4] [(.b 0,1)] [.i] 5 [(.b 0,1)]
(.join [.c]
  (.ld 3 24 (.ptr 0 17) [(.b 0,1)] [.i] 6
(.br (.lt 6 5)
  (.ld 109 30 (.ptr 0 5) [(.b 0,1)] [.v] (.val 7)
(.call 137 [.val 7] [(.b 0,1)] [.c] (.bool 8) [(.b 0,1)]
(.again 0 [.e (.not (.not (.not 8)))])))
(.again 0 [.e (.not (.not (.c false)))])))
(.br 6
(.call 204 [.ptr 0 0] [(.b 0,1)] [.p] (.au []) [(.b 0,7)]
(.ret (.au [.z,.bool (.c false)]) [(.b 0,7)]))
  (.ld 3 41 (.ptr 0 17) [(.b 0,1)] [.i] 7
(.br (.eq 5 7)
  (.ld 109 46 (.ptr 0 5) [(.b 0,1)] [.v] (.val 8)
  (.ld 44 50 (.ptr 0 18) [(.b 0,1)] [.i,.a,.n,.n] (.agg [9,.s 10])
(.call 205 [.val 8,.agg [9,.s 10]] [(.b 0,1)] [.p] (.au []) [(.b 0,13)]
(.ret (.au [.z,.bool (.c false)]) [(.b 0,13)]))))
  (.ld 29 57 (.ptr 0 3) [(.b 0,1)] [.i,.a,.n,.n] (.agg [8,.s 9])
(.call 200 [.agg [8,.s 9],5] [(.b 0,1)] [.a,.n,.n,.p] (.s 12) [(12,15),(.b 0,1)]
(.call 206 [5,.s 12] [(12,15)] [.v,.p] (.val 16) [(16,17),(12,15)]
(.op (.store 113 (.tmp 63) (.tmp 61)) 0 [(63,.ptr 0 20),(61,.val 16)] [(.b 0,1),(16,17)] [.p] (.au []) [(.b 0,18)]
(.again 0 [.p [(.b 0,18)]])))))))))))
(.again 0 [.p [(.b 0,1)]]))
(.ld 113 66 (.ptr 0 20) [(.b 0,4)] [.v] (.val 5)
(.call 201 [.val 5] [(.b 0,4)] [.i] 6 [(.b 0,4)]
(.br (.eq 6 (.i 1))
(.call 202 [.ptr 0 0] [(.b 0,4)] [.a,.n,.n,.p] (.s 7) [(7,10),(.b 0,4)]
(.ret (.au [.s 7,.bool (.c true)]) [(.b 0,4),(7,10)]))
(.join [.p]
(.br (.eq 6 (.i 2))
  (.ld 109 79 (.ptr 0 5) [(.b 0,4)] [.v] (.val 7)
  (.ld 113 83 (.ptr 0 20) [(.b 0,4)] [.v] (.val 8)
(.call 207 [.val 8] [(.b 0,4)] [.i,.a,.n,.n,.p] (.agg [9,.s 10]) [(10,13),(.b 0,4)]
(.call 205 [.val 7,.agg [9,.s 10]] [(.b 0,4),(10,13)] [.p,.p] (.au []) [(.b 0,14),(10,15)]
(.op (.store 113 (.tmp 89) (.const (.pointer none))) 0 [(89,.ptr 0 20)] [(.b 0,14)] [.p] (.au []) [(.b 0,16)]
(.again 0 [.p [(.b 0,16)]]))))))
(.join [.p]
(.br (.eq 6 (.i 4))
  (.ld 113 94 (.ptr 0 20) [(.b 0,4)] [.v] (.val 7)
(.call 208 [.val 7] [(.b 0,4)] [.i] 8 [(.b 0,4)]
(.join [.c]
  (.ld 109 100 (.ptr 0 5) [(.b 0,4)] [.v] (.val 9)
(.call 203 [.val 9] [(.b 0,4)] [.i] 10 [(.b 0,4)]
(.br (.le 8 10)
(.again 0 [.e (.not (.not (.c true)))])
  (.ld 3 108 (.ptr 0 17) [(.b 0,4)] [.i] 11
(.again 0 [.e (.not (.not (.lt 11 8)))])))))
(.br 9
(.call 107 [.ptr 0 0] [(.b 0,4)] [.p] (.au []) [(.b 0,10)]
(.ret (.au [.z,.bool (.c false)]) [(.b 0,10)]))
  (.ld 109 116 (.ptr 0 5) [(.b 0,4)] [.v] (.val 10)
(.call 209 [.val 10,8] [(.b 0,4)] [.p] (.au []) [(.b 0,11)]
(.op (.store 113 (.tmp 122) (.const (.pointer none))) 0 [(122,.ptr 0 20)] [(.b 0,11)] [.p] (.au []) [(.b 0,12)]
(.again 0 [.p [(.b 0,12)]]))))))))
(.join [.p]
(.br (.eq 6 (.i 5))
(.call 181 [.ptr 0 0] [(.b 0,4)] [.p] (.au []) [(.b 0,7)]
(.again 0 [.p [(.b 0,7)]]))
(.call 107 [.ptr 0 0] [(.b 0,4)] [.p] (.au []) [(.b 0,7)]
(.again 0 [.p [(.b 0,7)]])))
(.again 0 [.p [(.b 0,7)]])))
(.again 0 [.p [(.b 0,7)]])))
(.ret (.au [.z,.bool (.c false)]) [(.b 0,7)]))))))))
theorem xp:tree Tryz.prog {fx:=[109,116,113],aB:=fC,aY:=fF,bz:=true,cx:=true,cf:=[109,116,113],jn:=[((3000021,6),some {ss:=[.c],n:=7,tv:=[(21,none),(22,none),(23,none),(24,none),(25,none),(26,none),(27,none),(28,none),(29,none),(30,none),(31,none),(32,none),(33,none),(34,none),(20,some (.bool 6))],h:=[(.b 0,1)],lk:=[]}),((2000014,4),some {ss:=[.p],n:=5,tv:=[(15,none),(16,none),(17,none),(18,none),(19,none),(5,none),(21,none),(22,none),(23,none),(24,none),(25,none),(26,none),(27,none),(28,none),(29,none),(30,none),(31,none),(32,none),(33,none),(34,none),(20,none),(35,none),(36,none),(2,some .z),(3,some (.bool (.c false))),(38,none),(39,none),(40,none),(41,none),(42,none),(43,none),(37,none),(44,none),(45,none),(46,none),(47,none),(48,none),(49,none),(50,none),(51,none),(52,none),(53,none),(54,none),(55,none),(56,none),(57,none),(58,none),(59,none),(60,none),(61,none),(62,none),(63,none)],h:=[(.b 0,4)],lk:=[]}),((3000097,9),some {ss:=[.c],n:=10,tv:=[(97,none),(98,none),(99,none),(100,none),(101,none),(102,none),(103,none),(104,none),(105,none),(106,none),(107,none),(108,none),(109,none),(110,none),(111,some (.bool 9))],h:=[(.b 0,4)],lk:=[]}),((2000123,7),some {ss:=[.p],n:=8,tv:=[(125,none),(126,none),(69,none),(70,none)],h:=[(.b 0,7)],lk:=[]}),((2000090,7),some {ss:=[.p],n:=8,tv:=[(92,none),(93,none),(94,none),(95,none),(96,none),(6,none),(97,none),(98,none),(99,none),(100,none),(101,none),(102,none),(103,none),(104,none),(105,none),(106,none),(107,none),(108,none),(109,none),(110,none),(111,none),(112,none),(113,none),(2,some .z),(3,some (.bool (.c false))),(114,none),(115,none),(116,none),(117,none),(118,none),(119,none),(120,none),(121,none),(122,none),(124,none),(123,none),(125,none),(126,none),(69,none),(70,none)],h:=[(.b 0,7)],lk:=[]}),((2000075,7),some {ss:=[.p],n:=8,tv:=[(77,none),(78,none),(79,none),(80,none),(81,none),(82,none),(83,none),(84,none),(85,none),(86,none),(87,none),(88,none),(89,none),(91,none),(90,none),(92,none),(93,none),(94,none),(95,none),(96,none),(6,none),(97,none),(98,none),(99,none),(100,none),(101,none),(102,none),(103,none),(104,none),(105,none),(106,none),(107,none),(108,none),(109,none),(110,none),(111,none),(112,none),(113,none),(2,some .z),(3,some (.bool (.c false))),(114,none),(115,none),(116,none),(117,none),(118,none),(119,none),(120,none),(121,none),(122,none),(124,none),(123,none),(125,none),(126,none),(69,none),(70,none)],h:=[(.b 0,7)],lk:=[]})]} Tryz.f149 [.ptr 0 0] [(.b 0,1)] 2=um:=by kernel_rfl
def xq:T:=
(.ld 3 7 (.ptr 0 13) [(.b 0,1)] [.i] 2
(.br (.eq 2 (.i 2))
(.call 142 [.ptr 0 0,.agg [.k 0,.k 0,.k 0,.k 0,.z,.z]] [(.b 0,1)] [.p] (.au []) [(.b 0,3)]
(.ret (.au []) [(.b 0,3)]))
(.join [.n,.c,.i,.i,.i,.i,.a,.n,.n,.a,.n,.n,.p,.p]
  (.ld 109 16 (.ptr 0 5) [(.b 0,1)] [.v] (.val 3)
  (.ld 56 21 (.ptr 0 10) [(.b 0,1)] [.i,.i,.i] (.agg [4,5,6])
  (.all
(.call 270 [.val 3,.agg [4,5,6]] [(.b 0,1)] [.i,.i,.i,.i,.a,.n,.n,.p,.a,.n,.n,.p,.c] (.au [.agg [7,8,9,10,.s 11,.s 15],.bool 19]) [(11,14),(15,18),(.b 0,1)]
(.new
(.again 0 [.n 20,.e (.not (.not 19)),.z 7,.z 8,.z 9,.z 10,.a 11,.e (.cQ 12 (.n 0)),.e (.cQ 13 (.n 0)),.a 15,.e (.cQ 16 (.n 0)),.e (.cQ 17 (.n 0)),.p [(11,14)],.p [(15,18)]])))
(.new
(.call 270 [.val 3,.agg [4,5,6]] [(.b 0,1)] [.i,.i,.i,.i,.a,.n,.n,.p,.a,.n,.n,.p,.c] (.au [.agg [8,9,10,11,.s 12,.s 16],.bool 20]) [(12,15),(16,19),(.b 0,1)]
(.again 0 [.n 7,.e (.not (.not 20)),.z 8,.z 9,.z 10,.z 11,.a 12,.e (.cQ 13 (.n 0)),.e (.cQ 14 (.n 0)),.a 16,.e (.cQ 17 (.n 0)),.e (.cQ 18 (.n 0)),.p [(12,15)],.p [(16,19)]]))))))
(.br (.not 4)
(.call 107 [.ptr 0 0] [(.b 0,1)] [.p] (.au []) [(.b 0,17)]
(.ret (.au []) [(.b 0,17)]))
(.call 142 [.ptr 0 0,.agg [5,6,7,8,.s 9,.s 12]] [(.b 0,1),(9,15),(12,16)] [.p,.p,.p] (.au []) [(.b 0,17),(9,18),(12,19)]
(.ret (.au []) [(.b 0,17)]))))))
theorem yA:tree Tryz.prog {fx:=[109,116,113],aB:=fC,aY:=fF,bz:=true,cx:=true,cf:=[109,116,113],jn:=[((14,3),some {ss:=[.n,.c,.i,.i,.i,.i,.a,.n,.n,.a,.n,.n,.p,.p],n:=17,tv:=[(14,none),(15,none),(16,none),(17,none),(18,none),(19,none),(20,none),(21,none),(22,none),(23,none),(13,none),(24,none),(25,none),(2,some (.ptr 3 0)),(3,some (.bool 4))],h:=[(.b 3,.cells [5,6,7,8,.s 9,.s 12] 59),(9,15),(12,16),(.b 0,1)],lk:=[]})]} Tryz.f204 [.ptr 0 0] [(.b 0,1)] 2=xq:=by kernel_rfl
def GP:T:=
(.ld 112 13 (.ptr 0 24) [(.b 0,1)] [.n] (.map 6)
(.op (.range 112 (.tmp 14)) 0 [(14,.map 6)] [(.b 0,1)] [.n,.p,.p] (.ptr 7 0) [(.b 7,8),(.b 0,9)]
(.loop [.p,.p] [.p [(.b 7,8)],.p [(.b 0,9)]]
(.op (.next (.tmp 15) false) 0 [(15,.ptr 7 0)] [(.b 7,10),(.b 0,11)] [.c,.v,.v,.p] (.nx 12 13 14) [(.b 7,15),(.b 0,11)]
(.br 12
(.read (.entry (.tmp 15)) 0 [(15,.ptr 7 0)] [(.b 7,15),(.b 0,11)] [.i,.i,.i,.i,.c,.i,.i,.i,.i,.a,.n,.n,.i,.i,.a,.n,.n,.i,.i,.i,.i] (.au [16,.agg [17,18,19,.bool 20,21,22,23,24,.s 25,28,29,.s 30,33,34,35,36]])
(.new
(.call 156 [.s 2,.a (.func 210 [(37,0)])] [(2,5),(.b 37,.cells [17,18,19,.bool 20,21,22,23,24,.s 25,28,29,.s 30,33,34,35,36] 48),(.b 0,11)] [.c] (.bool 38) [(2,5),(.b 37,.cells [17,18,19,.bool 20,21,22,23,24,.s 25,28,29,.s 30,33,34,35,36] 48),(.b 0,11)]
(.br (.not 38)
  (.ld 112 28 (.ptr 0 24) [(.b 0,11)] [.n] (.map 39)
(.op (.call ⟨.builtin .delete,#[.tmp 29,.tmp 30],#[112,3]⟩) 0 [(29,.map 39),(30,16)] [(.b 0,11)] [.p] (.au []) [(.b 0,40)]
(.again 0 [.p [(.b 7,15)],.p [(.b 0,40)]])))
(.again 0 [.p [(.b 7,15)],.p [(.b 0,11)]])))))
(.loop [.i,.p] [.z (.i 0),.p [(.b 0,11)]]
(.br (.lt 16 (.of 3))
(.need (.le (.i 0) 16)
(.need (.is 2)
  (.ld 48 35 (.aW 2 16 16 0) [(2,5)] [.i,.i,.i,.c,.i,.i,.i,.i,.a,.n,.n,.i,.i,.a,.n,.n,.i,.i,.i,.i] (.agg [18,19,20,.bool 21,22,23,24,25,.s 26,29,30,.s 31,34,35,36,37])
(.new
  (.ld 112 40 (.ptr 0 24) [(.b 0,17)] [.n] (.map 39)
(.read (.lookup 112 (.tmp 41) (.tmp 43) true) 125 [(41,.map 39),(43,19)] [(.b 0,17)] [.i,.i,.i,.c,.i,.i,.i,.i,.a,.n,.n,.i,.i,.a,.n,.n,.i,.i,.i,.i,.c] (.au [.agg [40,41,42,.bool 43,44,45,46,47,.s 48,51,52,.s 53,56,57,58,59],.bool 60])
(.new
(.br 60
  (.rg (.add 16 (.i 1))
(.again 0 [.z (.add 16 (.i 1)),.p [(.b 0,17)]]))
  (.ld 3 50 (.ptr 0 8) [(.b 0,17)] [.i] 62
  (.rg (.add 62 (.i 1))
(.op (.store 3 (.tmp 54) (.tmp 52)) 0 [(54,.ptr 0 8),(52,.w (.a (.int .i64 (.add 62 (.i 1)))))] [(.b 0,17)] [.p] (.au []) [(.b 0,63)]
  (.ld 3 57 (.ptr 0 0) [(.b 0,63)] [.i] 64
  (.ld 3 61 (.ptr 0 8) [(.b 0,63)] [.i] 65
  (.ld 112 67 (.ptr 0 24) [(.b 0,63)] [.n] (.map 66)
(.call 116 [.agg [64,19,65,.bool 21,22,23,24,25,.s 26,29,30,.s 31,34,35,36,37]] [(2,5)] [.i,.i,.i,.c,.i,.i,.i,.i,.a,.n,.n,.p,.i,.i,.a,.n,.n,.p,.i,.i,.i,.i] (.agg [67,68,69,.bool 70,71,72,73,74,.s 75,79,80,.s 81,85,86,87,88]) [(75,78),(81,84),(2,5)]
(.op (.mapUpdate 112 (.tmp 68) (.tmp 70) (.tmp 72)) 0 [(68,.map 66),(70,19),(72,.agg [67,68,69,.bool 70,71,72,73,74,.s 75,79,80,.s 81,85,86,87,88])] [(.b 0,63),(75,78),(81,84)] [.p] (.au []) [(.b 0,89),(75,78),(81,84)]
  (.ld 33 76 (.ptr 0 25) [(.b 0,89)] [.a,.n,.n] (.s 90)
(.call 116 [.agg [64,19,65,.bool 21,22,23,24,25,.s 26,29,30,.s 31,34,35,36,37]] [(2,5)] [.i,.i,.i,.c,.i,.i,.i,.i,.a,.n,.n,.p,.i,.i,.a,.n,.n,.p,.i,.i,.i,.i] (.agg [93,94,95,.bool 96,97,98,99,100,.s 101,105,106,.s 107,111,112,113,114]) [(101,104),(107,110),(2,5)]
(.new
(.op (.call ⟨.builtin .append,#[.tmp 77,.tmp 80],#[33,33]⟩) 33 [(77,.s 90),(80,.sl (.b 115 0) (.n 1) (.n 1))] [(.b 0,89),(.b 115,.cells [93,94,95,.bool 96,97,98,99,100,.s 101,105,106,.s 107,111,112,113,114] 48),(101,104),(107,110)] [.a,.n,.n,.p,.p] (.s 116) [(116,119),(.b 0,120),(.b 115,.cells [93,94,95,.bool 96,97,98,99,100,.s 101,105,106,.s 107,111,112,113,114] 48),(101,104),(107,110)]
(.op (.store 33 (.tmp 83) (.tmp 81)) 0 [(83,.ptr 0 25),(81,.s 116)] [(.b 0,120),(116,119)] [.p] (.au []) [(.b 0,121)]
  (.rg (.add 16 (.i 1))
(.again 0 [.z (.add 16 (.i 1)),.p [(.b 0,121)]])))))))))))))))))))))))
(.ret (.au []) [(.b 0,17),(2,5)]))))))))
theorem GQ:tree Tryz.prog {fx:=[109,116,113],hv:=[(0,[.b 7,.b 0]),(2,[.b 0])],aB:=fC,aV:=[(18,[3,48])],aY:=fF,bz:=true,cx:=true,cf:=[109,116,113]} Tryz.f151 [.ptr 0 0,.s 2] [(.b 0,1),(2,5)] 6=GP:=by kernel_rfl
def NE:T:=
(.ld 33 6 (.ptr 0 25) [(.b 0,1)] [.a,.n,.n] (.s 2)
(.op (.store 33 (.tmp 10) (.const (.slice none 0 0))) 0 [(10,.ptr 0 25)] [(.b 0,1)] [.p] (.au []) [(.b 0,5)]
(.ret (.s 2) [(.b 0,5)])))
theorem KQ:tree Tryz.prog {fx:=[109,116,113],aB:=fC,aY:=fF,bz:=true,cx:=true,cf:=[109,116,113]} Tryz.f29 [.ptr 0 0] [(.b 0,1)] 2=NE:=by kernel_rfl
def GS:T:=
(.new
(.ld 112 11 (.ptr 0 24) [(.b 0,1)] [.n] (.map 25)
(.read (.lookup 112 (.tmp 12) (.tmp 14) true) 125 [(12,.map 25),(14,2)] [(.b 0,1)] [.i,.i,.i,.c,.i,.i,.i,.i,.a,.n,.n,.i,.i,.a,.n,.n,.i,.i,.i,.i,.c] (.au [.agg [26,27,28,.bool 29,30,31,32,33,.s 34,37,38,.s 39,42,43,44,45],.bool 46])
(.new
(.br (.not 46)
(.ret (.au []) [(.b 0,1),(10,13),(16,19)])
(.call 122 [.agg [26,27,28,.bool 29,30,31,32,33,.s 34,37,38,.s 39,42,43,44,45],.ptr 24 0] [(.b 0,1),(.b 24,.cells [2,3,4,.bool 5,6,7,8,9,.s 10,14,15,.s 16,20,21,22,23] 48),(10,13),(16,19)] [.c] (.bool 48) [(.b 0,1),(.b 24,.cells [2,3,4,.bool 5,6,7,8,9,.s 10,14,15,.s 16,20,21,22,23] 48),(10,13),(16,19)]
(.br (.not 48)
(.ret (.au []) [(.b 0,1),(10,13),(16,19)])
  (.ld 112 28 (.ptr 0 24) [(.b 0,1)] [.n] (.map 49)
(.op (.call ⟨.builtin .delete,#[.tmp 29,.tmp 31],#[112,3]⟩) 0 [(29,.map 49),(31,2)] [(.b 0,1)] [.p] (.au []) [(.b 0,50)]
  (.ld 116 42 (.ptr 0 22) [(.b 0,50)] [.v] (.val 51)
(.read (.binOp .neq 116 (.tmp 43) (.const (.pointer none)) 116) 4 [(43,.val 51)] [(.b 0,50)] [.c] (.bool 52)
(.br 52
  (.ld 116 47 (.ptr 0 22) [(.b 0,50)] [.v] (.val 53)
(.call 124 [.val 53,.agg [2,3,4,.bool 5,6,7,8,9,.s 10,14,15,.s 16,20,21,22,23]] [(.b 0,50),(10,13),(16,19)] [.p,.p,.p] (.au []) [(.b 0,54),(10,55),(16,56)]
(.call 110 [.ptr 0 0] [(.b 0,54)] [.p] (.au []) [(.b 0,57)]
(.ret (.au []) [(.b 0,57),(10,55),(16,56)]))))
  (.ld 3 55 (.ptr 0 14) [(.b 0,50)] [.i] 53
(.br (.eq 53 (.i 0))
(.call 125 [.ptr 0 0,.agg [2,3,4,.bool 5,6,7,8,9,.s 10,14,15,.s 16,20,21,22,23]] [(.b 0,50),(10,13),(16,19)] [.p,.p,.p] (.au []) [(.b 0,54),(10,55),(16,56)]
(.call 110 [.ptr 0 0] [(.b 0,54)] [.p] (.au []) [(.b 0,57)]
(.ret (.au []) [(.b 0,57),(10,55),(16,56)])))
  (.ld 3 65 (.ptr 0 14) [(.b 0,50)] [.i] 54
(.br (.eq 54 (.i 3))
(.call 126 [.ptr 0 0,.agg [2,3,4,.bool 5,6,7,8,9,.s 10,14,15,.s 16,20,21,22,23]] [(.b 0,50),(10,13),(16,19)] [.p,.p,.p] (.au []) [(.b 0,55),(10,56),(16,57)]
(.call 110 [.ptr 0 0] [(.b 0,55)] [.p] (.au []) [(.b 0,58)]
(.ret (.au []) [(.b 0,58),(10,56),(16,57)])))
  (.ld 113 35 (.ptr 0 20) [(.b 0,50)] [.v] (.val 55)
(.call 127 [.val 55,.agg [2,3,4,.bool 5,6,7,8,9,.s 10,14,15,.s 16,20,21,22,23]] [(.b 0,50),(10,13),(16,19)] [.p,.p,.p] (.au []) [(.b 0,56),(10,57),(16,58)]
(.call 110 [.ptr 0 0] [(.b 0,56)] [.p] (.au []) [(.b 0,59)]
(.ret (.au []) [(.b 0,59),(10,57),(16,58)]))))))))))))))))))))
theorem GU:tree Tryz.prog {fx:=[109,116,113],aB:=fC,aY:=fF,bz:=true,cx:=true,cf:=[109,116,113]} Tryz.f82 [.ptr 0 0,.agg [2,3,4,.bool 5,6,7,8,9,.s 10,14,15,.s 16,20,21,22,23]] [(.b 0,1),(10,13),(16,19)] 24=GS:=by kernel_rfl
def my:T:=
(.ld 3 5 (.ptr 0 7) [(.b 0,1)] [.i] 2
(.rg (.add 2 (.i 1))
(.op (.store 3 (.tmp 9) (.tmp 7)) 0 [(9,.ptr 0 7),(7,.w (.a (.int .i64 (.add 2 (.i 1)))))] [(.b 0,1)] [.p] (.au []) [(.b 0,3)]
(.ld 3 12 (.ptr 0 7) [(.b 0,3)] [.i] 4
(.rg (.o2 .mul (.i 64) 4)
(.ld 3 17 (.ptr 0 1) [(.b 0,3)] [.i] 5
(.rg (.o2 .mul (.i 65536) 5)
(.rg (.add (.o2 .mul (.i 64) 4) (.o2 .mul (.i 65536) 5))
(.ld 3 23 (.ptr 0 0) [(.b 0,3)] [.i] 6
(.rg (.add (.add (.o2 .mul (.i 64) 4) (.o2 .mul (.i 65536) 5)) 6)
(.ld 29 30 (.ptr 0 3) [(.b 0,3)] [.i,.a,.n,.n] (.agg [7,.s 8])
(.ld 3 34 (.ptr 0 2) [(.b 0,3)] [.i] 11
(.call 232 [.agg [7,.s 8],11,.a (.int .i64 (.add (.add (.o2 .mul (.i 64) 4) (.o2 .mul (.i 65536) 5)) 6))] [(.b 0,3)] [.v,.p] (.val 12) [(12,13),(.b 0,3)]
(.op (.store 116 (.tmp 39) (.tmp 37)) 0 [(39,.ptr 0 22),(37,.val 12)] [(.b 0,3),(12,13)] [.p] (.au []) [(.b 0,14)]
(.op (.store 3 (.tmp 41) (.const (.int .i64 0))) 0 [(41,.ptr 0 23)] [(.b 0,14)] [.p] (.au []) [(.b 0,15)]
(.ret (.au []) [(.b 0,15)]))))))))))))))))
theorem px:tree Tryz.prog {fx:=[109,116,113],aB:=fC,aY:=fF,bz:=true,cx:=true,cf:=[109,116,113]} Tryz.f181 [.ptr 0 0] [(.b 0,1)] 2=my:=by kernel_rfl
def pW:T:=
(.ld 116 6 (.ptr 0 22) [(.b 0,1)] [.v] (.val 2)
(.call 108 [.val 2] [(.b 0,1)] [.i] 3 [(.b 0,1)]
(.br (.eq 3 (.i 5))
 (.ld 116 15 (.ptr 0 22) [(.b 0,1)] [.v] (.val 4)
(.call 198 [.val 4] [(.b 0,1)] [.i,.a,.n,.n,.p] (.agg [5,.s 6]) [(6,9),(.b 0,1)]
(.op (.store 29 (.tmp 19) (.tmp 17)) 0 [(19,.ptr 0 3),(17,.agg [5,.s 6])] [(.b 0,1),(6,9)] [.p] (.au []) [(.b 0,10),(6,9)]
(.op (.store 116 (.tmp 21) (.const (.pointer none))) 0 [(21,.ptr 0 22)] [(.b 0,10)] [.p] (.au []) [(.b 0,11)]
(.op (.store 113 (.tmp 25) (.const (.pointer none))) 0 [(25,.ptr 0 20)] [(.b 0,11)] [.p] (.au []) [(.b 0,12)]
 (.ld 3 29 (.ptr 0 14) [(.b 0,12)] [.i] 13
(.br (.eq 13 (.i 3))
  (.ld 29 35 (.ptr 0 3) [(.b 0,12)] [.i,.a,.n,.n] (.agg [14,.s 15])
(.call 106 [.agg [14,.s 15]] [(.b 0,12)] [.a,.n,.n,.p] (.s 18) [(18,21),(.b 0,12)]
(.op (.store 71 (.tmp 40) (.tmp 37)) 0 [(40,.ptr 0 21),(37,.s 18)] [(.b 0,12),(18,21)] [.p] (.au []) [(.b 0,22)]
(.ret (.au [.z,.bool (.c false)]) [(.b 0,22)]))))
(.ret (.au [.z,.bool (.c false)]) [(.b 0,12)]))))))))
(.br (.eq 3 (.i 6))
(.call 107 [.ptr 0 0] [(.b 0,1)] [.p] (.au []) [(.b 0,4)]
(.ret (.au [.z,.bool (.c false)]) [(.b 0,4)]))
  (.ld 116 47 (.ptr 0 22) [(.b 0,1)] [.v] (.val 4)
(.call 176 [.val 4] [(.b 0,1)] [.a,.n,.n,.p] (.s 5) [(5,8),(.b 0,1)]
(.ret (.au [.s 5,.bool (.c true)]) [(.b 0,1),(5,8)])))))))
theorem tj:tree Tryz.prog {fx:=[109,116,113],aB:=fC,aY:=fF,bz:=true,cx:=true,cf:=[109,116,113]} Tryz.f146 [.ptr 0 0] [(.b 0,1)] 2=pW:=by kernel_rfl
def Aj:T:=
(.new
(.call 123 [.agg [23,24,25,.bool 26,27,28,29,30,.s 31,35,36,.s 37,41,42,43,44],.agg [0,1,2,.bool 3,4,5,6,7,.s 8,12,13,.s 14,18,19,20,21]] [(31,34),(37,40),(8,11),(14,17)] [.c] (.bool 46) [(31,34),(37,40),(8,11),(14,17)]
(.ret (.bool 46) [(8,11),(14,17),(.b 22,.cells [23,24,25,.bool 26,27,28,29,30,.s 31,35,36,.s 37,41,42,43,44] 48),(31,34),(37,40)])))
theorem Cl:tree Tryz.prog {fx:=[109,116,113],aB:=fC,aY:=fF,bz:=true,cx:=true,cf:=[109,116,113]} Tryz.f122 [.agg [0,1,2,.bool 3,4,5,6,7,.s 8,12,13,.s 14,18,19,20,21],.ptr 22 0] [(8,11),(14,17),(.b 22,.cells [23,24,25,.bool 26,27,28,29,30,.s 31,35,36,.s 37,41,42,43,44] 48),(31,34),(37,40)] 45=Aj:=by kernel_rfl
def Ak:T:=
(.new
(.call 211 [.agg [0,1,2,.bool 3,4,5,6,7,.s 8,12,13,.s 14,18,19,20,21]] [(8,11),(14,17)] [.i,.i,.i,.i,.i,.i,.p,.p] (.agg [46,47,48,49,50,51]) [(8,52),(14,53)]
(.call 211 [.agg [23,24,25,.bool 26,27,28,29,30,.s 31,35,36,.s 37,41,42,43,44]] [(31,34),(37,40)] [.i,.i,.i,.i,.i,.i,.p,.p] (.agg [54,55,56,57,58,59]) [(31,60),(37,61)]
(.read (.binOp .eql 276 (.tmp 5) (.tmp 7) 276) 4 [(5,.agg [46,47,48,49,50,51]),(7,.agg [54,55,56,57,58,59])] [] [.c] (.bool 62)
(.ret (.bool 62) [(8,52),(14,53),(.b 22,.cells [23,24,25,.bool 26,27,28,29,30,.s 31,35,36,.s 37,41,42,43,44] 48),(31,60),(37,61)])))))
theorem Cm:tree Tryz.prog {fx:=[109,116,113],aB:=fC,aY:=fF,bz:=true,cx:=true,cf:=[109,116,113]} Tryz.f210 [.agg [0,1,2,.bool 3,4,5,6,7,.s 8,12,13,.s 14,18,19,20,21],.ptr 22 0] [(8,11),(14,17),(.b 22,.cells [23,24,25,.bool 26,27,28,29,30,.s 31,35,36,.s 37,41,42,43,44] 48),(31,34),(37,40)] 45=Ak:=by kernel_rfl
def Al:T:=
(.new
(.new
(.ret (.agg [1,4,5,6,12,13]) [(8,11),(14,17)])))
theorem Cn:tree Tryz.prog {fx:=[109,116,113],aB:=fC,aY:=fF,bz:=true,cx:=true,cf:=[109,116,113]} Tryz.f211 [.agg [0,1,2,.bool 3,4,5,6,7,.s 8,12,13,.s 14,18,19,20,21]] [(8,11),(14,17)] 22=Al:=by kernel_rfl
def GV:T:=
(.new
(.br (.lt 5 (.i 0))
(.ret .z [(1,4)])
(.call 259 [.agg [0,.s 1]] [(1,4)] [.c] (.bool 7) [(1,4)]
(.br (.not 7)
(.ret .z [(1,4)])
(.need (.not (.eq (.of 2) (.i 0)))
(.need (.le (.i 0) (.o2 .rem 5 (.of 2)))
(.need (.lt (.o2 .rem 5 (.of 2)) (.of 2))
(.need (.is 1)
(.read (.load 71 (.tmp 19)) 71 [(19,.aW 1 (.o2 .rem 5 (.of 2)) 1 0)] [(1,4)] [.a,.n,.n] (.s 8)
(.call 70 [.s 8] [(1,4)] [.a,.n,.n,.p] (.s 11) [(11,14),(1,4)]
(.ret (.s 11) [(1,4),(11,14)])))))))))))
theorem GW:tree Tryz.prog {aB:=[259,70],cx:=true} Tryz.f200 [.agg [0,.s 1],5] [(1,4)] 6=GV:=by kernel_rfl
def Am:T:=
(.new
(.br (.eq 0 (.i 12))
(.ret (.k 0) [(5,8)])
(.call 136 [.str 1] [] [.s,.c] (.au [.str 10,.bool 11]) []
(.br (.not 11)
(.ret (.k 0) [(5,8)])
(.br (.eq 0 (.i 5))
(.call 136 [.str 2] [] [.s,.c] (.au [.str 12,.bool 13]) []
(.br (.not 13)
(.ret (.k 0) [(5,8)])
(.br (.not (.o2 .seq 12 10))
(.ret (.k 0) [(5,8)])
(.op (.convert 9 42 (.tmp 39)) 42 [(39,.str 10)] [] [.a,.n,.n,.p] (.s 14) [(14,17)]
(.call 130 [.s 14] [(14,17)] [.i,.p] (.w (.a (.int .u32 18))) [(14,19)]
  (.rg (.o2 .rem 18 (.i 7))
  (.rg (.add (.i 1) (.o2 .rem 18 (.i 7)))
(.ret (.w (.a (.int .i64 (.add (.i 1) (.o2 .rem 18 (.i 7)))))) [(5,8)]))))))))
(.br (.eq 0 (.i 6))
(.call 136 [.str 2] [] [.s,.c] (.au [.str 12,.bool 13]) []
(.br (.not 13)
(.ret (.k 0) [(5,8)])
(.br (.not (.o2 .seq 12 10))
(.ret (.k 0) [(5,8)])
(.op (.convert 9 42 (.tmp 39)) 42 [(39,.str 10)] [] [.a,.n,.n,.p] (.s 14) [(14,17)]
(.call 130 [.s 14] [(14,17)] [.i,.p] (.w (.a (.int .u32 18))) [(14,19)]
  (.rg (.o2 .rem 18 (.i 7))
  (.rg (.add (.i 1) (.o2 .rem 18 (.i 7)))
(.ret (.w (.a (.int .i64 (.add (.i 1) (.o2 .rem 18 (.i 7)))))) [(5,8)]))))))))
(.op (.convert 9 42 (.tmp 39)) 42 [(39,.str 10)] [] [.a,.n,.n,.p] (.s 12) [(12,15)]
(.call 130 [.s 12] [(12,15)] [.i,.p] (.w (.a (.int .u32 16))) [(12,17)]
  (.rg (.o2 .rem 16 (.i 7))
  (.rg (.add (.i 1) (.o2 .rem 16 (.i 7)))
(.ret (.w (.a (.int .i64 (.add (.i 1) (.o2 .rem 16 (.i 7)))))) [(5,8)])))))))))))
theorem Co:tree Tryz.prog {cx:=true} Tryz.f103 [.agg [0,.str 1,.str 2,3,4,.s 5]] [(5,8)] 9=Am:=by kernel_rfl
def GX:T:=
(.call 188 [.str 0] [] [.a,.n,.n,.p,.i] (.au [.s 1,5]) [(1,4)]
(.br (.not (.eq 5 (.i 0)))
(.ret (.au [.str (.s []),.bool (.c false)]) [])
(.br (.eq (.of 2) (.i 0))
(.ret (.au [.str (.s []),.bool (.c false)]) [])
(.need (.lt (.i 0) (.of 2))
(.need (.is 1)
  (.ld 9 19 (.aW 1 (.i 0) 1 0) [(1,4)] [.s] (.str 6)
(.ret (.au [.str 6,.bool (.c true)]) [])))))))
theorem GY:tree Tryz.prog {cx:=true} Tryz.f136 [.str 0] [] 1=GX:=by kernel_rfl
def An:T:=
(.new
(.new
(.call 87 [.ptr 10 0,.a (.int .u8 (.o1 (.wrap .u8) 0))] [(.b 10,.cells [.z] 168)] [.p] (.au []) [(.b 10,11)]
(.op (.convert 9 42 (.tmp 9)) 42 [(9,.str 1)] [] [.a,.n,.n,.p] (.s 12) [(12,15)]
(.call 90 [.ptr 10 0,.s 12] [(.b 10,11),(12,15)] [.p,.p] (.au []) [(.b 10,16),(12,17)]
(.op (.convert 9 42 (.tmp 13)) 42 [(13,.str 2)] [] [.a,.n,.n,.p] (.s 18) [(18,21)]
(.call 90 [.ptr 10 0,.s 18] [(.b 10,16),(18,21)] [.p,.p] (.au []) [(.b 10,22),(18,23)]
(.call 88 [.ptr 10 0,3] [(.b 10,22)] [.p] (.au []) [(.b 10,24)]
(.call 88 [.ptr 10 0,4] [(.b 10,24)] [.p] (.au []) [(.b 10,25)]
(.call 90 [.ptr 10 0,.s 5] [(.b 10,25),(5,8)] [.p,.p] (.au []) [(.b 10,26),(5,27)]
(.call 92 [.ptr 10 0] [(.b 10,26)] [.a,.n,.n,.p,.p] (.s 28) [(28,31),(.b 10,32)]
(.call 91 [.s 28] [(28,31)] [.a,.n,.n,.p,.p] (.s 33) [(33,36),(28,37)]
(.ret (.s 33) [(5,27),(33,36)])))))))))))))
theorem Cp:tree Tryz.prog {fX:=[168],cx:=true} Tryz.f99 [.agg [0,.str 1,.str 2,3,4,.s 5]] [(5,8)] 9=An:=by kernel_rfl
def Ao:T:=
(.new
(.call 233 [.agg [0,1,2,3,4,5,.s 6]] [(6,9)] [.c] (.bool 11) [(6,9)]
(.br (.not 11)
(.ret (.au [.z,.k 1]) [(6,9)])
(.new
(.call 87 [.ptr 12 0,.a (.int .u8 (.o1 (.wrap .u8) 0))] [(.b 12,.cells [.z] 168)] [.p] (.au []) [(.b 12,13)]
(.call 129 [.ptr 12 0,.a (.int .u64 (.o1 (.wrap .u64) 1)),.k 4] [(.b 12,13)] [.p] (.au []) [(.b 12,14)]
(.call 129 [.ptr 12 0,.a (.int .u64 (.o1 (.wrap .u64) 2)),.k 4] [(.b 12,14)] [.p] (.au []) [(.b 12,15)]
(.call 129 [.ptr 12 0,.a (.int .u64 (.o1 (.wrap .u64) 3)),.k 4] [(.b 12,15)] [.p] (.au []) [(.b 12,16)]
(.call 87 [.ptr 12 0,.a (.int .u8 (.o1 (.wrap .u8) 4))] [(.b 12,16)] [.p] (.au []) [(.b 12,17)]
(.call 88 [.ptr 12 0,5] [(.b 12,17)] [.p] (.au []) [(.b 12,18)]
(.call 90 [.ptr 12 0,.s 6] [(.b 12,18),(6,9)] [.p,.p] (.au []) [(.b 12,19),(6,20)]
(.call 92 [.ptr 12 0] [(.b 12,19)] [.a,.n,.n,.p,.p] (.s 21) [(21,24),(.b 12,25)]
(.call 91 [.s 21] [(21,24)] [.a,.n,.n,.p,.p] (.s 26) [(26,29),(21,30)]
(.ret (.au [.s 26,.k 0]) [(6,20),(26,29)]))))))))))))))
theorem Cq:tree Tryz.prog {fX:=[168],aB:=[233],cx:=true} Tryz.f182 [.agg [0,1,2,3,4,5,.s 6]] [(6,9)] 10=Ao:=by kernel_rfl
end RX
section
open RX
theorem rV{p:rf}{k:Int}:(cP p k).length<=7:=by
 unfold cP
 split
 ·exact Nat.zero_le _
 ·rename_i h
  have hr:cH p=true:=by
   cases h2:cH p with
   |true=>rfl
   |false=>exact absurd (.inr h2) h
  rcases Nat.lt_or_ge (k%(p.ch.length:Int)).toNat p.ch.length with h2|h2
  ·rw[List.getD_eq_getElem?_getD,List.getElem?_eq_getElem h2]
   exact((qo hr).chain (List.getElem_mem h2)).2.2
  ·rw[List.getD_eq_getElem?_getD,List.getElem?_eq_none h2];exact Nat.zero_le _
theorem Ap(S:HP)(ep:Int)(a:Option Addr)(n c:Nat)(es:List iZ)(k:Int)(hS:∀R h,S.p R h->(Ls fu a n es).p R h)(hb:n<=1000000000/\∀x∈es,x.l.length<=1000000000):
 ax Tryz.prog 200 #[.agg #[.int .i64 ep,.slice a n c],.int .i64 k] S (λv=>HP.ex λa'=>HP.ex λc'=>HP.and (v=.slice a' (cP ⟨ep,es.map (·.l)⟩ k).length c') (HP.an (pp a' (cP ⟨ep,es.map (·.l)⟩ k).length (cP ⟨ep,es.map (·.l)⟩ k)) S)):=by
 refine ax.bV (φ:=es.length=n/\(n≠0->a.isSome=true)) (λR h H=>⟨(hS R h H).1,λhn=>Ls.isSome (hS R h H) hn⟩) λ⟨hl,ha⟩=>?_
 refine ah (ρ:=[.i ep,.a a,.n n,.n c,.p S,.i k]) mixed Tryz.func200 GW ?_
 unfold GV
 refine cg ?_
 have cz:(k<0\/cH ⟨ep,es.map (·.l)⟩=false)->HP.aV S (HP.ex λa'=>HP.ex λc'=>HP.and (Value.slice none 0 0=.slice a' (cP ⟨ep,es.map (·.l)⟩ k).length c') (HP.an (pp a' (cP ⟨ep,es.map (·.l)⟩ k).length (cP ⟨ep,es.map (·.l)⟩ k)) S)):=λh=>.of λR x H=>by
  have e:cP ⟨ep,es.map (·.l)⟩ k=[]:=if_pos h
  rw[e]
  exact⟨none,0,rfl,bb.join (bb.nil 1 none R x) H⟩
 intro _
 refine⟨λh=>cz (.inl h),λh0=>?_⟩
 refine gC (g:=.bool) _ (ri S ep a n c es hS hb.2) ⟨λh=>cz (.inr (by simpa using h)),λhr=>?_⟩
 have hr:cH ⟨ep,es.map (·.l)⟩=true:=hr
 have h1:1<=(es.map (·.l)).length:=(qo hr).adb
 rw[List.length_map]at h1
 have e0:k.tmod (n:Int)=k%(n:Int):=Int.tmod_eq_emod_of_nonneg (by omega)
 have q0:=Int.emod_nonneg k (show(n:Int)≠0 by omega)
 have q1:=Int.emod_lt_of_pos k (show(0:Int)<n by omega)
 rw[e0]
 refine⟨by omega,λ_=>⟨q0,λ_=>⟨q1,λ_=>⟨ha (by omega),λ_=>?_⟩⟩⟩⟩
 obtain⟨j,hj⟩:∃j:Nat,k%(n:Int)=j:=⟨_,(Int.toNat_of_nonneg q0).symm⟩
 rw[hj]at q0 q1⊢
 obtain⟨x,hx⟩:∃x,es[j]? =some x:=⟨_,List.getElem?_eq_getElem (show j<es.length by omega)⟩
 have e:cP ⟨ep,es.map (·.l)⟩ k=x.l:=by
  unfold cP
  rw[if_neg (by rintro(h|h);exact h0 h;rw[hr]at h;cases h)]
  show(es.map (·.l)).getD (k%((es.map (·.l)).length:Int)).toNat []=x.l
  rw[List.length_map,hl,hj,Int.toNat_natCast,List.getD_eq_getElem?_getD,List.getElem?_map,hx];rfl
 rw[e]
 refine⟨x.a,x.l.length,x.c,ldC hS hx,?_⟩
 refine(qm S x.a x.l.length x.c x.l (ul λR h H=>Ls.mem (hS R h H) (List.mem_of_getElem? hx)) rfl (hb.2 x (List.mem_of_getElem? hx))).ak (λ_ _ h=>h) ?_
 rintro v R h ⟨a',c',rfl,H⟩
 exact⟨a',_,c',pp a' x.l.length x.l,rfl,.of λR h H=>⟨a',c',rfl,HP.ao H⟩,H⟩
theorem Aq(s:Nm)(hs:s.length<=1000000):ax Tryz.prog 136 #[sE s] HP.tt (λv=>HP.pure (v=.tuple #[sE ((rL s).getD []),.bool (rL s).isSome])):=by
 refine ah (ρ:=[.s s]) mixed Tryz.func136 GY ?_
 unfold GX
 refine cg ?_
 refine(sW s).ak (λ_ _ h=>h) ?_
 rintro v R h ⟨a,c,rfl,H⟩
 refine⟨a,_,c,tX a ((bN s).getD []).length c ((bN s).getD []),_,rfl,⟨λh1=>?_,λh1=>?_⟩,H⟩
 ·cases e:bN s with
  |some l=>rw[e]at h1;exact absurd rfl h1
  |none=>exact .of λR h _=>by simp[rL,e,HP.pure,sE]
 ·cases e:bN s with
  |none=>rw[e]at h1;exact absurd h1 (by decide)
  |some l=>
   cases l with
   |nil=>exact⟨λ_=>.of λR h _=>by simp[rL,e,HP.pure,sE],λh=>absurd rfl h⟩
   |cons x r=>
    rw[e]at H
    have ha:=cp.some H (show 0<((some (x::r)).getD ([]:List (List UInt8))).length by simp)
    refine⟨λh=>absurd h (by simp;omega),λ_=>⟨by simp,λ_=>⟨ha,λ_=>⟨x,ry (bR.ow _ _ _ _ _ _).rd (k:=0) rfl,.of λR h _=>by simp[rL,e,HP.pure,sE]⟩⟩⟩⟩
theorem UY{s x:Nm}(h:rL s=some x):x.length<=16:=by
 unfold rL at h
 split at h
 ·rename_i y l e
  cases h
  have:=(jj e).2 x (by simp)
  unfold cV at this
  simp at this
  omega
 ·cases h
theorem tm7(n:Nat):((n:Nat):Int).tmod 7=((n%7:Nat):Int):=by rw[Int.tmod_eq_emod_of_nonneg (by omega)];omega
theorem KR(x:fh)(a:Option Addr)(c:Nat)(S:HP)(hb:x.path.length<=1000000/\x.bh.length<=1000000):ax Tryz.prog 103 #[x.val a c] S (λv=>HP.and (v=.int .i64 (fT x)) S):=by
 refine ah (ρ:=[.i x.kind,.s x.path,.s x.bh,.i x.off,.i x.n,.a a,.n x.data.length,.n c,.p S]) mixed Tryz.func103 Co ?_
 unfold Am
 simp only[T.den,E.prop,E.den,RX.look,F1.app,F2.app,aP.dH,aP.dP,aP.cr,aP.eQ,aP.e9,aP.fw,aP.ju,bg,dB,V.den,W.den,A.den,BR.den,SA.den,FV.den,iX,nF,nK,fj,g5.app,List.map_cons,List.map_nil,List.cons_append,List.nil_append,List.drop_succ_cons,List.drop_zero,List.length_cons,List.length_nil,Nat.zero_add,Nat.reduceAdd,Int.neg_neg,Bool.not_not,List.append_nil,Nat.add_zero,List.getElem?_cons_zero,List.getElem?_cons_succ,Decidable.not_not,cu,ne_eq,Nat.reduceEqDiff,not_false_eq_true,FD]
 intro _
 have h0:∀e:fT x=0,HP.aV S (HP.and (Value.int .i64 0=.int .i64 (fT x)) S):=λe=>.of λR h H=>⟨by rw[e],H⟩
 refine⟨λh=>h0 (if_pos h),λhk=>?_⟩
 refine(Aq x.path hb.1).ak (λ_ _ h=>h) ?_
 rintro v R h rfl
 refine⟨_,_,rfl,?_,trivial⟩
 cases e:rL x.path with
 |none=>exact⟨λ_=>h0 (by unfold fT;rw[if_neg hk,e]),λh=>absurd (show(false:Bool)=true from h) (by decide)⟩
 |some m=>
  have hm:=UY e
  have sS:¬((x.kind=5\/x.kind=6)/\rL x.bh≠some m)->fT x=1+((n5 m%7:Nat):Int):=λh=>by unfold fT;rw[if_neg hk,e];exact if_neg h
  have s0:(x.kind=5\/x.kind=6)->rL x.bh≠some m->fT x=0:=λh h2=>by unfold fT;rw[if_neg hk,e];exact if_pos ⟨h,h2⟩
  have oth:=Aq x.bh hb.2
  refine⟨λh=>absurd rfl h,λ_=>⟨λh5=>?_,λh5=>⟨λh6=>?_,λh6=>(λhS:fT x=1+((n5 m%7:Nat):Int)=>?_) (sS λh=>h.1.elim h5 h6)⟩⟩⟩
  ·refine oth.ak (λ_ _ h=>h) ?_
   rintro v R h rfl
   refine⟨_,_,rfl,⟨λh1=>h0 (s0 (.inl h5) λe2=>by rw[e2]at h1;exact h1 rfl),λh1=>⟨λh2=>h0 (s0 (.inl h5) λe2=>by rw[e2]at h2;exact h2 rfl),λh2=>(λhS:fT x=1+((n5 m%7:Nat):Int)=>?_) (sS λh=>h.2 ?_)⟩⟩,trivial⟩
   rotate_left
   ·cases e2:rL x.bh with
    |none=>rw[e2]at h1;exact absurd h1 (by decide)
    |some m2=>rw[e2]at h2;exact congrArg some h2
   refine(rD m HP.tt).ak (λ_ _ h=>h) ?_
   rintro v R h ⟨y,d,⟨rfl,hd⟩,H⟩
   refine⟨some ⟨y,0,none⟩,_,d,aO (some ⟨y,0,none⟩) m.length m,rfl,?_,HP.aj H⟩
   refine(wd _ _ d m _ (bR.ro _ _ _ _) rfl (λ_=>rfl) (by omega)).ak (λ_ _ h=>h) ?_
   rintro v R h ⟨rfl,H⟩
   have hq:=tm7 (n5 m)
   refine⟨_,_,rfl,⟨aK _ (by omega) (by omega),λ_=>⟨aK _ (by omega) (by omega),λ_=>.of λR h H=>⟨by rw[hS,hq],H⟩⟩⟩,H⟩
  ·refine oth.ak (λ_ _ h=>h) ?_
   rintro v R h rfl
   refine⟨_,_,rfl,⟨λh1=>h0 (s0 (.inr h6) λe2=>by rw[e2]at h1;exact h1 rfl),λh1=>⟨λh2=>h0 (s0 (.inr h6) λe2=>by rw[e2]at h2;exact h2 rfl),λh2=>(λhS:fT x=1+((n5 m%7:Nat):Int)=>?_) (sS λh=>h.2 ?_)⟩⟩,trivial⟩
   rotate_left
   ·cases e2:rL x.bh with
    |none=>rw[e2]at h1;exact absurd h1 (by decide)
    |some m2=>rw[e2]at h2;exact congrArg some h2
   refine(rD m HP.tt).ak (λ_ _ h=>h) ?_
   rintro v R h ⟨y,d,⟨rfl,hd⟩,H⟩
   refine⟨some ⟨y,0,none⟩,_,d,aO (some ⟨y,0,none⟩) m.length m,rfl,?_,HP.aj H⟩
   refine(wd _ _ d m _ (bR.ro _ _ _ _) rfl (λ_=>rfl) (by omega)).ak (λ_ _ h=>h) ?_
   rintro v R h ⟨rfl,H⟩
   have hq:=tm7 (n5 m)
   refine⟨_,_,rfl,⟨aK _ (by omega) (by omega),λ_=>⟨aK _ (by omega) (by omega),λ_=>.of λR h H=>⟨by rw[hS,hq],H⟩⟩⟩,H⟩
  ·refine(rD m HP.tt).ak (λ_ _ h=>h) ?_
   rintro v R h ⟨y,d,⟨rfl,hd⟩,H⟩
   refine⟨some ⟨y,0,none⟩,_,d,aO (some ⟨y,0,none⟩) m.length m,rfl,?_,HP.aj H⟩
   refine(wd _ _ d m _ (bR.ro _ _ _ _) rfl (λ_=>rfl) (by omega)).ak (λ_ _ h=>h) ?_
   rintro v R h ⟨rfl,H⟩
   have hq:=tm7 (n5 m)
   refine⟨_,_,rfl,⟨aK _ (by omega) (by omega),λ_=>⟨aK _ (by omega) (by omega),λ_=>.of λR h H=>⟨by rw[hS,hq],H⟩⟩⟩,H⟩
theorem wB{b:Nat}{l:List UInt8}(v:Int)(hb:l.length<=10000000):ax Tryz.prog 87 #[.pointer (some ⟨b,0,none⟩),.int .u8 (IntKind.u8.wrap v)] (cA b l) (λv=>HP.and (v=.tuple #[]) (cA b (l++[nz ‹Int›]))):=by
 rw[<-zH];exact km b l _ (by omega)
theorem wBs{b:Nat}{l:List UInt8}(a:Option Addr)(c:Nat)(q:List UInt8)(S:HP)(hr:bR S a q.length (q.map fH))(ha:q.length≠0->a.isSome=true)(hb:l.length+q.length<=10000000):ax Tryz.prog 90 #[.pointer (some ⟨b,0,none⟩),.slice a q.length c] (HP.an (cA b l) S) (λv=>HP.and (v=.tuple #[]) (HP.an (cA b (l++oD q)) S)):=by
 have:=o3 b l a q.length c q S hr rfl ha (by omega)
 rw[List.append_assoc]at this
 exact this
theorem wN{b:Nat}{l:List UInt8}(v:Int)(hb:l.length<=10000000):ax Tryz.prog 129 #[.pointer (some ⟨b,0,none⟩),.int .u64 (IntKind.u64.wrap v),.int .i64 4] (cA b l) (λv=>HP.and (v=.tuple #[]) (cA b (l++gw (dO ‹Int›) 4))):=by
 rw[<-wT];exact gb b l (dO v) 4 (by omega) (by omega)
theorem wI{b:Nat}{l:List UInt8}(v:Int)(hb:l.length<=10000000):ax Tryz.prog 88 #[.pointer (some ⟨b,0,none⟩),.int .i64 v] (cA b l) (λv=>HP.and (v=.tuple #[]) (cA b (l++gw (dO ‹Int›) 8))):=MV b l v (by omega)
theorem cA.new{b:Nat}{R h:PH}(H:(HP.one b (.cells #[.slice none 0 0] 168 (0,0))).p R h):(cA b []).p R h:=⟨none,0,HP.ae (HP.az H) (λ_ h=>h) λy _=>cp.nil _ _ R y⟩
theorem iS(q:List UInt8):(oD q).length=q.length+4:=by unfold oD;rw[List.length_append,bZ];omega
theorem Y6(a:Option Addr)(c:Nat)(l:List UInt8)(hl:l.length<=100000000):ax Tryz.prog 91 #[.slice a l.length c] (du a l.length c l) (λv=>HP.ex λa'=>HP.ex λc'=>HP.and (v=.slice a' (nr l).length c'/\(nr l).length<=c') (HP.an (aO a' (nr l).length (nr l)) (du a l.length c l))):=by
 refine ax.bV (φ:=l.length≠0->a.isSome=true) (λR h H hn=>cp.some H (by omega)) λha=>?_
 refine(Bn a l.length c l _ (bR.ow _ _ _ _ _ _) rfl ha (by omega)).post λv=>λR h d ⟨a',c',e,H⟩=>?_
 have hc:=cp.le (HP.ai H)
 obtain⟨R1,h1,q1,q2,q3,q4,H1⟩:=(HP.aV.an (cp.ez _ _ _ _ _ _) (du a l.length c l)) R h d (HP.ao H)
 exact⟨R1,h1,q1,q2,q3,q4,a',c',⟨e,hc⟩,H1⟩
set_option maxHeartbeats 1000000 in
theorem KS(x:fh)(a:Option Addr)(c:Nat)(S:HP)(hr:bR S a x.data.length (x.data.map fH))(ha:x.data.length≠0->a.isSome=true)(hb:x.path.length<=1000000/\x.bh.length<=1000000/\x.data.length<=1000000):
 ax Tryz.prog 99 #[x.val a c] S (λv=>HP.ex λa'=>HP.ex λc'=>HP.and (v=.slice a' (i7 x).length c'/\(i7 x).length<=c') (HP.an (aO a' (i7 x).length (i7 x)) S)):=by
 refine ah (ρ:=[.i x.kind,.s x.path,.s x.bh,.i x.off,.i x.n,.a a,.n x.data.length,.n c,.p S]) mixed Tryz.func99 Cp ?_
 unfold An
 simp only[T.den,E.prop,E.den,RX.look,F1.app,F2.app,aP.dH,aP.dP,aP.cr,aP.eQ,aP.e9,aP.fw,aP.ju,bg,dB,V.den,W.den,A.den,BR.den,SA.den,FV.den,iX,nF,nK,fj,g5.app,List.map_cons,List.map_nil,List.cons_append,List.nil_append,List.drop_succ_cons,List.drop_zero,List.length_cons,List.length_nil,Nat.zero_add,Nat.reduceAdd,Int.neg_neg,Bool.not_not,List.append_nil,Nat.add_zero,List.getElem?_cons_zero,List.getElem?_cons_succ,Decidable.not_not,cu,ne_eq,Nat.reduceEqDiff,not_false_eq_true,FD]
 intro _ b
 refine cG ((wB x.kind (by simp)).ak (λR h H=>cA.new H) λ_ _ _ h=>h) ?_
 refine(rD x.path HP.tt).ak (λ_ _ h=>h) ?_
 rintro v R h ⟨y,d,⟨rfl,hd⟩,H⟩
 refine⟨some ⟨y,0,none⟩,_,d,_,rfl,m0 (wBs _ d x.path _ (bR.ro _ _ _ _) (λ_=>rfl) (by simp;omega)) ?_,HP.aj H⟩
 clear H
 refine(rD x.bh HP.tt).ak (λ_ _ h=>h) ?_
 rintro v R h ⟨y2,d2,⟨rfl,hd2⟩,H⟩
 refine⟨some ⟨y2,0,none⟩,_,d2,_,rfl,m0 (wBs _ d2 x.bh _ (bR.ro _ _ _ _) (λ_=>rfl) (by simp[iS];omega)) ?_,HP.aj H⟩
 clear H
 refine cG (wI x.off (by simp[iS];omega)) (cG (wI x.n (by simp[iS,bZ];omega)) ?_)
 refine m0 (wBs a c x.data S hr ha (by simp[iS,bZ];omega)) ?_
 have e:[]++[nz x.kind]++oD x.path++oD x.bh++gw (dO x.off) 8++gw (dO x.n) 8++oD x.data=[nz x.kind]++oD x.path++oD x.bh++gw (dO x.off) 8++gw (dO x.n) 8++oD x.data:=by rw[List.nil_append]
 rw[e]
 have hl:([nz x.kind]++oD x.path++oD x.bh++gw (dO x.off) 8++gw (dO x.n) 8++oD x.data).length<=100000000:=by simp[iS,bZ];omega
 refine(iF b _ (by omega)).ak (λ_ _ h=>h) ?_
 rintro v R h ⟨a1,c1,rfl,H⟩
 refine⟨a1,_,c1,_,_,rfl,?_,HP.ao H⟩
 refine(Y6 a1 c1 _ hl).ak (λ_ _ h=>h) ?_
 rintro v R h ⟨a2,c2,⟨rfl,Oj⟩,H⟩
 exact⟨a2,_,c2,_,_,rfl,.of λR h H=>⟨a2,c2,⟨rfl,Oj⟩,HP.ao H⟩,H⟩
set_option maxHeartbeats 1000000 in
theorem KT(x:yv)(a:Option Addr)(c:Nat)(S:HP)(hr:bR S a x.pl.length (x.pl.map fH))(ha:x.pl.length≠0->a.isSome=true):
 ax Tryz.prog 182 #[x.val a c] S (λv=>HP.ex λa'=>HP.ex λn'=>HP.ex λc'=>HP.ex λP=>HP.and (v=.tuple #[.slice a' n' c',.int .i64 (if dU x=true then 0 else 1)]/\(dU x=true->n'=(xh x).length/\n'<=c'/\∀R h,P.p R h->(aO a' (xh x).length (xh x)).p R h)) (HP.an P S)):=by
 refine ah (ρ:=[.i x.kind,.i x.cl,.i x.bi,.i x.nu,.i x.st,.i x.bk,.a a,.n x.pl.length,.n c,.p S]) mixed Tryz.func182 Cq ?_
 unfold Ao
 refine cg ?_
 intro _
 refine gC (g:=.bool) _ (Ab x a c S) ⟨λh=>.of λR y H=>⟨none,0,0,HP.tt,⟨by rw[if_neg h],λh2=>absurd h2 h⟩,HP.aM H⟩,λhok b=>?_⟩
 rw[if_pos hok]
 have hp:x.pl.length<=65506:=by
  unfold dU at hok
  simp only[Bool.and_eq_true,decide_eq_true_eq]at hok
  exact hok.2
 refine cG ((wB x.kind (by simp)).ak (λR h H=>cA.new H) λ_ _ _ h=>h) ?_
 refine cG (wN x.cl (by simp)) (cG (wN x.bi (by simp[bZ])) (cG (wN x.nu (by simp[bZ])) (cG (wB x.st (by simp[bZ])) (cG (wI x.bk (by simp[bZ])) ?_))))
 refine m0 (wBs a c x.pl S hr ha (by simp[iS,bZ];omega)) ?_
 rw[List.nil_append]
 have hl:([nz x.kind]++gw (dO x.cl) 4++gw (dO x.bi) 4++gw (dO x.nu) 4++[nz x.st]++gw (dO x.bk) 8++oD x.pl).length<=100000000:=by simp[iS,bZ];omega
 refine(iF b _ (by omega)).ak (λ_ _ h=>h) ?_
 rintro v R h ⟨a1,c1,rfl,H⟩
 refine⟨a1,_,c1,_,_,rfl,?_,HP.ao H⟩
 refine(Y6 a1 c1 _ hl).ak (λ_ _ h=>h) ?_
 rintro v R h ⟨a2,c2,⟨rfl,hc⟩,H⟩
 exact⟨a2,_,c2,_,_,rfl,.of λR h H=>⟨a2,_,c2,_,⟨rfl,λ_=>⟨rfl,hc,λ_ _ h=>h⟩⟩,HP.ao H⟩,H⟩
def okC(L:List (Int×BA)):Int:=((L.filter λx=>x.2.ok).length:Int)
structure PI(u:Int)(k:Nat)(s:j8):Prop where
 acc:s.acc=u
 ph:s.bX=1\/s.bX=2
 nd:(s.aQ.map (·.1)).Nodup
 rg:∀f∈s.aQ.map (·.1),0<=f/\f<u
 ag:s.cj=okC s.aQ
 no:zu s.acc s.cj=false
 may:zu s.acc (s.acc - (s.aQ.length - s.cj))=true
 av:∀x∈s.aQ,x.2.val.length<=1000
 vl:s.val.length<=1000
 rn:0<=s.iA/\s.iA<=1+k
section
variable (b:Nat)(g:bY)
theorem Qa:ax Tryz.prog 108 #[.pointer (some ⟨b,0,none⟩)] (gM b g) (λv=>HP.and (v=.int .i64 g.st) (gM b g)):=
 ax.ex λ_=>(OS).ak (λ_ _ h=>h) λ_ _ _ ⟨e,H⟩=>⟨e,_,H⟩
theorem UZ:ax Tryz.prog 198 #[.pointer (some ⟨b,0,none⟩)] (gM b g) (λv=>HP.ex λa=>HP.ex λc=>HP.ex λes:List iZ=>HP.and (v=.agg #[.int .i64 g.bt.ep,.slice a es.length c]/\es.map (·.l)=g.bt.ch) (HP.an (Ls fu a es.length es) (gM b g))):=
 ax.ex λ_=>(UI).ak (λ_ _ h=>h) λ_ _ _ ⟨a,c,es,e,H⟩=>⟨a,c,es,e,HP.ae H (λ_ h=>h) λ_ h=>⟨_,h⟩⟩
theorem U0(m:MS)(ca:Option Addr)(cc:Nat)(va:Option Addr)(vc:Nat)(hs:Nt g)(hmv:m.val.length<=100000000)(D:HP):
 ax Tryz.prog 124 #[.pointer (some ⟨b,0,none⟩),.agg (m.cF ca cc va vc).aA] (HP.an (gM b g) (HP.an D (m.bj va))) (λv=>HP.ex λg'=>HP.and (v=.tuple #[]/\mr g m g') (gM b g')):=
 (ax.ex (A:=λr=>HP.an (aF b g r) (HP.an D (m.bj va))) λ_=>UH m ca cc va vc hs hmv D).ak (λ_ _ ⟨h1,h2,d,l1,l2,⟨r,H1⟩,H2⟩=>⟨r,h1,h2,d,l1,l2,H1,H2⟩) λ_ _ _ h=>h
end
end
end Go.Proofs.YtbkifafpjnjaiaaGreatDoor
