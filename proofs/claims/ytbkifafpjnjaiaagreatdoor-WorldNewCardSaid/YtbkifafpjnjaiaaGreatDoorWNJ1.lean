/- Texts of this claim, joined. No condition. -/
import Derived.Test.YtbkifafpjnjaiaaGreatDoorWNJ0
import Derived.Maps.AppendAt
import Derived.Laws.AppendOwnNone
import Derived.KernelRfl
import Derived.Lib.BufferRead
import Derived.SizedLaws
import Derived.ProofKit
import Derived.OpenShut
import Derived.Deep.Slices
import Derived.Lib.SmallJoins
import Derived.Below
import Derived.Test.YtbkifafpjnjaiaaGreatDoorRows
import Derived.WalkKit
import Derived.WalkSpells
import Derived.WalkSmall
import Derived.WalkLawsBesides
import Derived.RegionTactic
import Derived.BigRegion
import Derived.BigQuiet
import Derived.Deep.QuietTactic
import Derived.Deep.RegionHeld3
import Derived.Lib.Hide
import Derived.Maps.OwnSet
import Derived.Maps.OwnOps
import Derived.Laws.IdiomRangeMap
import Derived.Laws.MakeOwn
import Derived.Lib.AppendZeros
import Derived.Laws.StructEq
set_option linter.unusedSimpArgs false
set_option linter.unusedVariables false
namespace Go.Proofs.YtbkifafpjnjaiaaGreatDoor
set_option maxRecDepth 100000
namespace RX
def Reach(c:Ctx)(K:Ex->S->T):Exit->Act->World->Prop
 | .normal,a,w=>Nx c (K .lB) a w
 | .exit id,a,w=>Nx c (K (.exit id)) a w
 | .ret,a,w=>Nx c (K .ret) a w
 |_,_,_=>False
section
variable {P:Program}{post:Value->HP}{w0:World}{F:PH}{aN:gA}
theorem Reach.up{K:Ex->S->T}{ρ ρ':bp}{R R':PH}{L L':List (bp->Prop)}{e:Exit}{a:Act}{w:World}(p1:ρ<+:ρ')(p2:R.le R')(p3:L<:+L')(n:Reach ⟨P,post,w0,F,ρ',R',L'⟩ K e a w):Reach ⟨P,post,w0,F,ρ,R,L⟩ K e a w:=by
 cases e<;>first|exact Nx.up p1 p2 p3 n|exact n
theorem xZ{ρ:bp}(q:Key×C->Bool){l:Hp}{R h:PH}(H:(HP.an (bg ρ (l.filter q)) (bg ρ (l.filter λx=> !q x))).p R h):(bg ρ l).p R h:=by
 induction l generalizing h with
 |nil=>trivial
 |cons x r ih=>
  rw[List.filter_cons,List.filter_cons]at H
  cases hq:q x with
  |true=>
   simp only[hq,if_true,Bool.not_true,Bool.false_eq_true,if_false]at H
   exact(bA ρ x r R h).2 (HP.ae (HP.aq (HP.ae H (λ_ h=>(bA ρ x _ _ _).1 h) λ_ h=>h)) (λ_ h=>h) λ_ h=>ih h)
  |false=>
   simp only[hq,Bool.false_eq_true,if_false,Bool.not_false,if_true]at H
   have H2:=HP.ao H
   have H3:=HP.aq (HP.ae H2 (λ_ h=>(bA ρ x _ _ _).1 h) λ_ h=>h)
   exact(bA ρ x r R h).2 (HP.ae H3 (λ_ h=>h) λ_ h=>ih (HP.ao h))
theorem RU{hd:S}{ss:List So}{fr:List FV}{ρ ρ2:bp}{s:S}{base:Nat}{R h:PH}(hl:ρ.length=base)(c:CX base ss hd s fr=true)(hp:ρ<+:ρ2)(H:(bg ρ2 s.h).p R h):(bg (ρ++fr.map (FV.den ρ2)) hd.h).p R h:=by
 simp only[CX,Bool.and_eq_true,decide_eq_true_eq,Nat.blt_eq]at c
 have c2:=c.1.1.1.1.1.2
 split at c2
 ·rename_i l vS
  simp only[Bool.and_eq_true]at c2
  exact p9 vS hl hp (lT c2.1 (λx hx=>by simpa using List.all_eq_true.1 c2.2 x hx) H)
 ·cases c2
theorem qa{hd:S}{ss:List So}{fr:List FV}{s:S}{base:Nat}(c:CX base ss hd s fr=true)(ρ:bp):sorted ss (fr.map (FV.den ρ))/\fr.length=ss.length/\hd.n=base+ss.length:=by
 simp only[CX,Bool.and_eq_true,decide_eq_true_eq,Nat.blt_eq]at c
 exact⟨yW ρ c.1.1.1.1.2 c.1.1.1.2,c.1.1.1.2,c.1.1.2⟩
theorem qb:∀ {ss:List So} {xs:bp},sorted ss xs->xs.length=ss.length
 |[],[],_=>rfl
 |[],_::_,h=>by simp[sorted]at h
 |t::r,[],h=>by cases t<;>simp[sorted]at h
 |t::r,x::xs,h=>by cases t<;>cases x<;>simp only[sorted]at h<;>first|(simp only[List.length_cons,qb h];done)|exact h.elim
theorem _root_.Go.Proofs.YtbkifafpjnjaiaaGreatDoor.Sat.Ym{w:World}{R h F:PH}(s:Sat w R h F){l:Nat}{x:Obj}(hb:F l=some x)(y:Obj):Sat (w.putObj l y) R h (λk=>if k=l then some y else F k):=by
 have hR:R l=none:=(s.CL l).resolve_right (by rw[hb];simp)
 have hh:h l=none:=(s.sn l).resolve_right (by rw[hb];simp)
 have aB:∀g:PH,g.own w->g l=none->g.own (w.putObj l y):=λg og gl k o e=>by
  rw[World.putObj_heap_other (λe'=>by subst e';rw[gl]at e;cases e)];exact og k o e
 refine⟨s.qL,λk=>?_,λk=>?_,aB R s.oR hR,aB h s.oh hh,λk o e=>?_,s.gl⟩
 ·by_cases e:k=l
  ·subst e;exact .inl hR
  ·simp only[e,if_false];exact s.CL k
 ·by_cases e:k=l
  ·subst e;exact .inl hh
  ·simp only[e,if_false];exact s.sn k
 ·by_cases e':k=l
  ·subst e'
   simp only[if_true]at e
   cases e
   exact World.putObj_heap_same (s.oF.lt hb)
  ·simp only[e',if_false]at e
   rw[World.putObj_heap_other e'];exact s.oF k o e
theorem _root_.Go.Proofs.YtbkifafpjnjaiaaGreatDoor.Sat.Wf{w:World}{R h F G:PH}(s:Sat w R h F){l:Nat}{x:Obj}(hb:F l=some x)(hG:G.le F)(hGl:G l=none):Sat w R (h.un (PH.one l x)) G/\h.dj (PH.one l x):=by
 have hR:R l=none:=(s.CL l).resolve_right (by rw[hb];simp)
 have hh:h l=none:=(s.sn l).resolve_right (by rw[hb];simp)
 have d1:h.dj (PH.one l x):=λk=>by
  by_cases e:k=l
  ·subst e;exact .inl hh
  ·exact .inr (if_neg e)
 refine⟨⟨(PH.kK s.qL.symm (λk=>?_)).symm,s.CL.le (PH.le.refl _) hG,PH.kK (s.sn.le (PH.le.refl _) hG) (λk=>?_),s.oR,λk o e=>?_,s.oF.le hG,s.gl⟩,d1⟩
 ·by_cases e:k=l
  ·subst e;exact .inr hR
  ·exact .inl (if_neg e)
 ·by_cases e:k=l
  ·subst e;exact .inr hGl
  ·exact .inl (if_neg e)
 ·rcases PH.kJ e with e|e
  ·exact s.oh k o e
  ·obtain⟨rfl,rfl⟩:=PH.lP e;exact s.oF _ _ hb
theorem Same.putObj(w:World)(l:Nat)(o:Obj):Same w (w.putObj l o):=⟨rfl,rfl,rfl,by simp⟩
theorem Tm.acr{ρ:bp}:∀(l:List (Tmp×W)) {t:List (Option V)} {a:Act},Tm ρ t a->
 Tm ρ (l.foldl (λt x=>t.set x.1 (some (.w x.2))) t) {a with tmps:=(l.map λx=>(x.1,x.2.den ρ)).foldl (λts x=>ts.setIfInBounds x.1 x.2) a.tmps}
 |[],_,_,h=>h
 |(d,x)::r,t,a,h=>by
  have:=Tm.acr r (h.put d (.w x))
  simpa[Act.put,V.den]using this
theorem RV{ps:Array Tmp}{Q9:List W}{ρ:bp}{ts:Array Value}:(ps.zip (Q9.map (W.den ρ)).toArray).foldl (λtmps (x:Tmp×Value)=>tmps.setIfInBounds x.1 x.2) ts=((ps.toList.zip Q9).map λx=>(x.1,x.2.den ρ)).foldl (λts x=>ts.setIfInBounds x.1 x.2) ts:=by
 rw[<-Array.foldl_toList]
 congr 1
 rw[Array.toList_zip]
 simp only
 rw[List.zip_map_right]
 exact List.map_congr_left λx _=>rfl
theorem x4{Fr:Fence}{n':Nat}{Q:Exit->Act->World->Prop}{c:Code}(I:Nat->Act->World->Prop)
 (round:∀n a w,I n a w->c.wpIn Fr n' P (Exit.then (λa' w'=>∃m,m<n/\I m a' w') Q) a w):∀n a w,I n a w->(Code.loop c).wpIn Fr n' P Q a w:=by
 intro n₀ a₀ w₀ h₀ b k cs hro hb hr
 have key:∀n a w,I n a w->∃e a' w',Q e a' w'/\ArrivesIn (Machine.fenced P Fr) P (lone (b.atR a (.code c:: .inLoop c::k)) cs w) b k cs e a' w':=by
  intro n
  induction n using Nat.strongRecOn with
  |_ n ih=>
   intro a w hI
   obtain⟨e,a₁,w₁,hq,qc⟩:=round n a w hI b (.inLoop c::k) cs hro hb hr
   cases e with
   |normal=>
    obtain⟨m,hm,hI₁⟩:=hq
    obtain⟨e₂,a₂,w₂,hq₂,Wg⟩:=ih m hm a₁ w₁ hI₁
    exact⟨e₂,a₂,w₂,hq₂,.of_steps (StepsIn.trans qc (.one (fenced_calm hb hr rfl) stepR_inLoop)) Wg⟩
   |exit id=>exact⟨_,a₁,w₁,hq,.pass (x:=.inLoop c) rfl (λ_ _=>.inl (by simp)) qc⟩
   |goto l=>exact⟨_,a₁,w₁,hq,.pass (x:=.inLoop c) rfl (λ_ _=>.inl (by simp)) qc⟩
   |ret=>exact⟨_,a₁,w₁,hq,.pass (x:=.inLoop c) rfl (λ_ _=>.inl (by simp)) qc⟩
   |panic ch=>exact⟨_,a₁,w₁,hq,.pass (x:=.inLoop c) rfl (λ_ _=>.inl (by simp)) qc⟩
   |outgrown=>exact⟨_,a₁,w₁,hq,.pass (x:=.inLoop c) rfl (λ_ _=>.inl (by simp)) qc⟩
 obtain⟨e,a',w',hq,qc⟩:=key n₀ a₀ w₀ h₀
 exact⟨e,a',w',hq,.of_steps (.one (fenced_calm hb hr rfl) stepR_loop) qc⟩
def IH(P:Program)(aN:gA)(post:Value->HP)(c:Code):Prop:=∀ {Fr:Fence} (_:WF Fr) {rd:Bool} (_:rd=false->Fr=Fence.wide) {w0:World} {F:PH} {K:Ex->S->T} {ρ:bp} {s:S} {a:Act} {w:World} {R h:PH} {L:List (bp->Prop)},Ok ρ s a w0 w R h F->L.length=s.dp->(exec P aN rd c s K).den P post L ρ->
 c.wpIn Fr 0 P (Reach ⟨P,post,w0,F,ρ,R,L⟩ K) a w
set_option maxHeartbeats 1000000 in
theorem nT{g:Operand}{ps:Array Tmp}{HI b:Code}(Zg:IH P aN post HI)(Zh:IH P aN post b){K:Ex->S->T}{ρ:bp}{s:S}{a:Act}{w:World}{R h:PH}{L:List (bp->Prop)}(ok:Ok ρ s a w0 w R h F)(hl:L.length=s.dp)
 {gv:A} (hgv:kL s g=some gv) (hok:(pZ P aN s gv).ok gv false s ps.toList=true) (hd:(let r:=pZ P aN s gv
  T.new (.mF gv r.c (r.hd.s.h.filter λx=>r.QP.contains x.1) r.hd.ss r.fr r.pss r.Q9 r.pch
   (exec P aN true HI (r.round ps.toList) λx sA=>match x with
     | .lB=>exec P aN true b sA λx s2=>match x with
       | .lB=>
         let RA:=CV r.s1.n r.hd.s (r.V7 s2)
         if CX r.s1.n r.hd.ss r.hd.s (r.V7 s2) RA then .again (s2.dp - r.hd.s.dp) RA else .all (.fail (8000+s.blk)) (.ret (.au []) (CY r.s1.n RA s2.h r.hd.s.h))
       |x=>K x (r.yO s2)
     |_=>.fail 84)
   (K .lB (r.Ry s)))).den P post L ρ):
 (Code.rangeFunc g ps HI b).wpIn Fence.wide 0 P (Reach ⟨P,post,w0,F,ρ,R,L⟩ K) a w:=by
 have wfw:WF Fence.wide:=.inl rfl
 refine wpIn_rangeFunc λfn _=>?_
 obtain⟨γ,Sh,Pr,may,iW,g0,I,⟨f,iw,acu,af8,af9⟩,Yn,hSh,aga,Ix⟩:=hd w.heap.size
 simp only[Rg.ok,Bool.not_false,Bool.true_and,Bool.and_eq_true,decide_eq_true_eq,Nat.blt_eq]at hok
 obtain⟨⟨⟨⟨⟨⟨hgb,agc⟩,ZG⟩,Oi⟩,Yo⟩,hpn⟩,RW⟩:=hok
 have et:(pZ P aN s gv).hd.s.t=s.t:=rfl
 have ek:(pZ P aN s gv).hd.s.kn=s.kn:=rfl
 have ed:(pZ P aN s gv).hd.s.dp=s.dp+1:=rfl
 have edf:(pZ P aN s gv).hd.s.df=[]:=rfl
 have LZ:(pZ P aN s gv).s1={s with n:=s.n+1,h:=(.b (.v s.n),.nJ)::s.h,df:=.v s.n::s.df}:=rfl
 have ec:(pZ P aN s gv).c=(pZ P aN s gv).s1.h.filter λx=>(gB s.h s.lk 60 (d7 gv) []).contains x.1&& !(pZ P aN s gv).QP.contains x.1:=rfl
 have er:(pZ P aN s gv).rest=(pZ P aN s gv).s1.h.filter λx=> !((gB s.h s.lk 60 (d7 gv) []).contains x.1&& !(pZ P aN s gv).QP.contains x.1):=rfl
 generalize hr:pZ P aN s gv=r at*
 -- the two blocks
 let d:=w.heap.size
 let ρ1:bp:=ρ++[.n d]
 have RY:ρ1.length=s.n+1:=by simp[ρ1,ok.len]
 have k1:Ok ρ1 {s with n:=s.n+1} a w0 w R h F:=ok.app ZG [.n d] (s.n+1) rfl
 let iY:Loop:={state:=.ready,pending:=none,fn,tmps:=a.tmps,params:=ps,assign:=HI,body:=b,defers:=d}
 let w1:=(w.alloc (.deferred (some []))).alloc (.loop iY)
 let l:=d+1
 have el:(w.alloc (.deferred (some []))).heap.size=l:=by rw[World.size_alloc]
 obtain⟨sd,dd⟩:=ok.nP.alloc (.deferred (some []))
 have hpd:(bg ρ1 r.s1.h).p R ((PH.one d (.deferred (some []))).un h):=by
  rw[LZ]
  refine(bA _ _ _ _ _).2 ⟨PH.one d _,h,dd,PH.cC _ _,PH.ck dd,?_,k1.hp⟩
  show(PH.one d _) (BR.den ρ1 (.v s.n))=_
  have:BR.den ρ1 (.v s.n)=d:=by simp only[BR.den,ρ1];rw[<-ok.len,kO];rfl
  rw[this];exact PH.cW _ _
 obtain⟨sl,dl⟩:=sd.alloc (.loop iY)
 rw[el]at sl dl
 have acv:=jy (λx=>(gB s.h s.lk 60 (d7 gv) []).contains x.1&& !r.QP.contains x.1) hpd
 rw[<-ec,<-er]at acv
 have ZH:r.s1.n=s.n+1:=by rw[LZ]
 -- what a round agf with
 let Kx:γ->HP:=λg=>HP.ex λys:bp=>HP.and (sorted r.hd.ss ys/\g5.app r.hd.ss (I g) ys) (HP.an (bg (ρ1++ys) (r.hd.s.h.filter λx=> !r.QP.contains x.1)) (HP.one l (.loop iY)))
 have toK:∀g ys R h,sorted r.hd.ss ys->g5.app r.hd.ss (I g) ys->(HP.an (bg (ρ1++ys) r.hd.s.h) (HP.one l (.loop iY))).p R h->(HP.an (Sh g) (Kx g)).p R h:=λg ys R h Iy hI H=>by
  have e:=jc (hSh g) Iy
  rw[show ρ++[aP.n w.heap.size]=ρ1 from rfl,List.drop_left]at e
  rw[e hI]
  exact HP.ae (HP.aq (HP.ae H (λ_ h=>jy (λx=>r.QP.contains x.1) h) λ_ h=>h)) (λ_ h=>h) λ_ h=>⟨ys,⟨Iy,hI⟩,h⟩
 have ofK:∀g R h,(HP.an (Sh g) (Kx g)).p R h->∃ys,sorted r.hd.ss ys/\g5.app r.hd.ss (I g) ys/\(HP.an (bg (ρ1++ys) r.hd.s.h) (HP.one l (.loop iY))).p R h:=λg R h ⟨h1,h2,dj,l1,l2,hs,ys,⟨Iy,hI⟩,hk⟩=>by
  have e:=jc (hSh g) Iy
  rw[show ρ++[aP.n w.heap.size]=ρ1 from rfl,List.drop_left]at e
  rw[e hI]at hs
  exact⟨ys,Iy,hI,HP.ae (HP.ay ⟨h1,h2,dj,l1,l2,hs,hk⟩) (λ_ h=>xZ (λx=>r.QP.contains x.1) h) λ_ h=>h⟩
 -- what a round aj8 ZJ the loop ZJ
 let Jx:HP:=HP.ex λz:(Code×Ex)×bp×S×List (bp->Prop)=>HP.and ((z.1=(.ret,.ret)\/∃id,z.1=(.exit id,.exit id))/\ρ1<+:z.2.1/\z.2.1.length=z.2.2.1.n/\L<:+z.2.2.2/\z.2.2.2.length=z.2.2.1.dp/\(∀x∈z.2.2.1.kn,(x.1.den z.2.1).bool=x.2)/\(K z.1.2 (r.yO z.2.2.1)).den P post z.2.2.2 z.2.1)
  (HP.an (bg z.2.1 z.2.2.1.h) (HP.one l (.loop {iY with state:=.done,pending:=some z.1.1})))
 have ZK:∀g args,(∃g',may g args g')->iu P (.func (.yield l) #[] #[]) args (HP.an (Pr g args) (HP.an (Sh g) (Kx g))) (Lw Sh Kx Jx (may g args)):=λgg args agh=>by
  refine .inr ⟨l,rfl,λwr Rr hr0 QS acw hpre=>?_⟩
  obtain⟨ha,Yk,dab,la,lb,hPr,hSK⟩:=hpre
  obtain⟨ys,Iy,hI,hH⟩:=ofK gg Rr Yk hSK
  have hrr:=jc (aga gg args agh) Iy
  rw[show ρ++[aP.n w.heap.size]=ρ1 from rfl,List.drop_left]at hrr
  obtain⟨zs,ZD,Dh,x5,acx⟩:=qQ (hrr hI)
  obtain⟨R2,h2,q1,q2,q3,q4,hS⟩:=x5.an (HP.an (bg (ρ1++ys) r.hd.s.h) (HP.one l (.loop iY))) Rr hr0 acw.qL ⟨ha,Yk,dab,la,lb,hPr,hH⟩
  have Yp:=acw.aV q1 q2 q3 q4
  obtain⟨hx,Wh,dx,lx,llr,hPH,vQ⟩:=HP.ay hS
  have ZL:=Yp.cut dx lx llr
  have acy:Wh.dj QS:=Yp.sn.le llr (PH.le.refl _)
  have Yq:Wh l=some (.loop iY):=vQ
  have hFl:(Wh.un QS) l=some (.loop iY):=PH.cC _ _ _ _ Yq
  have RZ:QS l=none:=(acy l).resolve_left (by rw[Yq];simp)
  have acz:QS.le (Wh.un QS):=PH.ck acy
  have acA:wr.heap[l]? =some (.loop iY):=ZL.oF _ _ hFl
  have hsz:args.size=iY.params.size:=by
   rw[Dh];simp[iY,RW]
  refine⟨_,_,_,_,run_yield acA hsz,?_⟩
  refine roundIn_of_wpIn trivial ?_
  have R0:(ρ1++ys).length=r.hd.s.n:=by
   rw[List.length_append,RY,qb Iy,(qa Oi ρ1).2.2,ZH]
  have hbs:=ZG
  simp only[S.dK,Bool.and_eq_true]at hbs
  have okh:Ok (ρ1++ys) r.hd.s {tmps:=a.tmps,defers:=[]} wr wr R2 hx (Wh.un QS):=by
   have tmb:(s.t.all λ|some v=>v.dK ρ.length|none=>true)=true:=by rw[ok.len];exact hbs.1.1.1
   refine⟨by rw[edf];rfl,?_,R0,λx hx=>?_,?_,ZL,Same.refl _⟩
   ·rw[et]
    have:=ok.tm.app tmb ([.n d]++ys)
    rw[<-List.append_assoc]at this
    exact⟨this.1,this.2⟩
   ·rw[ek]at hx
    have hb:=List.all_eq_true.1 hbs.2 x hx
    rw[<-ok.len]at hb
    have:(x.1.den (ρ++([.n d]++ys))).bool=x.2:=by rw[E.app hb];exact ok.kn x hx
    rwa [<-List.append_assoc]at this
   ·exact HP.ai hPH
  have okz:=okh.app Yo zs r.pn (hpn.trans (by rw[ZD]))
  have okr:Ok (ρ1++ys++zs) (r.round ps.toList) {tmps:=(iY.params.zip args).foldl (λtmps x=>tmps.setIfInBounds x.1 x.2) iY.tmps,defers:=[]} wr wr R2 hx (Wh.un QS):=by
   refine⟨okz.nJ,?_,okz.len,okz.kn,?_,ZL,Same.refl _⟩
   ·rw[Dh,RV]
    exact Tm.acr (ps.toList.zip r.Q9) okz.tm
   ·refine lS.2 (HP.ae hPH (λ_ h=>h) λy hy=>?_)
    have hb:=Yo
    simp only[S.dK,Bool.and_eq_true]at hb
    have hb2:vg (ρ1++ys).length r.hd.s.h=true:=by rw[R0];exact hb.1.1.2
    rw[nN hb2];exact hy
  refine wpIn_mono (Zg (Fr:=Fence.wide.inRound l) (.inr ⟨l,rfl⟩) (rd:=true) (λh=>by cases h) okr (by show _=r.hd.s.dp;rw[ed,List.length_cons,hl]) acx) λe a1 w3 rr=>?_
  cases e with
  |normal=>
   obtain⟨ρ3,s3,R3,h3,L3,p1,p2,p3,p4,p5,p6⟩:=rr
   simp only at p1 p2 p3 p4 p5 p6
   refine⟨_,run_beginRound (p5.nP.oF _ _ hFl) rfl,?_⟩
   have agm:=p5.nP.Ym hFl (.loop {iY with state:=.busy})
   have ok4:Ok ρ3 s3 a1 wr (w3.putObj l (.loop {iY with state:=.busy})) R3 h3 _:=⟨p5.nJ,p5.tm,p5.len,p5.kn,p5.hp,agm,p5.same.trans (Same.putObj _ _ _)⟩
   have hF4:∀y:Obj,(λk=>if k=l then some y else(Wh.un QS) k) l=some y:=λy=>if_pos rfl
   have akf:∀y:Obj,QS.le (λk=>if k=l then some y else(Wh.un QS) k):=λy k o e=>by
    by_cases ek:k=l
    ·subst ek;rw[RZ]at e;cases e
    ·simp only[ek,if_false];exact acz k o e
   refine wpIn_mono (Zh (Fr:=Fence.wide.inRound l) (.inr ⟨l,rfl⟩) (rd:=true) (λh=>by cases h) ok4 p4 p6) λe a2 w5 rr=>?_
   have back:∀ {ρ5 s5 R5 h5},Ok ρ5 s5 a2 wr w5 R5 h5 (λk=>if k=l then some (.loop {iY with state:=.busy})else(Wh.un QS) k)->∀y:Obj,Sat (w5.putObj l y) R5 (h5.un (PH.one l y)) QS/\h5.dj (PH.one l y):=λok5 y=>by
    have:=ok5.nP.Ym (hF4 _) y
    refine this.Wf (if_pos rfl) (λk o e=>?_) RZ
    by_cases ek:k=l
    ·subst ek;rw[RZ]at e;cases e
    ·simp only[ek,if_false];exact acz k o e
   cases e with
   |normal=>
    obtain⟨ρ5,s5,R5,h5,L5,Yr,Ys,Yt,ZM,x6,R6⟩:=rr
    simp only at Yr Ys Yt ZM x6 R6
    split at R6
    ·rename_i Oj
     refine⟨_,_,run_endRound none (x6.nP.oF _ _ (hF4 _)),?_⟩
     obtain⟨R7,d6⟩:=back x6 (.loop {({iY with state:=.busy}:Loop)with state:=if(none:Option Code).isNone then .ready else .done,pending:=none})
     refine⟨_,rfl,x6.same.trans (Same.putObj _ _ _),R5,_,q1.trans (p2.trans Ys),R7,?_⟩
     obtain⟨pre,hpre⟩:=p3.trans Yt
     have hlen:s5.dp - r.hd.s.dp=pre.length:=by
      have:L5.length=pre.length+(L.length+1):=by rw[<-hpre];simp
      rw[ed];omega
     have Iz:L5[s5.dp - r.hd.s.dp]? =some (λys=>∃g',may gg args g'/\g5.app r.hd.ss (I g') ys):=by
      rw[hlen,<-hpre,List.getElem?_append_right (Nat.le_refl _),Nat.sub_self];rfl
     simp only[T.den,Iz]at R6
     obtain⟨g',acB,hI'⟩:=R6
     have Yu:ρ1<+:ρ5:=List.IsPrefix.trans (show ρ1<+:ρ1++ys++zs from⟨ys++zs,(List.append_assoc ..).symm⟩) (p1.trans Yr)
     refine⟨true,rfl,g',acB,toK g' _ _ _ (qa Oj ρ5).1 hI' ⟨h5,PH.one l _,d6,PH.cC _ _,PH.ck d6,?_,?_⟩⟩
     ·exact RU (RY.trans ZH.symm) Oj Yu x6.hp
     ·exact PH.cW _ _
    ·exact R6.1.elim
   |ret=>
    obtain⟨ρ5,s5,R5,h5,L5,Yr,Ys,Yt,ZM,x6,R6⟩:=rr
    simp only at Yr Ys Yt ZM x6 R6
    refine⟨_,_,run_endRound (some .ret) (x6.nP.oF _ _ (hF4 _)),?_⟩
    obtain⟨R7,d6⟩:=back x6 (.loop {({iY with state:=.busy}:Loop)with state:=if(some Code.ret:Option Code).isNone then .ready else .done,pending:=some .ret})
    have Yu:ρ1<+:ρ5:=List.IsPrefix.trans (show ρ1<+:ρ1++ys++zs from⟨ys++zs,(List.append_assoc ..).symm⟩) (p1.trans Yr)
    refine⟨_,rfl,x6.same.trans (Same.putObj _ _ _),R5,_,q1.trans (p2.trans Ys),R7,false,rfl,((.ret,.ret),ρ5,s5,L5),⟨.inl rfl,Yu,x6.len,(List.suffix_cons _ _).trans (p3.trans Yt),ZM,x6.kn,R6⟩,h5,PH.one l _,d6,PH.cC _ _,PH.ck d6,x6.hp,PH.cW _ _⟩
   |exit id=>
    obtain⟨ρ5,s5,R5,h5,L5,Yr,Ys,Yt,ZM,x6,R6⟩:=rr
    simp only at Yr Ys Yt ZM x6 R6
    refine⟨_,_,run_endRound (some (.exit id)) (x6.nP.oF _ _ (hF4 _)),?_⟩
    obtain⟨R7,d6⟩:=back x6 (.loop {({iY with state:=.busy}:Loop)with state:=if(some (Code.exit id):Option Code).isNone then .ready else .done,pending:=some (.exit id)})
    have Yu:ρ1<+:ρ5:=List.IsPrefix.trans (show ρ1<+:ρ1++ys++zs from⟨ys++zs,(List.append_assoc ..).symm⟩) (p1.trans Yr)
    refine⟨_,rfl,x6.same.trans (Same.putObj _ _ _),R5,_,q1.trans (p2.trans Ys),R7,false,rfl,((.exit id,.exit id),ρ5,s5,L5),⟨.inr ⟨id,rfl⟩,Yu,x6.len,(List.suffix_cons _ _).trans (p3.trans Yt),ZM,x6.kn,R6⟩,h5,PH.one l _,d6,PH.cC _ _,PH.ck d6,x6.hp,PH.cW _ _⟩
   |goto t=>exact rr.elim
   |panic c=>exact rr.elim
   |outgrown=>exact rr.elim
  |ret=>obtain⟨ρ3,s3,R3,h3,L3,p1,p2,p3,p4,p5,p6⟩:=rr;exact p6.elim
  |exit id=>obtain⟨ρ3,s3,R3,h3,L3,p1,p2,p3,p4,p5,p6⟩:=rr;exact p6.elim
  |goto t=>exact rr.elim
  |panic c=>exact rr.elim
  |outgrown=>exact rr.elim
 -- the call
 have hpre:(HP.an (bg ρ1 r.c) (HP.an (Sh g0) (Kx g0))).p R ((PH.one l (.loop iY)).un ((PH.one d (.deferred (some []))).un h)):=by
  have H0:(HP.an (HP.one l (.loop iY)) (HP.an (bg ρ1 r.c) (bg ρ1 r.rest))).p R ((PH.one l (.loop iY)).un ((PH.one d (.deferred (some []))).un h)):=
   ⟨PH.one l _,_,dl,PH.cC _ _,PH.ck dl,PH.cW _ _,acv⟩
  refine HP.ae (HP.aq (HP.ao H0)) (λ_ h=>h) λy hy=>?_
  exact toK g0 (r.fr.map (FV.den ρ1)) R y (qa Oi ρ1).1 Yn (HP.ae hy (λ_ h=>RU (s:=r.start) (RY.trans ZH.symm) Oi (List.prefix_refl _) h) λ_ h=>h)
 have hfn:=af8
 obtain⟨fnn,agn,ago,agp⟩:=hfn
 refine⟨l,[{target:=.collected d,args:= #[]}],w1,{target:=.fn (.func f) iw,args:= #[.func (.yield l) #[] #[]]},w1,f,#[.func (.yield l) #[] #[]]++iw,w1,?_,?_,λ_ _=>trivial,?_,wfw.dep,?_⟩
 ·exact run_enterLoop_outer fn a.tmps ps HI b
 ·have hgd:a.eval g=.func (.func f) #[] iw:=by
   rw[bF ok.tm hgv]
   rw[<-ok.len]at hgb
   rw[<-A.app hgb [.n d]]
   exact acu
  simp only[resolve,rangeCall,hgd,Sem.run_bind,Deferred.ofValue,Sem.run_pure,Result.andThen_ok]
  simp[Act.eval]
 ·simp only[invoke,callFunc,program,Sem.run_bind,Sem.run,Result.andThen_ok,agn,agp,ago,Bool.false_eq_true,if_false]
  rfl
 refine wfw.calls ((af9 l Kx Jx ZK w1 R _ F sl hpre).mono λe w' ⟨v,he,sm,R',h',lR,ZN,acC⟩=>?_)
 subst he
 have Yv:Same w0 w':=ok.same.trans ((Same.alloc w _).trans ((Same.alloc _ _).trans sm))
 have acD:∀x:bp,({a with defers:=[({target:=.collected d,args:= #[]}:Deferred)]++a.defers}:Act).defers=r.s1.df.map (nO (ρ1++x)):=λx=>by
  rw[LZ]
  simp only[List.map_cons,List.cons_append,List.nil_append]
  have e1:nO (ρ1++x) (.v s.n)={target:=.collected d,args:= #[]}:=by
   simp only[nO,BR.den,ρ1,List.append_assoc,List.cons_append,List.nil_append]
   rw[<-ok.len,kO];rfl
  rw[e1,k1.nJ]
  congr 1
  have hb:=ZG
  simp only[S.dK,Bool.and_eq_true]at hb
  exact List.map_congr_left λq hq=>by
   have:=List.all_eq_true.1 hb.1.2 q hq
   rw[<-ok.len]at this
   unfold nO
   simp only[ρ1,List.append_assoc]
   rw[BR.app this,BR.app this]
 have htm:∀x:bp,Tm (ρ1++x) s.t {a with defers:=[({target:=.collected d,args:= #[]}:Deferred)]++a.defers}:=λx=>by
  have hb:=ZG
  simp only[S.dK,Bool.and_eq_true]at hb
  have tmb:(s.t.all λ|some v=>v.dK ρ.length|none=>true)=true:=by rw[ok.len];exact hb.1.1.1
  have:=ok.tm.app tmb ([.n d]++x)
  rw[<-List.append_assoc]at this
  exact⟨this.1,this.2⟩
 have hcb:∀x:bp,bg (ρ1++x) r.c=bg ρ1 r.c:=λx=>nN (by rw[RY,<-ZH];exact agc) x
 obtain⟨hc,hs,dcs,lc,ls,hC,o,ho⟩:=acC
 -- the agq is let go
 have drop:∀ {A:HP} {o2:Loop} {R2},(HP.an A (HP.one l (.loop o2))).p R' hs->R2=R'->∀y,∃hA,A.p R' hA/\w'.heap[l]? =some (.loop o2)/\Sat (w'.putObj l y) R' (hc.un hA) F/\hc.dj hA:=λH _ y=>by
  obtain⟨hA,hL,dA,lA,lL,pA,pL⟩:=H
  have hLl:hL l=some (.loop _):=pL
  have hin:h' l=some (.loop _):=ls _ _ (lL _ _ hLl)
  have R8:hc l=none:=(dcs l).resolve_right (by rw[lL _ _ hLl];simp)
  have hAl:hA l=none:=(dA l).resolve_right (by rw[hLl];simp)
  have heap:=ZN.oh _ _ hin
  refine⟨hA,pA,heap,?_,dcs.le (PH.le.refl _) lA⟩
  have t:=ZN.aY (w':=w'.putObj l y) (y:=y) hin (λk hk=>World.putObj_heap_other hk) (World.putObj_heap_same (ZN.oh.lt hin))
  have le:(hc.un hA).le (λk=>if k=l then some y else h' k):=λk o e=>by
   by_cases ek:k=l
   ·subst ek
    rcases PH.kJ e with e|e
    ·rw[R8]at e;cases e
    ·rw[hAl]at e;cases e
   ·simp only[ek,if_false]
    rcases PH.kJ e with e|e
    ·exact lc _ _ e
    ·exact ls _ _ (lA _ _ e)
  exact⟨t.qL.le (PH.le.refl _) le,t.CL,t.sn.le le (PH.le.refl _),t.oR,t.oh.le le,t.oF,t.gl⟩
 cases o with
 |some gg=>
  obtain⟨hf,hSK⟩:=ho
  obtain⟨ys,Iy,hI,hH⟩:=ofK gg R' hs hSK
  obtain⟨hA,pA,heap,ZO,dA⟩:=drop hH rfl (.loop {iY with state:=.exhausted})
  refine⟨none,_,run_endLoop heap (by simp[iY]),?_⟩
  have Yw:=jc (Ix gg hf) Iy
  rw[show ρ++[aP.n w.heap.size]=ρ1 from rfl,List.drop_left]at Yw
  have R0:(ρ1++ys).length=r.hd.s.n:=by
   rw[List.length_append,RY,qb Iy,(qa Oi ρ1).2.2,ZH]
  refine⟨ρ1++ys,r.Ry s,R',_,L,(List.prefix_append ρ _).trans (List.prefix_append _ _),lR,List.suffix_refl _,hl,⟨acD ys,by show Tm _ r.hd.s.t _;rw[et];exact htm ys,R0,λx hx=>?_,?_,ZO,Yv.trans (Same.putObj _ _ _)⟩,Yw hI⟩
  ·have hx':x∈s.kn:=by rw[<-ek];exact hx
   have hb:=ZG
   simp only[S.dK,Bool.and_eq_true]at hb
   have hb:=List.all_eq_true.1 hb.2 x hx'
   rw[<-ok.len]at hb
   simp only[ρ1,List.append_assoc]
   rw[E.app hb];exact ok.kn x hx'
  ·refine lS.2 ⟨hc,hA,dA,PH.cC _ _,PH.ck dA,?_,pA⟩
   rw[hcb];exact hC
 |none=>
  obtain⟨⟨⟨code,x⟩,ρ5,s5,L5⟩,⟨hj,Yu,Yx,q3,q4,acE,q6⟩,hH⟩:=ho
  simp only at hj Yu Yx q3 q4 acE q6 hH
  obtain⟨hA,pA,heap,ZO,dA⟩:=drop hH rfl (.loop {iY with state:=.exhausted,pending:=some code})
  refine⟨some code,_,run_endLoop heap (by simp[iY]),?_⟩
  obtain⟨z5,hz5⟩:=Yu
  have okl:Ok ρ5 (r.yO s5) {a with defers:=[({target:=.collected d,args:= #[]}:Deferred)]++a.defers} w0 (w'.putObj l (.loop {iY with state:=.exhausted,pending:=some code})) R' (hc.un hA) F:=by
   refine⟨by rw[<-hz5];exact acD z5,by show Tm ρ5 r.s1.t _;rw[LZ,<-hz5];exact htm z5,Yx,acE,lS.2 ⟨hc,hA,dA,PH.cC _ _,PH.ck dA,by rw[<-hz5,hcb];exact hC,pA⟩,ZO,Yv.trans (Same.putObj _ _ _)⟩
  rcases hj with⟨⟨⟩⟩|⟨id,⟨⟨⟩⟩⟩
  ·exact wpIn_ret ⟨ρ5,r.yO s5,R',_,L5,(List.prefix_append ρ _).trans ⟨z5,hz5⟩,lR,q3,q4,okl,q6⟩
  ·exact wpIn_exit ⟨ρ5,r.yO s5,R',_,L5,(List.prefix_append ρ _).trans ⟨z5,hz5⟩,lR,q3,q4,okl,q6⟩
theorem qU{k:Nat×Nat}{run:S->(S->T)->T}{K:S->T}{ρ:bp}{s:S}{a:Act}{w:World}{R h:PH}{L:List (bp->Prop)}{G:Prop}(ok:Ok ρ s a w0 w R h F)(hl:L.length=s.dp)
 (e7:∀(dp:Nat) (L':List (bp->Prop)) (K':S->T),L'.length=dp->L<:+L'->(run {s with dp:=dp} K').den P post L' ρ->(∀a w,Nx ⟨P,post,w0,F,ρ,R,L'⟩ K' a w->Nx ⟨P,post,w0,F,ρ,R,L⟩ K a w)->G)
 (hd:(yP aN k s run K).den P post L ρ):G:=by
 unfold yP at hd
 split at hd
 ·rename_i j hj
  obtain⟨I,ags,hk⟩:=hd
  refine e7 (s.dp+1) _ _ (by simp[hl]) (List.suffix_cons _ _) ags λa' w' nx=>?_
  obtain⟨ρ',s',R',h',L',p1,p2,p3,p4,p5,p6⟩:=nx
  dsimp only at p1 p2 p3 p4 p5 p6
  split at p6
  ·exact p6.1.elim
  ·rename_i ZP
   rw[if_neg ZP]at hk
   split at p6
   ·rename_i hc
    obtain⟨pre,rfl⟩:=p3
    rw[List.length_append,List.length_cons]at p4
    have Df:s'.dp - (s.dp+1)=pre.length:=by omega
    simp only[T.den,Df,List.getElem?_append_right (Nat.le_refl _),Nat.sub_self,List.getElem?_cons_zero]at p6
    have Iy:=(qa hc ρ').1
    have qJ:=jc hk Iy
    rw[List.drop_left]at qJ
    have Oi:=Iw ok.len hc p1 p5 (λx hx=>ok.kn x hx)
    exact⟨_,j.Yi s,R',h',L,List.prefix_append ρ _,p2,List.suffix_refl _,hl,Oi,qJ p6⟩
   ·exact p6.1.elim
 ·exact e7 s.dp L K hl (List.suffix_refl _) hd λ_ _ n=>n
theorem ig{P:Program}{b:Frame}{a:Act}{k:List Item}{cs:List Frame}{w:World}{c:Code}:step P (lone (b.atR a (.code (.scope c)::k)) cs w)=.next (lone (b.atR a (.code c:: .inScope c::k)) cs w):=
 step_lone_go (by simp[stepG,stepG.exec,Frame.atR])
theorem x7{P:Program}{b:Frame}{a:Act}{k:List Item}{cs:List Frame}{w:World}{c:Code}:step P (lone (b.atR a (.inScope c::k)) cs w)=.next (lone (b.atR a k) cs w):=
 step_lone_go (by simp[stepG,stepG.exec,Frame.atR])
theorem IA{P:Program}{F:Fence}{n:Nat}{Q:Exit->Act->World->Prop}{a:Act}{w:World}{c:Code}(h:c.wpIn F n P (λe a w=>match e with| .goto _=>False|e=>Q e a w) a w):(Code.scope c).wpIn F n P Q a w:=by
 intro b k cs hro hb hr
 have h0:(lone (b.atR a (.code (.scope c)::k)) cs w).fenced P F:=fenced_calm hb hr rfl
 obtain⟨e,a₁,w₁,hq,qc⟩:=h b (.inScope c::k) cs hro hb hr
 cases e with
 |normal=>exact⟨.normal,a₁,w₁,hq,.head h0 ig (StepsIn.trans qc (.one (fenced_calm hb hr rfl) x7))⟩
 |exit id=>
  have hx:exitTo id (.inScope c::k)=exitTo id k:=by simp[exitTo]
  exact⟨.exit id,a₁,w₁,hq,λk' hk=>.head h0 ig (qc.1 k' (by rw[hx];exact hk)),
   λhr' hk=>let⟨k₁,h1,h2⟩:=qc.2 hr' (by rw[hx];exact hk);⟨k₁,h1,.head h0 ig h2⟩⟩
 |goto l=>exact hq.elim
 |ret=>exact⟨_,a₁,w₁,hq,.of_steps (.one h0 ig) qc⟩
 |panic ch=>exact⟨_,a₁,w₁,hq,.of_steps (.one h0 ig) qc⟩
 |outgrown=>exact⟨_,a₁,w₁,hq,.of_steps (.one h0 ig) qc⟩
theorem Wi(hm:P.follows .mixedOrders=true):∀(c:Code),IH P aN post c:=by
 intro c
 induction c with
 |skip=>intro Fr wf rd uW w0 F K ρ s a w R h L ok hl hd;exact wpIn_skip (Nx.mk ok hl hd)
 |exit id=>intro Fr wf rd uW w0 F K ρ s a w R h L ok hl hd;exact wpIn_exit (Nx.mk ok hl hd)
 |ret=>intro Fr wf rd uW w0 F K ρ s a w R h L ok hl hd;exact wpIn_ret (Nx.mk ok hl hd)
 |region id ops draw=>
  intro Fr wf rd uW w0 F K ρ s a w R h L ok hl hd
  cases draw with
  |false=>
   simp only[exec]at hd
   split at hd
   ·rename_i hc
    split at hd
    ·refine qU ok hl (λdp L' K' vS _ Df hK=>?_) hd
     have QQ:Ok ρ {s with dp:=dp} a w0 w R h F:=⟨ok.nJ,ok.tm,ok.len,ok.kn,ok.hp,ok.nP,ok.same⟩
     exact wpIn_region_list (LU wf (K:=K') ops.toList (λo ho=>Array.all_eq_true_iff_forall_mem.1 hc o (by simpa using ho)) QQ vS Df λa w n=>hK a w n)
    ·exact wpIn_region_list (LU wf (K:=λs=>K .lB s) ops.toList (λo ho=>Array.all_eq_true_iff_forall_mem.1 hc o (by simpa using ho)) ok hl hd λa w n=>n)
   ·exact hd.elim
  |true=>
   simp only[exec]at hd
   split at hd
   ·rename_i hc
    simp only[Bool.and_eq_true]at hc
    have lE:Ok ρ s a w0 {w with drawn:=w.drawn+1} R h F:=⟨ok.nJ,ok.tm,ok.len,ok.kn,ok.hp,ok.nP.drew _,ok.same.trans (Same.drew w _)⟩
    refine qU lE hl (λdp L' K' vS _ Df hK=>?_) hd
    have QQ:Ok ρ {s with dp:=dp} a w0 {w with drawn:=w.drawn+1} R h F:=⟨lE.nJ,lE.tm,lE.len,lE.kn,lE.hp,lE.nP,lE.same⟩
    exact wpIn_region_any hm (vN _ _ _ _ (Wc wf (λo ho=>Array.all_eq_true_iff_forall_mem.1 hc.2 o ho) (K:=K') (ρ0:=ρ) (s:={s with dp:=dp}) hc.1.1.1 (by rw[ok.len];exact hc.1.1.2) hc.1.2 (λc a w h=>h) ops.size (List.prefix_refl _) (λx hx=>(List.mem_filter.1 hx).1) QQ vS Df λa w n=>hK a w n))
   ·exact hd.elim
 |seq x y ihx ihy=>
  intro Fr wf rd uW w0 F K ρ s a w R h L ok hl hd
  refine wpIn_seq (wpIn_mono (ihx wf uW ok hl hd) λe a' w' r=>?_)
  cases e<;>try (first|exact r|exact r.elim)
  obtain⟨ρ',s',R',h',L',p1,p2,p3,p4,p5,p6⟩:=r
  exact wpIn_mono (ihy wf uW p5 p4 p6) λe a'' LV r=>r.up p1 p2 p3
 |cond c x y ihx ihy=>
  intro Fr wf rd uW w0 F K ρ s a w R h L ok hl hd
  simp only[exec]at hd
  split at hd
  ·rename_i e he
   have hc:=bF ok.tm he
   refine qU ok hl (λdp L' K' vS qK Df hK=>?_) hd
   have ok1:Ok ρ {s with dp:=dp} a w0 w R h F:=⟨ok.nJ,ok.tm,ok.len,ok.kn,ok.hp,ok.nP,ok.same⟩
   obtain⟨kn,lE,hh⟩:=A1 ok1 Df
   refine wpIn_cond (t:=(e.den ρ).bool) hc ?_
   rcases hh with⟨hb,hh⟩|⟨hb,hh⟩
   ·rw[hb]
    refine wpIn_mono (ihx wf uW lE vS hh) λex a' w' r=>?_
    cases ex<;>first|exact hK _ _ r|exact Nx.up (List.prefix_refl _) (PH.le.refl _) qK r|exact r.elim
   ·rw[hb]
    refine wpIn_mono (ihy wf uW lE vS hh) λex a' w' r=>?_
    cases ex<;>first|exact hK _ _ r|exact Nx.up (List.prefix_refl _) (PH.le.refl _) qK r|exact r.elim
  ·exact hd.elim
 |label l=>intro Fr wf rd uW w0 F K ρ s a w R h L ok hl hd;exact wpIn_label (Nx.mk ok hl hd)
 |scope b ih=>
  intro Fr wf rd uW w0 F K ρ s a w R h L ok hl hd
  refine IA (wpIn_mono (ih wf uW ok hl hd) λe a' w' r=>?_)
  cases e<;>first|exact r|exact r.elim
 |block id b ih=>
  intro Fr wf rd uW w0 F K ρ s a w R h L ok hl hd
  simp only[exec]at hd
  refine qU ok hl (λdp L' K' vS qK Df hK=>?_) hd
  have lE:Ok ρ {s with dp:=dp,blk:=id} a w0 w R h F:=⟨ok.nJ,ok.tm,ok.len,ok.kn,ok.hp,ok.nP,ok.same⟩
  refine wpIn_block (wpIn_mono (ih wf uW lE vS Df) λe a' w' r=>?_)
  cases e with
  |exit i=>
   simp only[Exit.inBlock]
   by_cases hi:i=id
   ·subst hi
    rw[if_pos rfl]
    obtain⟨ρ',s',R',h',L'',p1,p2,p3,p4,p5,p6⟩:=r
    simp only[if_true]at p6
    exact hK _ _ ⟨ρ',s',R',h',L'',p1,p2,p3,p4,p5,p6⟩
   ·rw[if_neg hi]
    obtain⟨ρ',s',R',h',L'',p1,p2,p3,p4,p5,p6⟩:=r
    simp only[if_neg hi]at p6
    exact Nx.up (List.prefix_refl _) (PH.le.refl _) qK ⟨ρ',s',R',h',L'',p1,p2,p3,p4,p5,p6⟩
  |normal=>exact hK _ _ r
  |ret=>exact Nx.up (List.prefix_refl _) (PH.le.refl _) qK r
  |_=>exact r.elim
 |loop b ih=>
  intro Fr wf rd uW w0 F K ρ s a w R h L ok hl hd
  simp only[exec]at hd
  split at hd
  ·rename_i hc
   simp only[Bool.and_eq_true,decide_eq_true_eq,Nat.blt_eq]at hc
   obtain⟨⟨⟨hc,vg⟩,agy⟩,hdp⟩:=hc
   obtain⟨I,μ,Yn,hall⟩:=hd
   have hss:sorted (lz aN b s).ss ((CV s.n (lz aN b s).s s).map (FV.den ρ)):=(qa hc ρ).1
   have hkn:∀x∈(lz aN b s).s.kn,(x.1.den ρ).bool=x.2:=by rw[agy];exact ok.kn
   refine x4 (λn a w=>∃xs R' h',R.le R'/\sorted (lz aN b s).ss xs/\g5.app _ I xs/\g5.app _ μ xs=n/\Ok (ρ++xs) (lz aN b s).s a w0 w R' h' F) ?_ _ a w
    ⟨_,R,h,PH.le.refl _,hss,Yn,rfl,Iw ok.len hc (List.prefix_refl _) ok hkn⟩
   rintro n a w ⟨xs,R',h',lR,Iy,hI,rfl,ok1⟩
   have hb:=jc hall Iy
   rw[List.drop_left]at hb
   have hb:=hb hI
   refine wpIn_mono (ih wf uW ok1 (by simp[hdp,hl]) hb) λe a' w' r=>?_
   cases e<;>try (first|exact Nx.up (List.prefix_append ρ xs) lR (List.suffix_cons _ _) r|exact r.elim)
   obtain⟨ρ',s',R'',h'',L',p1,p2,p3,p4,p5,p6⟩:=r
   simp only at p6
   split at p6
   ·rename_i Oj
    have p1':=(List.prefix_append ρ xs).trans p1
    have agz:sorted (lz aN b s).ss ((CV s.n (lz aN b s).s s').map (FV.den ρ')):=(qa Oj ρ').1
    obtain⟨pre,rfl⟩:=p3
    simp only at p4 p6
    rw[List.length_append,List.length_cons]at p4
    have Df:s'.dp - (lz aN b s).s.dp=pre.length:=by rw[hdp];omega
    simp only[T.den,Df,List.getElem?_append_right (Nat.le_refl _),Nat.sub_self,List.getElem?_cons_zero]at p6
    exact⟨_,p6.2,(CV s.n (lz aN b s).s s').map (FV.den ρ'),R'',h'',lR.trans p2,agz,p6.1,rfl,Iw ok.len Oj p1' p5 hkn⟩
   ·exact p6.1.elim
  ·exact hd.elim
 |rangeFunc g ps HI b Zg Zh=>
  intro Fr wf rd uW w0 F K ρ s a w R h L ok hl hd
  simp only[exec]at hd
  split at hd
  ·exact hd.elim
  rename_i gv hgv
  split at hd
  ·rename_i hok
   have hf:rd=false:=by cases rd with|false=>rfl|true=>simp[Rg.ok]at hok
   subst hf
   rw[uW rfl]
   exact nT Zg Zh ok hl hgv hok hd
  ·exact hd.1.elim
 |_=>intro Fr wf rd uW w0 F K ρ s a w R h L ok hl hd;exact hd.elim
def qd(tmps:Array Value):ResultVar->Sem Value
 | .tmp t=>pure (tmps.getD t undef)
 | .cell a t=>do loadVar t (<-asAddr (tmps.getD a undef))
theorem Ol{ρ:bp}{s:S}{a:Act}{w:World}{R h:PH}(ok:Ok ρ s a w0 w R h F){r:ResultVar}{x:W}(e:vz P s r=some x):(qd a.tmps r).run P w=.ok (x.den ρ) w:=by
 cases r with
 |tmp t=>
  simp only[vz]at e
  split at e
  ·rename_i y hy
   cases e
   have:=gG ok.tm hy
   simp only[Act.eval]at this
   simp only[qd,this,Sem.run_pure,V.den]
  ·cases e
 |cell ad t=>
  simp only[vz]at e
  split at e
  ·rename_i r off hx
   split at e
   ·rename_i l ty hf
    have:=bF ok.tm hx
    simp only[Act.eval]at this
    have h1:=vI (P:=P) ok.nP (vE (vB (yQ hf) ok.hp)) e
    simp only[Instr.loadAt,Instr.sureAddr,Sem.run_bind,Sem.run_pure,Result.andThen_ok]at h1
    simp only[qd,this,A.den,asAddr,Sem.run_bind,Sem.run_pure,Result.andThen_ok,h1]
   ·cases e
  ·cases e
theorem qV{ρ:bp}{s:S}{a:Act}{w:World}{R h:PH}(ok:Ok ρ s a w0 w R h F):∀ {l:List ResultVar} {m:List W},mapM' (vz P s) l=some m->
 (l.mapM (qd a.tmps)).run P w=.ok (m.map (W.den ρ)) w
 |[],m,e=>by cases e;rfl
 |x::r,m,e=>by
  simp only[mapM']at e
  split at e
  ·rename_i y hy
   split at e
   ·rename_i q hq
    cases e
    rw[List.mapM_cons,Sem.run_bind,Ol ok hy]
    simp only[Result.andThen_ok,Sem.run_bind,qV ok hq,Sem.run_pure,List.map_cons]
   ·cases e
  ·cases e
theorem IB(fn:Func)(tmps:Array Value):results fn tmps=(do
 let vs<-fn.results.mapM (qd tmps)
 pure (if h:vs.size=1 then vs[0]else .tuple vs)):=by
 unfold results
 congr 1
theorem R9{fn:Func}{ρ:bp}{s:S}{a:Act}{w:World}{R h:PH}{L:List (bp->Prop)}(ok:Ok ρ s a w0 w R h F){ks:List Key}(hd:(leave P fn ks s).den P post L ρ):
 ∃v,(results fn a.tmps).run P w=.ok v w/\HP.aV (bg ρ s.h) (post v):=by
 have hlv:∀v:V,(AW v ks s).den P post L ρ->HP.aV (bg ρ s.h) (post (v.den ρ)):=λv hv=>by
  unfold AW at hv
  simp only at hv
  split at hv
  ·rename_i hc
   exact(HP.aV.of λ_ _ H=>ki hc H).trans hv
  ·exact hv.elim
 unfold leave at hd
 have Sd:∀m,mapM' (vz P s) fn.results.toList=some m->(results fn a.tmps).run P w=.ok (if h:(m.map (W.den ρ)).toArray.size=1 then(m.map (W.den ρ)).toArray[0]else .tuple (m.map (W.den ρ)).toArray) w:=λm hm=>by
  have h1:=qV (P:=P) ok hm
  rw[IB,Array.mapM_eq_mapM_toList,Sem.run_bind]
  have h2:(Functor.map List.toArray (List.mapM (qd a.tmps) fn.results.toList):Sem (Array Value)).run P w=.ok (m.map (W.den ρ)).toArray w:=by
   show(List.mapM (qd a.tmps) fn.results.toList >>= λl=>pure l.toArray:Sem (Array Value)).run P w=_
   rw[Sem.run_bind,h1];rfl
  rw[h2]
  rfl
 split at hd
 ·rename_i x hm
  exact⟨_,Sd _ hm,hlv _ hd⟩
 ·rename_i m hx hm
  refine⟨_,Sd _ hm,?_⟩
  have hne:¬(m.map (W.den ρ)).toArray.size=1:=λe=>by
   simp only[List.size_toArray,List.length_map]at e
   obtain⟨y,rfl⟩:=List.length_eq_one_iff.1 e
   exact hx y rfl
  rw[dif_neg hne]
  exact hlv _ hd
 ·exact hd.elim
theorem qW{fn:Func}{tmps:Array Value}{Rp:Ending->World->Prop}{ρ:bp}{R F:PH}:∀(df:List BR) {hp:Hp} {w:World} {h:PH},AX df=true->(df.all λr=>hp.contains (.b r,.nJ))=true->Sat w R h F->(bg ρ hp).p R h->
 (∀w' h',Same w w'->Sat w' R h' F->(bg ρ (hp.filter λx=> !Ob df x)).p R h'->∃v,(results fn tmps).run P w'=.ok v w'/\Rp (.returned v) w')->LeavesInM Fence.wide 0 P fn tmps Rp (df.map (nO ρ)) .returning w
 |[],hp,w,h,_,_,s,p,hf=>by
  obtain⟨v,h1,h2⟩:=hf w h (Same.refl w) s (by rw[List.filter_eq_self.2 (λ_ _=>by simp[Ob])];exact p)
  exact⟨v,h1,h2⟩
 |r::rest,hp,w,h,hn,ha,s,p,hf=>by
  simp only[AX,Bool.and_eq_true,Bool.not_eq_true',List.all_cons]at hn ha
  have Se:(Key.b r,C.nJ)∈hp:=by simpa using ha.1
  obtain⟨h1,h2,d,l1,l2,p1,p2⟩:=jy (λx=>decide (x=(Key.b r,C.nJ))) p
  have hc:h1 (r.den ρ)=some (.deferred (some [])):=vB (x:=(Key.b r,C.nJ)) (List.mem_filter.2 ⟨Se,by simp⟩) p1
  have hh:h (r.den ρ)=some (.deferred (some [])):=l1 _ _ hc
  have h2n:h2 (r.den ρ)=none:=(d _).resolve_left (by rw[hc];simp)
  have t:=s.aY (w':=w.putObj (r.den ρ) (.deferred none)) (y:=.deferred none) hh (λk hk=>World.putObj_heap_other hk) (World.putObj_heap_same (s.oh.lt hh))
  have le:h2.le (λk=>if k=r.den ρ then some (.deferred none)else h k):=λk o e=>by
   by_cases ek:k=r.den ρ
   ·subst ek;rw[h2n]at e;cases e
   ·simp only[ek,if_false];exact l2 _ _ e
  have s2:Sat (w.putObj (r.den ρ) (.deferred none)) R h2 F:=⟨t.qL.le (PH.le.refl _) le,t.CL,t.sn.le le (PH.le.refl _),t.oR,t.oh.le le,t.oF,t.gl⟩
  refine⟨by simp,.inl ⟨r.den ρ,_,rfl,run_takeDeferred (s.oh _ _ hh),qW rest hn.2 ?_ s2 p2 λw' h' sm s3 p3=>hf w' h' ((Same.putObj _ _ _).trans sm) s3 ?_⟩⟩
  ·refine List.all_eq_true.2 λq hq=>?_
   have hne:q≠r:=λe=>by subst e;simp at hn;exact hn.1 hq
   have:=List.all_eq_true.1 ha.2 q hq
   simp only[List.contains_eq_mem,decide_eq_true_eq,Nat.blt_eq]at this⊢
   exact List.mem_filter.2 ⟨this,by simp[hne]⟩
  ·rw[List.filter_filter]at p3
   have e:(λx=> !Ob (r::rest) x)=λx:Key×C=>(!Ob rest x&& !decide (x=(Key.b r,C.nJ))):=funext λx=>by
    simp only[Ob,List.any_cons,Bool.not_or,Bool.and_comm]
   rw[e]
   exact p3
theorem ah(hm:P.follows .mixedOrders=true){f:FuncId}{fn:Func}(hf:P.funcs[f]? =some fn){args:List W}{h0:Hp}{ρ:bp}{t:T}(ht:tree P aN fn args h0 ρ.length=t)(hd:t.den P post [] ρ):
 ax P f (args.map (W.den ρ)).toArray (bg ρ h0) post:=by
 intro w R h F s hp
 subst ht
 unfold tree at hd
 split at hd
 ·rename_i c hc
  refine(callsIn_wide (n:=0)).1 (callsIn_of_wp_marks hf hc trivial ?_)
  have Dh:∀(i:Nat) (v:V),(args.map (λw=>some (V.w w))++List.replicate (fn.ntmps - args.length) (some (V.au [])))[i]? =some (some v)->
   ((args.map (W.den ρ)).toArray++Array.replicate (fn.ntmps - (args.map (W.den ρ)).toArray.size) undef)[i]? =some (v.den ρ):=λi v hi=>by
   rw[List.getElem?_append]at hi
   rw[Array.getElem?_append]
   simp only[List.length_map,List.size_toArray]at hi⊢
   split at hi
   ·rename_i hlt
    rw[if_pos hlt]
    simp only[List.getElem?_map,Option.map_eq_some_iff,Option.some.injEq]at hi
    obtain⟨x,hx,rfl⟩:=hi
    simp[hx,V.den]
   ·rename_i hlt
    rw[if_neg hlt]
    rw[List.getElem?_replicate]at hi
    rw[Array.getElem?_replicate]
    split at hi
    ·rename_i acH
     rw[if_pos acH]
     simp only[Option.some.injEq]at hi
     subst hi
     rfl
    ·cases hi
  have ok:Ok ρ ⟨args.map (λw=>some (.w w))++List.replicate (fn.ntmps - args.length) (some (.au [])),h0,ρ.length,[],[],0,0,[]⟩ {tmps:=(args.map (W.den ρ)).toArray++Array.replicate (fn.ntmps - (args.map (W.den ρ)).toArray.size) undef,defers:=[]} w w R h F:=
   ⟨rfl,⟨by simp,Dh⟩,rfl,(λx hx=>by cases hx),hp,s,Same.refl w⟩
  have iW:∀(K:S->T) (a':Act) (w':World),(∀s,K s=AY P fn (h0.map (·.1)++Zy aN (h0.map (·.1)) s++Zz P aN fn s) s)->Nx ⟨P,post,w,F,ρ,R,[]⟩ K a' w'->
   LeavesInM Fence.wide 0 P fn a'.tmps (λe LV=>∃v,e=.returned v/\Same w LV/\∃R' h',R.le R'/\Sat LV R' h' F/\(post v).p R' h') a'.defers .returning w':=λK a' w' hK r=>by
   obtain⟨ρ',s',R',h',L',p1,p2,p3,p4,p5,p6⟩:=r
   simp only at p1 p2 p3 p4 p5 p6
   rw[hK]at p6
   unfold AY at p6
   split at p6
   ·rename_i hdf
    simp only[acg,Bool.and_eq_true]at hdf
    rw[p5.nJ]
    refine qW s'.df hdf.1 hdf.2 p5.nP p5.hp λLV h'' sm nP p=>?_
    have QQ:Ok ρ' (RB s') {a' with defers:=[]} w LV R' h'' F:=⟨rfl,⟨p5.tm.1,p5.tm.2⟩,p5.len,p5.kn,p,nP,p5.same.trans sm⟩
    obtain⟨v,hv,he⟩:=R9 QQ p6
    obtain⟨R2,h2,q1,q2,q3,q4,q5⟩:=he R' h'' nP.qL p
    exact⟨v,hv,v,rfl,QQ.same,R2,h2,p2.trans q1,nP.aV q1 q2 q3 q4,q5⟩
   ·exact p6.elim
  refine wpIn_mono (Wi hm c (.inl rfl) (rd:=false) (λ_=>rfl) ok rfl hd) λe a' w' r=>?_
  cases e<;>try exact r.elim
  ·exact iW _ a' w' (λ_=>rfl) r
  ·obtain⟨ρ',s',R',h',L',p1,p2,p3,p4,p5,p6⟩:=r
   exact p6.elim
  ·exact iW _ a' w' (λ_=>rfl) r
 ·exact hd.elim
end
theorem cY{X Y:Prop}(y:Y)(e:X=Y:=by(conv=>lhs;simp(maxSteps:=3000000) only[T.den,E.prop,E.den,RX.look,F1.app,F2.app,aP.dH,aP.dP,aP.cr,aP.eQ,aP.e9,aP.fw,aP.ju,bg,dB,V.den,W.den,A.den,BR.den,SA.den,FV.den,iX,nF,nK,fj,g5.app,List.map_cons,List.map_nil,List.cons_append,List.nil_append,List.drop_succ_cons,List.drop_zero,List.length_cons,List.length_nil,Nat.zero_add,Nat.reduceAdd,Int.neg_neg,Bool.not_not,List.append_nil,Nat.add_zero,List.getElem?_cons_zero,List.getElem?_cons_succ,Decidable.not_not])):X:=e▸y
end RX
section
open RX
theorem mixed:Tryz.prog.follows .mixedOrders=true:=by kernel_rfl
def cp(e:TypeId)(size:Nat)(a:Option Addr)(n c:Nat)(xs:List Value):HP:=
 ⟨λ_ h=>xs.length=n*size/\((a=none/\n=0/\c=0)\/∃g cur,a=some ⟨g,0,none⟩/\h g=some (.cells cur e (0,0))/\n<=c/\c<=maxLen/\cur.size=c*size/\cur.toList.take (n*size)=xs),
  λ_ l ⟨h1,h2⟩=>⟨h1,h2.imp id λ⟨g,cur,h3,h4,h5⟩=>⟨g,cur,h3,l _ _ h4,h5⟩⟩⟩
def bb(size:Nat)(a:Option Addr)(n:Nat)(xs:List Value):HP:=
 ⟨λR _=>xs.length=n*size/\(n≠0->∃g off cur ty fr,a=some ⟨g,off,none⟩/\R g=some (.cells cur ty fr)/\(cur.toList.drop off).take xs.length=xs),
  λl _ ⟨h1,h2⟩=>⟨h1,λhn=>let⟨g,off,cur,ty,fr,h3,h4,h5⟩:=h2 hn;⟨g,off,cur,ty,fr,h3,l _ _ h4,h5⟩⟩⟩
def Rd(S:HP)(a:Option Addr)(xs:List Value):Prop:=∀w R h F,Sat w R h F->S.p R h->∀(j:Nat) (u:Value),xs[j]? =some u->∃g off,a=some ⟨g,off,none⟩/\w.cell? ⟨g,off+j,none⟩=some u
theorem mJ{w:World}{g:Nat}{cur:Array Value}{ty:TypeId}{fr:Nat×Nat}(h:w.heap[g]? =some (.cells cur ty fr))(k:Nat):w.cell? ⟨g,k,none⟩=cur[k]? :=by
 unfold World.cell?;rw[h];rfl
theorem cp.rd(e:TypeId)(size:Nat)(a:Option Addr)(n c:Nat)(xs:List Value):Rd (cp e size a n c xs) a xs:=by
 rintro w R h F s ⟨hl,hh⟩ j u hj
 rcases hh with⟨_,rfl,_⟩|⟨g,cur,rfl,hg,h1,h2,h3,rfl⟩
 ·rw[List.getElem?_eq_none (by rw[hl];omega)]at hj;cases hj
 ·refine⟨g,0,rfl,?_⟩
  rw[mJ (s.oh _ _ hg)]
  rw[List.getElem?_take]at hj
  split at hj
  ·simpa using hj
  ·cases hj
theorem bb.rd(size:Nat)(a:Option Addr)(n:Nat)(xs:List Value):Rd (bb size a n xs) a xs:=by
 rintro w R h F s ⟨hl,hh⟩ j u hj
 have hn:n≠0:=λe=>by subst e;rw[List.getElem?_eq_none (by rw[hl];omega)]at hj;cases hj
 obtain⟨g,off,cur,ty,fr,rfl,hR,hc⟩:=hh hn
 refine⟨g,off,rfl,?_⟩
 rw[mJ (s.oR _ _ hR)]
 rw[<-hc,List.getElem?_take]at hj
 split at hj
 ·rw[List.getElem?_drop]at hj;simpa using hj
 ·cases hj
theorem dW(g:Nat)(cs:Array Value)(ty:TypeId):Rd (HP.one g (.cells cs ty (0,0))) (some ⟨g,0,none⟩) cs.toList:=λw R h F s hg j u hj=>by
 refine⟨g,0,rfl,?_⟩
 rw[mJ (s.oh _ _ hg)]
 simpa using hj
theorem Rd.left{A B:HP}{a:Option Addr}{xs:List Value}(r:Rd A a xs):Rd (HP.an A B) a xs:=λw R h F s ⟨h1,h2,d,l1,l2,p,_⟩=>r w R h1 _ (s.cut d l1 l2) p
theorem Rd.right{A B:HP}{a:Option Addr}{xs:List Value}(r:Rd B a xs):Rd (HP.an A B) a xs:=λw R h F s ⟨h1,h2,d,l1,l2,_,p⟩=>r w R h2 _ (s.cut d.symm l2 l1) p
theorem cp.ez(e:TypeId)(size:Nat)(a:Option Addr)(n c:Nat)(xs:List Value):HP.aV (cp e size a n c xs) (bb size a n xs):=by
 rintro R h d ⟨hl,hh⟩
 rcases hh with⟨rfl,rfl,_⟩|⟨g,cur,rfl,hg,h1,h2,h3,rfl⟩
 ·exact⟨R,h,PH.le.refl _,d,PH.le.refl _,λ_ _ e=>.inl e,hl,λhn=>absurd rfl hn⟩
 ·obtain⟨R',h',q1,q2,q3,q4,q5⟩:=HP.aV.ez g (.cells cur e (0,0)) R h d hg
  exact⟨R',h',q1,q2,q3,q4,hl,λ_=>⟨g,0,cur,e,(0,0),rfl,q5,by rw[List.drop_zero,hl]⟩⟩
theorem cp.nil(e:TypeId)(size:Nat):∀R h,(cp e size none 0 0 []).p R h:=λ_ _=>⟨by simp,.inl ⟨rfl,rfl,rfl⟩⟩
theorem bb.nil(size:Nat)(a:Option Addr):∀R h,(bb size a 0 []).p R h:=λ_ _=>⟨by simp,λh=>absurd rfl h⟩
theorem cp.len{e:TypeId}{size:Nat}{a:Option Addr}{n c:Nat}{xs:List Value}{R h:PH}(H:(cp e size a n c xs).p R h):xs.length=n*size:=H.1
theorem cp.le{e:TypeId}{size:Nat}{a:Option Addr}{n c:Nat}{xs:List Value}{R h:PH}(H:(cp e size a n c xs).p R h):n<=c:=by
 rcases H.2 with⟨_,e1,e2⟩|⟨g,cur,_,_,h1,_⟩
 ·omega
 ·exact h1
theorem bb.some{size:Nat}{a:Option Addr}{n:Nat}{xs:List Value}{R h:PH}(H:(bb size a n xs).p R h)(hn:0<n):a.isSome=true:=by
 obtain⟨g,off,_,_,_,rfl,_⟩:=H.2 (by omega);rfl
theorem cp.some{e:TypeId}{size:Nat}{a:Option Addr}{n c:Nat}{xs:List Value}{R h:PH}(H:(cp e size a n c xs).p R h)(hn:0<n):a.isSome=true:=by
 rcases H.2 with⟨_,e1,_⟩|⟨g,_,rfl,_⟩
 ·omega
 ·rfl
theorem Sat.grown{w w':World}{R h F:PH}(s:Sat w R h F){row:Option Nat}(hrow:∀g,row=some g->h g≠none)(hg:w.grownBy w' row){g':Nat}{o:Obj}(ho:w'.heap[g']? =some o)(hn:row=some g'\/w.heap.size<=g'):
 Sat w' R (PH.one g' o) F:=by
 have hR:R g'=none:=by
  rcases hn with e|e
  ·exact(s.qL g').resolve_right (hrow g' e)
  ·cases hq:R g' with
   |none=>rfl
   |some y=>have:=s.oR.lt hq;omega
 have hF:F g'=none:=by
  rcases hn with e|e
  ·exact(s.sn g').resolve_left (hrow g' e)
  ·cases hq:F g' with
   |none=>rfl
   |some y=>have:=s.oF.lt hq;omega
 have V3:∀g:PH,g.own w->(∀k,row=some k->g k=none)->g.own w':=λg og gd k y e=>by
  rw[hg.block k (og.lt e) (λe'=>by rw[gd k e'.symm]at e;cases e)];exact og k y e
 refine⟨λk=>?_,s.CL,λk=>?_,V3 R s.oR λk e=>(s.qL k).resolve_right (hrow k e),λk y e=>?_,V3 F s.oF λk e=>(s.sn k).resolve_left (hrow k e),s.gl⟩
 ·by_cases e:k=g'
  ·subst e;exact .inl hR
  ·exact .inr (if_neg e)
 ·by_cases e:k=g'
  ·subst e;exact .inr hF
  ·exact .inl (if_neg e)
 ·obtain⟨rfl,rfl⟩:=PH.lP e;exact ho
theorem bb.join{size:Nat}{a:Option Addr}{n:Nat}{xs:List Value}{B:HP}{R h h':PH}(H:(bb size a n xs).p R h)(K:B.p R h'):(HP.an (bb size a n xs) B).p R h':=⟨PH.cz,h',PH.dY _,PH.cT _,PH.le.refl _,H,K⟩
theorem bb.gR{size:Nat}{a:Option Addr}{n:Nat}{xs:List Value}{B:HP}{R h h':PH}(H:(bb size a n xs).p R h)(K:B.p R h'):(HP.an B (bb size a n xs)).p R h':=HP.ao (bb.join H K)
def kj(t ty:TypeId)(u v:Value):Sem Next:=do pure (.value (<-Builtin.append_ #[t,t] ty #[u,v]))
theorem fm{ρ:bp}{i j:Nat}{t ty:TypeId}{u v:V}(h:i≠j):dM ρ (.call ⟨.builtin .append,#[.tmp i,.tmp j],#[t,t]⟩) ty [(i,u),(j,v)]=kj t ty (u.den ρ) (v.den ρ):=by
 have h':(i==j)=false:=by simpa using h
 simp[dM,execOp,resolve,fl,invoke,builtin,h',kj]
theorem fG(t ty e:TypeId)(i:TypeInfo)(z:Value)(ht:Tryz.prog.underlying t=some (.slice e))(hi:Tryz.prog.info? e=some i)(hz:i.zero=some z)(hzs:z.cells.size=i.size)(hsz:0<i.size)
 (a:Option Addr) (n c:Nat) (xs:List Value) (S:HP) (ad:Addr) (m c2:Nat) (news:List Value) (hr:Rd S (some ad) news) (hl:news.length=m*i.size) (h1:∀u∈news,u.oneCell'=true)
 (h63:n+m<=maxLen) (hb:(n+m)*i.bytes<=140737488355328):
 aI Tryz.prog (kj t ty (.slice a n c) (.slice (some ad) m c2)) (HP.an (cp e i.size a n c xs) S)
  (λv=>HP.ex λa'=>HP.ex λc'=>HP.and (v=.slice a' (n+m) c') (HP.an (cp e i.size a' (n+m) c' (xs++news)) S)):=by
 rintro w R h F s ⟨x1,x2,d,l1,l2,⟨nq,hx⟩,hS⟩
 have hown:w.ownsRow 0 e i.size (.slice a n c) n xs:=by
  refine⟨nq,?_⟩
  rcases hx with⟨rfl,rfl,rfl⟩|⟨g,cur,rfl,hg,q⟩
  ·exact .inl ⟨rfl,rfl⟩
  ·exact .inr ⟨g,c,cur,rfl,Nat.zero_le _,s.oh _ _ (l1 _ _ hg),q⟩
 have uW:=hr w R x2 _ (s.cut d.symm l2 l1) hS
 have hnews:∀j u,news[j]? =some u->w.cell? (ad.add j)=some u:=λj u hj=>by
  obtain⟨g,off,e1,e2⟩:=uW j u hj
  cases e1
  rw[addr_add];exact e2
 obtain⟨v',w',e7,ZQ,hg,sx,hblk⟩:=run_append_own_at (P:=Tryz.prog) w 0 t ty e i z i.size i.bytes ht hi hz rfl rfl hzs hsz (.slice a n c) n xs hown ad m c2 news hl hnews h1 h63 hb (Nat.zero_le _)
 obtain⟨vS,hsh⟩:=ZQ
 have ZF:Same w w':=⟨hg.os,hg.tape,hg.output,hg.size⟩
 have s1:=s.cut d l1 l2
 have hdF:x2.dj F:=s.sn.le l2 (PH.le.refl _)
 rcases hsh with⟨rfl,h0⟩|⟨g',cap,cur,rfl,_,hcell,q1,q2,q3,q4⟩
 ·have hn0:n=0:=by omega
  have hm0:m=0:=by omega
  have e1:=sx.1 rfl
  cases e1.1
  have vT:∀k,k<w.heap.size->w'.heap[k]? =w.heap[k]? :=λk hk=>hg.block k hk (by simp[Value.ownBlock])
  have IC:∀g:PH,g.own w->g.own w':=λg og k y e=>by rw[vT k (og.lt e)];exact og k y e
  refine⟨_,_,w',by unfold kj;rw[Sem.run_bind,e7];rfl,rfl,ZF,R,x1.un x2,PH.le.refl _,⟨(PH.kK (s.qL.le (PH.le.refl _) l1).symm (s.qL.le (PH.le.refl _) l2).symm).symm,s.CL,PH.kK (s.sn.le l1 (PH.le.refl _)) hdF,IC _ s.oR,IC _ (s.oh.le (PH.Lv l1 l2)),IC _ s.oF,s.gl⟩,none,0,?_,x1,x2,d,PH.cC _ _,PH.ck d,?_,hS⟩
  ·rw[hn0,hm0]
  ·exact⟨vS,.inl ⟨rfl,by omega,rfl⟩⟩
 ·have s2:=Sat.grown s1 (row:=(Value.slice a n c).ownBlock) (λg hgr=>by
   rcases hx with⟨rfl,_⟩|⟨g0,agC,rfl,hg0,_⟩
   ·cases hgr
   ·cases hgr;rw[hg0];simp) hg hcell (by
    rcases hblk with e|e
    ·exact .inl e.symm
    ·cases e;exact .inr (Nat.le_refl _))
  obtain⟨s3,d3⟩:=s2.join hdF
  exact⟨_,_,w',by unfold kj;rw[Sem.run_bind,e7];rfl,rfl,ZF,R,_,PH.le.refl _,s3,some ⟨g',0,none⟩,cap,rfl,PH.one g' (.cells cur e (0,0)),x2,d3,PH.cC _ _,PH.ck d3,⟨vS,.inr ⟨g',cur,rfl,PH.cW _ _,q1,q2,q3,q4⟩⟩,hS⟩
def bG(t:TypeId)(p:Value):Sem Next:=do pure (.value (<-Instr.loadAt t p))
theorem qe{ρ:bp}{i:Nat}{t ty:TypeId}{u:V}:dM ρ (.load t (.tmp i)) ty [(i,u)]=bG t (u.den ρ):=by
 simp[dM,execOp,fl,bG]
theorem yX{w:World}{t:TypeId}{g off:Nat}{d:TypeDesc}(hd:Tryz.prog.underlying t=some d)(vs:List Value)(hz:gr Tryz.prog t=vs.length)(hv:∀j v,vs[j]? =some v->w.cell? ⟨g,off+j,none⟩=some v):
 (bG t (.pointer (some ⟨g,off,none⟩))).run Tryz.prog w=.ok (.value (if gF Tryz.prog t then .agg vs.toArray else(vs[0]?).getD undef)) w\/(gF Tryz.prog t=false/\vs.length≠1):=by
 obtain⟨i,hi⟩:=jJ hd
 by_cases ha:gF Tryz.prog t=true
 ·left
  unfold bG
  rw[Sem.run_bind]
  simp only[Instr.loadAt,Instr.sureAddr,Sem.run_bind,Sem.run_pure,Result.andThen_ok,loadVar,RX.hY hd,ha,if_true,RX.run_sizeOf hi,hz,RX.run_loadCells vs hv]
 ·have Oc:gF Tryz.prog t=false:=by simpa using ha
  by_cases hl:vs.length=1
  ·left
   obtain⟨v,rfl⟩:=List.length_eq_one_iff.1 hl
   have h0:=hv 0 v rfl
   rw[Nat.add_zero]at h0
   unfold bG
   rw[Sem.run_bind]
   simp only[Instr.loadAt,Instr.sureAddr,Sem.run_bind,Sem.run_pure,Result.andThen_ok,loadVar,RX.hY hd,Oc,Bool.false_eq_true,if_false,RX.run_load h0]
   rfl
  ·exact .inr ⟨Oc,hl⟩
theorem b7{t:TypeId}{d:TypeDesc}(hd:Tryz.prog.underlying t=some d)(ha:gF Tryz.prog t=false)(hz:gr Tryz.prog t=1){S:HP}{a:Option Addr}{xs:List Value}(hr:Rd S a xs){k off:Nat}{v:Value}(hk:xs[k+off]? =some v):
 aH Tryz.prog (bG t (.pointer (a.map λx=>(x.add k).add off))) S v:=λw R h F s hS=>by
 obtain⟨g,o,rfl,hc⟩:=hr w R h F s hS (k+off) v hk
 simp only[Option.map_some,addr_add]
 rcases yX (w:=w) (g:=g) (off:=o+k+off) hd [v] (by simpa using hz) (λj u hj=>by
  cases j with
  |zero=>simp only[List.getElem?_cons_zero,Option.some.injEq]at hj;subst hj;rw[show o+k+off+0=o+(k+off) by omega];exact hc
  |succ j=>simp at hj)with e|e
 ·rw[e,ha];rfl
 ·simp at e
theorem kk{t:TypeId}{d:TypeDesc}(hd:Tryz.prog.underlying t=some d)(ha:gF Tryz.prog t=true){S:HP}{a:Option Addr}{xs:List Value}(hr:Rd S a xs){k off:Nat}{vs:List Value}(hz:gr Tryz.prog t=vs.length)(hp:0<vs.length)(hk:∀j v,vs[j]? =some v->xs[k+off+j]? =some v):
 aH Tryz.prog (bG t (.pointer (a.map λx=>(x.add k).add off))) S (.agg vs.toArray):=λw R h F s hS=>by
 obtain⟨v0,hv0⟩:∃v,vs[0]? =some v:=⟨vs[0],by simp[hp]⟩
 obtain⟨g,o,rfl,_⟩:=hr w R h F s hS (k+off+0) v0 (hk 0 v0 hv0)
 simp only[Option.map_some,addr_add]
 rcases yX (w:=w) (g:=g) (off:=o+k+off) hd vs hz (λj u hj=>by
  obtain⟨g',o',e,hc⟩:=hr w R h F s hS (k+off+j) u (hk j u hj)
  cases e
  rw[show o+k+off+j=o+(k+off+j) by omega];exact hc)with e|e
 ·rw[e,ha];rfl
 ·rw[ha]at e;exact absurd e.1 (by simp)
def je(t:TypeId)(x:Value)(lo hi mx:Option Value):Sem Next:=do pure (.value (<-Instr.sliceAt t x lo hi mx))
def iv(x:Option Nat):Option Value:=x.map λn=>.int .i64 (n:Int)
theorem lW{w:World}{n y:Nat}{c:BoundsCode}(h:n<=y):(Instr.sliceBound (.int .i64 (n:Int)) y c).run Tryz.prog w=.ok n w:=by
 have:(0:Int)<=n/\(n:Int)<=y:=⟨by omega,by omega⟩
 simp[Instr.sliceBound,asIntOf,this]
theorem dC{t e:TypeId}(ht:Tryz.prog.underlying t=some (.slice e)){i:TypeInfo}(hi:Tryz.prog.info? e=some i)(S:HP)(a:Option Addr)(n c:Nat)(lo LR mx:Option Nat)(h1:lo.getD 0<=LR.getD n)(h2:LR.getD n<=mx.getD c)(h3:mx.getD c<=c)(h4:mx.isSome=true->LR.isSome=true):
 aH Tryz.prog (je t (.slice a n c) (iv lo) (iv LR) (iv mx)) S (.slice (if mx.getD c=lo.getD 0 then a else a.map (·.add (lo.getD 0*gr Tryz.prog e))) (LR.getD n - lo.getD 0) (mx.getD c - lo.getD 0)):=λw R h F s hS=>by
 unfold je
 rw[Sem.run_bind]
 have hb:(Instr.sliceBounds true n c (iv lo) (iv LR) (iv mx)).run Tryz.prog w=.ok (lo.getD 0,LR.getD n,mx.getD c) w:=by
  unfold Instr.sliceBounds iv
  cases mx<;>cases LR<;>cases lo<;>simp only[Option.getD_some,Option.getD_none,Option.isSome_some,Option.isSome_none]at h1 h2 h3 h4<;>first|(have h5:=h4 trivial;cases h5;done)|simp[Sem.run_bind,lW h1,lW h2,lW h3,lW (Nat.zero_le _)]
 have:(Instr.sliceAt t (.slice a n c) (iv lo) (iv LR) (iv mx)).run Tryz.prog w=.ok (.slice (if mx.getD c=lo.getD 0 then a else a.map (·.add (lo.getD 0*gr Tryz.prog e))) (LR.getD n - lo.getD 0) (mx.getD c - lo.getD 0)) w:=by
  simp only[Instr.sliceAt,Instr.slice,Sem.run_bind,RX.run_underlying ht,Result.andThen_ok,hb,RX.run_sizeOf hi,Sem.run_pure]
 rw[this];rfl
theorem bb.sub{size:Nat}{a:Option Addr}{n:Nat}{xs:List Value}{R h:PH}(H:(bb size a n xs).p R h)(lo hi c:Nat)(h1:lo<=hi)(h2:hi<=n)(h3:hi<=c):
 (bb size (if c=lo then a else a.map (·.add (lo*size))) (hi - lo) ((xs.drop (lo*size)).take ((hi - lo)*size))).p R h:=by
 obtain⟨hl,hh⟩:=H
 have hlen:((xs.drop (lo*size)).take ((hi - lo)*size)).length=(hi - lo)*size:=by
  rw[List.length_take,List.length_drop,hl,<-Nat.sub_mul]
  exact Nat.min_eq_left (Nat.mul_le_mul_right _ (by omega))
 refine⟨hlen,λhn=>?_⟩
 obtain⟨g,off,cur,ty,fr,rfl,hR,hc⟩:=hh (by omega)
 rw[if_neg (by omega)]
 simp only[Option.map_some,addr_add]
 refine⟨g,off+lo*size,cur,ty,fr,rfl,hR,?_⟩
 rw[hlen,<-hc,List.drop_take,List.drop_drop,List.take_take,hl]
 congr 1
 rw[<-Nat.sub_mul]
 exact(Nat.min_eq_left (Nat.mul_le_mul_right _ (by omega))).symm
def bH(t:TypeId)(p x:Value):Sem Next:=do Instr.storeAt t p x;pure .skip
theorem lX{t:TypeId}{i:TypeInfo}(hi:Tryz.prog.info? t=some i)(e:TypeId)(size:Nat)(a:Option Addr)(n c:Nat)(xs:List Value)(k off:Nat)(x:Value)(vs:List Value)(hx:x.cells=vs.toArray)(hz:i.size=vs.length)(hp:0<vs.length)(h1:∀v∈vs,v.oneCell'=true)(hk:k+off+vs.length<=n*size):
 aI Tryz.prog (bH t (.pointer (a.map λx=>(x.add k).add off)) x) (cp e size a n c xs) (λv=>HP.and (v=.tuple #[]) (cp e size a n c (xs.take (k+off)++vs++xs.drop (k+off+vs.length)))):=by
 rintro w R h F s ⟨hl,hh⟩
 rcases hh with⟨_,rfl,_⟩|⟨g,cur,rfl,hg,q1,q2,q3,q4⟩
 ·rw[Nat.zero_mul]at hk;omega
 ·have hw:=s.oh _ _ hg
  simp only[Option.map_some,addr_add]
  have hsz:n*size<=cur.size:=by rw[q3];exact Nat.mul_le_mul_right _ q1
  have hst:=run_storeCells_at (P:=Tryz.prog) g (0+k+off) e vs 0 cur w hw (by omega) h1
  have e7:(bH t (.pointer (some ⟨g,0+k+off,none⟩)) x).run Tryz.prog w=.ok .skip (w.setRow g (cur.toList.take (0+k+off+0)++vs++cur.toList.drop (0+k+off+0+vs.length)).toArray):=by
   unfold bH
   simp only[Instr.storeAt,Instr.sureAddr,Sem.run_bind,Sem.run_pure,Result.andThen_ok,storeVar,RX.run_sizeOf hi,hx,List.size_toArray,gr,hi,hz,ne_eq,not_true_eq_false,if_false,hst]
  refine⟨.skip,_,_,e7,rfl,⟨rfl,rfl,rfl,by simp⟩,R,_,PH.le.refl _,s.aY (y:=.cells (cur.toList.take (0+k+off+0)++vs++cur.toList.drop (0+k+off+0+vs.length)).toArray e (0,0)) hg (λj hj=>setRow_other w g j _ hj) (setRow_heap w g cur _ e (0,0) hw),rfl,?_,.inr ⟨g,_,rfl,if_pos rfl,q1,q2,?_,?_⟩⟩
  ·simp only[List.length_append,List.length_take,List.length_drop,hl]
   omega
  ·simp only[List.size_toArray,List.length_append,List.length_take,List.length_drop,Array.length_toList]
   omega
  ·subst q4
   have e1:(0+k+off+0)=k+off:=by omega
   rw[e1]
   simp only[List.take_append,List.length_append,List.length_take,Array.length_toList,List.take_take,List.drop_take,List.length_drop]
   have m1:min (k+off) cur.size=k+off:=by omega
   have m2:min (n*size) (k+off)=k+off:=by omega
   have m3:min (k+off) (n*size)=k+off:=by omega
   rw[m1,m2,m3,List.take_of_length_le (by omega:vs.length<=n*size - (k+off))]
theorem tI{ρ:bp}{i j:Nat}{t ty:TypeId}{u v:V}(h:i≠j):dM ρ (.store t (.tmp i) (.tmp j)) ty [(i,u),(j,v)]=bH t (u.den ρ) (v.den ρ):=by
 have h':(i==j)=false:=by simpa using h
 simp[dM,execOp,fl,h',bH]
end
namespace RX
-- ZR.Clone[[]agF,agF]:ρ:=[.a sa,.n sl,.n sc,.p sP]
def Di:T:=
(.br (.not (.is 0))
(.ret .z [(0,3)])
(.new
(.op (.call ⟨.builtin .append,#[.tmp 5,.tmp 6],#[42,42]⟩) 42 [(5,.sl (.b 4 0) (.n 0) (.n 0)),(6,.s 0)] [(.b 4,.cells [] 5),(0,3)] [.a,.n,.n,.p] (.s 5) [(5,8),(0,3)]
(.ret (.s 5) [(0,3),(5,8)]))))
theorem Dj:tree Tryz.prog {} Tryz.f55 [.s 0] [(0,3)] 4=Di:=by kernel_rfl
def L0:T:=
(.new
(.op (.call ⟨.builtin .append,#[.tmp 8,.tmp 10],#[42,42]⟩) 42 [(8,.s 1),(10,.sl (.b 6 0) (.n 1) (.n 1))] [(1,4),(.b 6,.cells [.int .u8 5] 5)] [.a,.n,.n,.p] (.s 7) [(7,10),(.b 6,.cells [.int .u8 5] 5)]
(.ret (.au []) [(.b 0,.cells [.s 7] 168),(7,10)])))
theorem ID:tree Tryz.prog {} Tryz.f87 [.ptr 0 0,.a (.int .u8 5)] [(.b 0,.cells [.s 1] 168),(1,4)] 6=L0:=by kernel_rfl
def L4:T:=
(.ret (.w (.a (.int .i64 (.o2 .mn (.o2 .mx 0 (.i 0)) (.i 8))))) [])
theorem IE:tree Tryz.prog {} Tryz.f132 [0] [] 1=L4:=by kernel_rfl
def yY:T:=
(.call 132 [3] [] [.i] 4 []
(.loop [.i,.p] [.z (.i 0),.p [(.b 0,1)]]
(.br (.lt 5 4)
  (.rg (.sub 4 (.i 1))
  (.rg (.sub (.sub 4 (.i 1)) 5)
  (.rg (.o2 .mul (.i 8) (.sub (.sub 4 (.i 1)) 5))
(.need (.le (.i 0) (.o2 .mul (.i 8) (.sub (.sub 4 (.i 1)) 5)))
(.call 87 [.ptr 0 0,.a (.int .u8 (.o1 (.wrap .u8) (.o2 (.shr .u64) 2 (.o2 .mul (.i 8) (.sub (.sub 4 (.i 1)) 5)))))] [(.b 0,6)] [.p] (.au []) [(.b 0,7)]
  (.rg (.add 5 (.i 1))
(.again 0 [.z (.add 5 (.i 1)),.p [(.b 0,7)]])))))))
(.ret (.au []) [(.b 0,6)]))))
theorem A6:tree Tryz.prog {hv:=[(0,[.b 0])]} Tryz.f129 [.ptr 0 0,.a (.int .u64 2),3] [(.b 0,1)] 4=yY:=by kernel_rfl
def Dk:T:=
(.call 129 [.ptr 0 0,.a (.int .u64 (.o1 (.wrap .u64) (.of 6))),.k 4] [(.b 0,.cells [.s 1] 168),(1,4)] [.a,.n,.n,.p] (.au []) [(.b 0,.cells [.s 9] 168),(9,12)]
(.op (.call ⟨.builtin .append,#[.tmp 13,.tmp 14],#[42,42]⟩) 42 [(13,.s 9),(14,.s 5)] [(9,12),(5,8)] [.a,.n,.n,.p] (.s 13) [(13,16),(5,8)]
(.ret (.au []) [(.b 0,.cells [.s 13] 168),(13,16),(5,8)])))
theorem Dl:tree Tryz.prog {} Tryz.f90 [.ptr 0 0,.s 5] [(.b 0,.cells [.s 1] 168),(1,4),(5,8)] 9=Dk:=by kernel_rfl
def Sf:T:=
(.call 55 [.s 1] [(1,4)] [.a,.n,.n,.p,.p] (.s 5) [(5,8),(1,9)]
(.ret (.s 5) [(.b 0,.cells [.s 1] 168),(1,9),(5,8)]))
theorem Om:tree Tryz.prog {} Tryz.f92 [.ptr 0 0] [(.b 0,.cells [.s 1] 168),(1,4)] 5=Sf:=by kernel_rfl
end RX
section
open RX
def fH(b:UInt8):Value:=.int .u8 b.toNat
theorem Wj(l:List UInt8):∀u∈l.map fH,u.oneCell'=true:=λu hu=>by
 obtain⟨b,_,rfl⟩:=List.mem_map.1 hu;rfl
abbrev du(a:Option Addr)(n c:Nat)(l:List UInt8):HP:=cp 5 1 a n c (l.map fH)
abbrev aO(a:Option Addr)(n:Nat)(l:List UInt8):HP:=bb 1 a n (l.map fH)
structure bR(S:HP)(a:Option Addr)(n:Nat)(xs:List Value):Prop where
 rd:Rd S a xs
 none:∀R h,S.p R h->a=none->n=0
theorem bR.ro(size:Nat)(a:Option Addr)(n:Nat)(xs:List Value):bR (bb size a n xs) a n xs:=
 ⟨bb.rd size a n xs,λR h H e=>Classical.byContradiction λhn=>by subst e;have:=bb.some H (by omega);cases this⟩
theorem bR.ow(e:TypeId)(size:Nat)(a:Option Addr)(n c:Nat)(xs:List Value):bR (cp e size a n c xs) a n xs:=
 ⟨cp.rd e size a n c xs,λR h H e=>Classical.byContradiction λhn=>by subst e;have:=cp.some H (by omega);cases this⟩
theorem L6:(Tryz.prog.info? 5).map (λi=>(i.zero,i.size,i.bytes))=some (some (.int .u8 0),1,1):=by kernel_rfl
theorem lY:Tryz.prog.underlying 42=some (.slice 5):=by kernel_rfl
theorem kS(a:Option Addr)(n c:Nat)(l:List UInt8)(S:HP)(b:Option Addr)(m c2:Nat)(q:List UInt8)(hr:bR S b m (q.map fH))(hm:q.length=m)(Yk:m≠0->b.isSome=true)(hb:n+m<=140737488355328):
 aI Tryz.prog (kj 42 42 (.slice a n c) (.slice b m c2)) (HP.an (du a n c l) S)
  (λv=>HP.ex λa'=>HP.ex λc'=>HP.and (v=.slice a' (n+m) c') (HP.an (du a' (n+m) c' (l++q)) S)):=by
 obtain⟨i,hi,h1,h2,h3⟩:=info_parts L6
 cases b with
 |some ad=>
  have:=fG 42 42 5 i (.int .u8 0) lY hi h1 (by rw[h2];rfl) (by omega) a n c (l.map fH) S ad m c2 (q.map fH) hr.rd (by simp[hm,h2]) (Wj q) (by unfold maxLen;omega) (by rw[h3];omega)
  rw[h2]at this
  simp only[du,List.map_append]
  exact this
 |none=>
  have hm0:m=0:=Classical.byContradiction λh=>by have:=Yk h;cases this
  subst hm0
  obtain rfl:q=[]:=List.eq_nil_of_length_eq_zero hm
  rintro w R h F s ⟨x1,x2,d,l1,l2,H,hS⟩
  have H0:=H
  obtain⟨nq,hx⟩:=H
  have hnc:n<=c:=by
   rcases hx with⟨_,rfl,rfl⟩|⟨g,cur,_,_,hnc,_⟩
   ·exact Nat.le_refl _
   ·exact hnc
  refine⟨.value (.slice a n c),_,w,?_,rfl,Same.refl w,R,h,PH.le.refl _,s,a,c,rfl,x1,x2,d,l1,l2,by rw[List.append_nil];exact H0,hS⟩
  cases a<;>simp[kj,Builtin.append_,run_underlying lY,sizeOf,typeInfo,hi,h2,Builtin.lenOf,Builtin.firstCells,hnc,storeCells]
theorem j5(S:HP)(a:Option Addr)(n c:Nat)(l:List UInt8)(hr:bR S a n (l.map fH))(hl:l.length=n)(hb:n<=140737488355328):
 ax Tryz.prog 55 #[.slice a n c] S (λv=>HP.ex λa'=>HP.ex λc'=>HP.and (v=.slice a' n c') (HP.an (du a' n c' l) S)):=by
 refine ah (ρ:=[.a a,.n n,.n c,.p S]) mixed Tryz.func55 Dj ?_
 unfold Di
 refine cY ?_
 refine⟨λha=>.of λR h H=>?_,λha x=>?_⟩
 ·have hn:n=0:=hr.none R h H (by simpa using ha)
  subst hn
  obtain rfl:l=[]:=List.eq_nil_of_length_eq_zero hl
  exact⟨none,0,rfl,HP.aM H|>λH=>HP.ae H (λx _=>cp.nil _ _ R x) λ_ h=>h⟩
 ·rw[fm (by decide)]
  refine cY ?_
  have:=kS (some ⟨x,0,none⟩) 0 0 [] S a n c l hr hl (λ_=>by simpa[Option.isSome_iff_ne_none]using ha) (by omega)
  refine this.ak (λR h H=>HP.ae H (λy hy=>⟨rfl,.inr ⟨x,#[],rfl,hy,Nat.le_refl _,by unfold maxLen;omega,rfl,rfl⟩⟩) λ_ h=>h) ?_
  rintro v R h ⟨a',c',rfl,H⟩
  rw[Nat.zero_add,List.nil_append]at H
  exact⟨a',n,c',du a' n c' l,by rw[Nat.zero_add],.of λR' h' H'=>⟨a',c',rfl,HP.ao H'⟩,H⟩
theorem ei(S:HP)(a:Option Addr)(n c:Nat)(l:List UInt8)(hr:bR S a n (l.map fH))(hl:l.length=n)(hb:n<=140737488355328):
 ax Tryz.prog 55 #[.slice a n c] S (λv=>HP.ex λa'=>HP.ex λc'=>HP.and (v=.slice a' n c') (HP.an (aO a' n l) S)):=
 (j5 S a n c l hr hl hb).post λv=>λR h d ⟨a',c',e,H⟩=>by
   obtain⟨R1,h1,q1,q2,q3,q4,H1⟩:=(HP.aV.an (cp.ez _ _ _ _ _ _) S) R h d H
   exact⟨R1,h1,q1,q2,q3,q4,a',c',e,H1⟩
def cA(b:Nat)(l:List UInt8):HP:=HP.ex λa=>HP.ex λc=>HP.an (HP.one b (.cells #[.slice a l.length c] 168)) (du a l.length c l)
theorem Dn(n:Int)(S:HP):ax Tryz.prog 132 #[.int .i64 n] S (λv=>HP.and (v=.int .i64 (min (max n 0) 8)) S):=by
 have:ax Tryz.prog 132 #[.int .i64 n] HP.tt (λv=>HP.pure (v=.int .i64 (min (max n 0) 8))):=by
  refine ah (ρ:=[.i n]) mixed Tryz.func132 IE ?_
  unfold L4
  refine cY ?_
  exact .of λ_ _ _=>trivial
 exact(this.frame S).ak (λ_ _ H=>HP.aM H) λv R h H=>⟨HP.aj H,HP.ai H⟩
theorem km(b:Nat)(l:List UInt8)(x:UInt8)(hb:l.length<140737488355328):
 ax Tryz.prog 87 #[.pointer (some ⟨b,0,none⟩),.int .u8 x.toNat] (cA b l) (λv=>HP.and (v=.tuple #[]) (cA b (l++[x]))):=by
 unfold cA
 refine ax.ex λa=>ax.ex λc=>?_
 refine ah (ρ:=[.n b,.a a,.n l.length,.n c,.p (du a l.length c l),.i x.toNat]) mixed Tryz.func87 ID ?_
 unfold L0
 refine cY ?_
 intro y
 rw[fm (by decide)]
 refine cY ?_
 refine(kS a l.length c l _ (some ⟨y,0,none⟩) 1 1 [x] ⟨dW y #[fH x] _,λ_ _ _ e=>by cases e⟩ rfl (λ_=>rfl) (by omega)).ak (λ_ _ h=>h) ?_
 rintro v R h ⟨a',c',rfl,H⟩
 refine⟨a',l.length+1,c',du a' (l.length+1) c' (l++[x]),rfl,.of λR h H=>⟨trivial,a',c',?_⟩,H⟩
 rw[List.length_append];exact H
def sy(v n j:Nat):UInt8:=UInt8.ofNat (v / 2^(8*(n - 1 - j)))
def gw(v n:Nat):List UInt8:=(List.range n).map (sy v n)
theorem Do(v n j:Nat)(hj:j<n)(hn:n<=8):IntKind.u8.wrap ((v:Int).fdiv (2^(min (8*((n:Int) - 1 - (j:Int))).toNat IntKind.u64.bits)))=((sy v n j).toNat:Int):=by
 have e1:(8*((n:Int) - 1 - (j:Int))).toNat=8*(n - 1 - j):=by omega
 rw[e1,Nat.min_eq_left (by simp[IntKind.bits];omega)]
 have e2:((v:Int).fdiv (2^(8*(n - 1 - j))))=((v / 2^(8*(n - 1 - j)):Nat):Int):=by
  rw[Int.fdiv_eq_ediv_of_nonneg _ (Int.pow_nonneg (by decide))]
  simp
 rw[e2]
 simp only[IntKind.wrap,IntKind.bits,IntKind.signed,sy,UInt8.toNat_ofNat',Bool.false_and,Bool.false_eq_true,if_false]
 omega
theorem Sg(v n j:Nat)(hj:j<n):(gw v n).take (j+1)=(gw v n).take j++[sy v n j]:=by
 rw[List.take_succ_eq_append_getElem (by simpa[gw]using hj)]
 congr 2
 simp[gw]
theorem bZ(v n:Nat):(gw v n).length=n:=by simp[gw]
theorem gb(b:Nat)(l:List UInt8)(v:Nat)(n:Nat)(hn:n<=8)(hb:l.length+8<140737488355328):
 ax Tryz.prog 129 #[.pointer (some ⟨b,0,none⟩),.int .u64 v,.int .i64 n] (cA b l) (λr=>HP.and (r=.tuple #[]) (cA b (l++gw v n))):=by
 refine ah (ρ:=[.n b,.p (cA b l),.i v,.i n]) mixed Tryz.func129 A6 ?_
 unfold yY
 refine cY ?_
 refine(Dn n HP.tt).ak (λ_ _ h=>h) ?_
 rintro r R h ⟨rfl,H⟩
 refine⟨min (max n 0) 8,rfl,?_,H⟩
 rw[show min (max (n:Int) 0) 8=n by omega]
 refine⟨λk p=>∃i:Nat,k=i/\i<=n/\HP.aV p (cA b (l++(gw v n).take i)),λk p=>n - k.toNat,⟨0,rfl,Nat.zero_le _,by simpa using HP.aV.refl _⟩,?_⟩
 rintro k p ⟨i,rfl,hi,hp⟩
 refine⟨λhlt=>?_,λlN=>?_⟩
 ·have qX:i<n:=by omega
  have r:∀x:Int,-100<=x->x<=100->IntKind.i64.min<=x/\x<=IntKind.i64.max:=λx h1 h2=>by simp[IntKind.min,IntKind.max,IntKind.signed,IntKind.bits];omega
  refine⟨r _ (by omega) (by omega),λ_=>⟨r _ (by omega) (by omega),λ_=>⟨r _ (by omega) (by omega),λ_=>⟨by omega,λ_=>?_⟩⟩⟩⟩
  rw[Do v n i qX hn]
  refine(km b _ (sy v n i) (by simp[bZ];omega)).be (hp.trans (.of λ_ _=>HP.az)) λr=>.of λR h H=>?_
  obtain⟨rfl,H2⟩:=HP.aj H
  refine⟨cA b (l++(gw v n).take i++[sy v n i]),rfl,⟨r _ (by omega) (by omega),λ_=>?_⟩,H2⟩
  refine⟨⟨i+1,by omega,qX,?_⟩,by dsimp only;omega⟩
  rw[Sg v n i qX,<-List.append_assoc]
  exact HP.aV.refl _
 ·have:i=n:=by omega
  subst this
  refine hp.trans (.of λR h H=>⟨trivial,?_⟩)
  rw[List.take_of_length_le (by rw[bZ];exact Nat.le_refl _)]at H
  exact H
theorem o3(b:Nat)(l:List UInt8)(a:Option Addr)(n c:Nat)(q:List UInt8)(S:HP)(hr:bR S a n (q.map fH))(hq:q.length=n)(hs:n≠0->a.isSome=true)(hb:l.length+n+100<140737488355328):
 ax Tryz.prog 90 #[.pointer (some ⟨b,0,none⟩),.slice a n c] (HP.an (cA b l) S) (λr=>HP.and (r=.tuple #[]) (HP.an (cA b (l++gw n 4++q)) S)):=by
 unfold cA
 refine(ax.ex (A:=λwa=>HP.ex λwc=>HP.an (HP.an (HP.one b (.cells #[.slice wa l.length wc] 168)) (du wa l.length wc l)) S) λwa=>ax.ex λwc=>?_).ak (λR h ⟨h1,h2,d,l1,l2,⟨wa,wc,H⟩,hS⟩=>⟨wa,wc,h1,h2,d,l1,l2,H,hS⟩) λ_ _ _ h=>h
 refine(ah (ρ:=[.n b,.a wa,.n l.length,.n wc,.p (du wa l.length wc l),.a a,.n n,.n c,.p S]) mixed Tryz.func90 Dl ?_).ak (λ_ _=>HP.aq) λ_ _ _ h=>h
 unfold Dk
 refine cY ?_
 have hw:IntKind.u64.wrap (n:Int)=n:=gu ⟨by simp[IntKind.min,IntKind.signed],by simp[IntKind.max,IntKind.signed,IntKind.bits];omega⟩
 rw[hw]
 refine(gb b l n 4 (by omega) (by omega)).ak (λR h H=>⟨wa,wc,H⟩) ?_
 rintro r R h ⟨rfl,xa,xc,H⟩
 refine⟨xa,_,xc,du xa (l++gw n 4).length xc (l++gw n 4),rfl,?_,H⟩
 rw[fm (by decide)]
 refine cY ?_
 refine(kS xa _ xc (l++gw n 4) S a n c q hr hq hs (by simp[bZ];omega)).ak (λ_ _ h=>h) ?_
 rintro v R h ⟨a',c',rfl,H⟩
 refine⟨a',_,c',du a' _ c' _,rfl,.of λR h H=>⟨trivial,?_⟩,H⟩
 have e:(l++gw n 4).length+n=(l++gw n 4++q).length:=by simp[hq];omega
 rw[e]at H
 exact HP.ae (HP.ay H) (λ_ h=>⟨a',c',h⟩) λ_ h=>h
theorem iF(b:Nat)(l:List UInt8)(hb:l.length<140737488355328):
 ax Tryz.prog 92 #[.pointer (some ⟨b,0,none⟩)] (cA b l) (λv=>HP.ex λa'=>HP.ex λc'=>HP.and (v=.slice a' l.length c') (HP.an (cA b l) (du a' l.length c' l))):=by
 unfold cA
 refine ax.ex λwa=>ax.ex λwc=>?_
 refine ah (ρ:=[.n b,.a wa,.n l.length,.n wc,.p (du wa l.length wc l)]) mixed Tryz.func92 Om ?_
 unfold Sf
 refine cY ?_
 refine(j5 _ wa _ wc l (bR.ow _ _ _ _ _ _) rfl (by omega)).ak (λ_ _ h=>h) ?_
 rintro v R h ⟨a',c',rfl,H⟩
 exact⟨a',_,c',du a' _ c' l,du wa l.length wc l,rfl,.of λR h H=>⟨a',c',rfl,HP.ae (HP.ay H) (λ_ h=>⟨wa,wc,h⟩) λ_ h=>h⟩,H⟩
end
section
def aX:List HP->HP
 |[]=>HP.tt
 |[x]=>x
 |x::y::r=>HP.an x (aX (y::r))
theorem bE{x:HP}{r:List HP}{R h:PH}:(aX (x::r)).p R h↔(HP.an x (aX r)).p R h:=by
 cases r with
 |nil=>exact⟨λH=>HP.az H,λH=>HP.aj H⟩
 |cons y q=>exact Iff.rfl
theorem o4{l m:List HP}(p:l.Perm m):∀ {R h:PH},(aX l).p R h->(aX m).p R h:=by
 induction p with
 |nil=>exact λH=>H
 |cons x _ ih=>exact λH=>bE.2 (HP.ae (bE.1 H) (λ_ h=>h) λ_ h=>ih h)
 |swap x y r=>
  exact λH=>bE.2 (HP.ae (HP.swap (HP.ae (bE.1 H) (λ_ h=>h) λ_ h=>bE.1 h)) (λ_ h=>h) λ_ h=>bE.2 h)
 |trans _ _ ih1 ih2=>exact λH=>ih2 (ih1 H)
theorem Dp(f:Nat->HP):∀(S' S:List Nat) {R h:PH},S'.Nodup->(∀i∈S',i∈S)->(aX (S.map f)).p R h->(aX (S'.map f)).p R h
 |[],_,_,_,_,_,_=>trivial
 |i::r,S,R,h,hn,hs,H=>by
  have hp:(S.map f).Perm (f i::(S.erase i).map f):=((List.perm_cons_erase (hs i (List.mem_cons_self ..))).map f)
  have H1:=bE.1 (o4 hp H)
  rw[List.nodup_cons]at hn
  exact bE.2 (HP.ae H1 (λ_ h=>h) λ_ h=>Dp f r (S.erase i) hn.2 (λj hj=>(List.mem_erase_of_ne (λe=>hn.1 (by rw[<-e];exact hj))).2 (hs j (List.mem_cons_of_mem _ hj))) h)
theorem HP.pick(l:List HP)(idx:List Nat)(hn:idx.Nodup)(hb:idx.all (λi=>decide (i<l.length))=true){R h:PH}(H:(aX l).p R h):(aX (idx.map λi=>l.getD i HP.tt)).p R h:=by
 refine Dp (λi=>l.getD i HP.tt) idx (List.range l.length) hn (λi hi=>List.mem_range.2 (by simpa using List.all_eq_true.1 hb i hi)) ?_
 have e:(List.range l.length).map (λi=>l.getD i HP.tt)=l:=by
  apply List.ext_getElem
  ·simp
  ·intro i h1 h2
   simp at h1
   simp[h1]
 rw[e];exact H
theorem eB{l m:List HP}{R h:PH}:(aX (l++m)).p R h↔(HP.an (aX l) (aX m)).p R h:=by
 induction l generalizing h with
 |nil=>exact⟨λH=>HP.aM H,λH=>HP.ai H⟩
 |cons x r ih=>
  rw[List.cons_append,bE]
  constructor
  ·intro H
   exact HP.ae (HP.ay (HP.ae H (λ_ h=>h) λ_ h=>ih.1 h)) (λ_ h=>bE.2 h) λ_ h=>h
  ·intro H
   exact HP.ae (HP.aq (HP.ae H (λ_ h=>bE.1 h) λ_ h=>h)) (λ_ h=>h) λ_ h=>ih.2 h
end
section
open RX
def dN(i:Int):Value:=.int .i64 i
theorem Sj(l:List Int):∀u∈l.map dN,u.oneCell'=true:=λu hu=>by
 obtain⟨b,_,rfl⟩:=List.mem_map.1 hu;rfl
abbrev o5(a:Option Addr)(n c:Nat)(l:List Int):HP:=cp 3 1 a n c (l.map dN)
abbrev pp(a:Option Addr)(n:Nat)(l:List Int):HP:=bb 1 a n (l.map dN)
theorem iG:(Tryz.prog.info? 3).map (λi=>(i.zero,i.size,i.bytes))=some (some (.int .i64 0),1,8):=by kernel_rfl
theorem kE:Tryz.prog.underlying 71=some (.slice 3):=by kernel_rfl
theorem pE:Tryz.prog.underlying 3=some (.int .i64):=by kernel_rfl
theorem A7:gF Tryz.prog 3=false:=by kernel_rfl
theorem L7:gr Tryz.prog 3=1:=by kernel_rfl
theorem o6(a:Option Addr)(n c:Nat)(l:List Int)(S:HP)(ad:Addr)(m c2:Nat)(q:List Int)(hr:Rd S (some ad) (q.map dN))(hm:q.length=m)(hb:n+m<=1000000000):
 aI Tryz.prog (kj 71 71 (.slice a n c) (.slice (some ad) m c2)) (HP.an (o5 a n c l) S)
  (λv=>HP.ex λa'=>HP.ex λc'=>HP.and (v=.slice a' (n+m) c') (HP.an (o5 a' (n+m) c' (l++q)) S)):=by
 obtain⟨i,hi,h1,h2,h3⟩:=info_parts iG
 have:=fG 71 71 3 i (.int .i64 0) kE hi h1 (by rw[h2];rfl) (by omega) a n c (l.map dN) S ad m c2 (q.map dN) hr (by simp[hm,h2]) (Sj q) (by unfold maxLen;omega) (by rw[h3];omega)
 rw[h2]at this
 simp only[o5,List.map_append]
 exact this
theorem A8{ρ:bp}{i:Nat}{x:V}{S:HP}{a:Option Addr}{n c:Nat}{l:List UInt8}(hx:x.den ρ=.slice a n c)(hr:bR S a n (l.map fH))(hl:l.length=n):
 aH Tryz.prog (dM ρ (.convert 42 9 (.tmp i)) 9 [(i,x)]) S (.string ⟨l.toArray⟩):=λw R h F s hS=>by
 subst hl
 have hc:(convert 42 9 (.slice a l.length c)).run Tryz.prog w=.ok (.string ⟨l.toArray⟩) w:=by
  cases a with
  |none=>
   have h0:l.length=0:=hr.none R h hS rfl
   rw[h0,List.length_eq_zero_iff.1 h0]
   exact Lib.run_convert_nil_bytes w _ _ 5 0 Tryz.underlying42 Tryz.underlying5 Tryz.underlying9
  |some y=>
   refine run_convert_bytes_back w _ _ 5 y c l Tryz.underlying42 Tryz.underlying5 Tryz.underlying9 (λj hj=>?_)
   obtain⟨g,off,e1,e2⟩:=hr.rd w R h F s hS j (fH l[j]) (by simp[hj])
   cases e1
   rw[addr_add,e2]
   rfl
 have:(dM ρ (.convert 42 9 (.tmp i)) 9 [(i,x)]).run Tryz.prog w=.ok (.value (.string ⟨l.toArray⟩)) w:=by
  simp[dM,execOp,fl,hx,Sem.run_bind,hc]
 exact this
theorem ij{t:TypeId}{i:TypeInfo}(hi:Tryz.prog.info? t=some i)(e:TypeId)(b:Nat)(cs:Array Value)(off:Nat)(x:Value)(vs:List Value)(hx:x.cells=vs.toArray)(hz:i.size=vs.length)(hp:0<vs.length)(h1:∀v∈vs,v.oneCell'=true)(hk:off+vs.length<=cs.size)(hm:1<=maxLen):
 aI Tryz.prog (bH t (.pointer (some ⟨b,off,none⟩)) x) (HP.one b (.cells cs e (0,0))) (λv=>HP.and (v=.tuple #[]) (HP.one b (.cells (cs.toList.take off++vs++cs.toList.drop (off+vs.length)).toArray e (0,0)))):=by
 have:=lX hi e cs.size (some ⟨b,0,none⟩) 1 1 cs.toList 0 off x vs hx hz hp h1 (by omega)
 simp only[Option.map_some,addr_add,Nat.zero_add]at this
 refine this.ak (λR h H=>⟨by simp,.inr ⟨b,cs,rfl,H,Nat.le_refl _,hm,by omega,by rw[Nat.one_mul];exact List.take_of_length_le (by simp)⟩⟩) λv R h ⟨rfl,hl,H⟩=>⟨rfl,?_⟩
 rcases H with⟨h0,_⟩|⟨g,cur,e1,hg,q1,q2,q3,q4⟩
 ·cases h0
 ·cases e1
  show h b=_
  rw[hg]
  have:cur.toList=cs.toList.take off++vs++cs.toList.drop (off+vs.length):=by
   rw[<-q4,List.take_of_length_le (by rw[Array.length_toList,q3];omega)]
  rw[<-this]
theorem qf{α:Type}:∀(l:List α) (k:Nat) (x:α),l[k]? =some x->(x::l.eraseIdx k).Perm l
 |y::l,0,x,h=>by simp at h;subst h;exact List.Perm.refl _
 |y::l,k+1,x,h=>by
  have:=qf l k x (by simpa using h)
  exact(List.Perm.swap y x _).trans (this.cons y)
 |[],_,_,h=>by simp at h
theorem ko{l:List HP}{k:Nat}{x:HP}(hk:l[k]? =some x){R h:PH}(H:(aX l).p R h):(HP.an x (aX (l.eraseIdx k))).p R h:=
 bE.1 (o4 (qf l k x hk).symm H)
theorem iH{l:List HP}{k:Nat}{x:HP}(hk:k<l.length){R h:PH}(H:(HP.an x (aX (l.eraseIdx k))).p R h):(aX (l.set k x)).p R h:=by
 have:=qf (l.set k x) k x (by simp[hk])
 rw[List.eraseIdx_set_eq]at this
 exact o4 this (bE.2 H)
theorem aI.IF{P:Program}{s:Sem Next}{A:HP}{B:Value->HP}{v:Value}(r:aH P s A v)(post:∀R h,A.p R h->(B v).p R h):aI P s A B:=λw R h F st a=>⟨.value v,v,w,r w R h F st a,rfl,Same.refl w,R,h,PH.le.refl _,st,post R h a⟩
theorem aI.exI{o:Sem Next}{α:Type}{A:α->HP}{B:Value->HP}(t:∀x,aI Tryz.prog o (A x) B):aI Tryz.prog o (HP.ex A) B:=λw R h F s ⟨x,a⟩=>t x w R h F s a
theorem aI.Sk{o:Sem Next}{A:HP}{B:Value->HP}{φ:Prop}(t:φ->aI Tryz.prog o A B):aI Tryz.prog o (HP.and φ A) B:=λw R h F s a=>t a.1 w R h F s a.2
end
section
def Small{H:Type}(P:Program)(t:TypeId)(d:DataW H):Prop:=∀n∈d.weights P t,n<=reachBytes
section
variable {H:Type}{P:Program}{t e:TypeId}
theorem Small.arg{ts:List TypeId}{ds:List (DataW H)}(h:(DataW.weightsEach P ts ds).all (· <=reachBytes)=true){j:Nat}{d:DataW H}(ht:ts[j]? =some t)(hd:ds[j]? =some d):Small P t d:=λn hn=>by
 have:=List.all_eq_true.1 h n (DataW.weights_mem_each ht hd n hn)
 simpa using this
end
end
section
open Go.ChangeShapes Go.Deep Go.RowKit Go.WideShapes
def tJ(w:World):PH:=λk=>w.heap[k]?
theorem On(w:World)(g:GR (tJ w)):Sat w (tJ w) PH.cz PH.cz:=⟨PH.gq _,PH.gq _,PH.gq _,λ_ _ e=>e,λ_ _ e=>(by cases e),λ_ _ e=>(by cases e),g⟩
theorem ax.run{P:Program}{f:FuncId}{args:Array Value}{A:HP}{u:Value}(t:ax P f args A (λv=>HP.pure (v=u))){w:World}(hA:A.p (tJ w) PH.cz)(g:GR (tJ w):=by exact True.intro):Calls P f args w λe w'=>e=.returned u/\Below w.heap.size w w':=by
 refine(t w (tJ w) PH.cz PH.cz (On w g) hA).mono λe w' ⟨v,he,sm,R',h',lR,s,hv⟩=>?_
 have HJ:v=u:=hv
 refine⟨by rw[he,HJ],sm.os,sm.tape,sm.output,sm.size,λk hk=>?_⟩
 obtain⟨o,ho⟩:∃o,w.heap[k]? =some o:=⟨w.heap[k],by simp[hk]⟩
 rw[ho]
 exact s.oR _ _ (lR _ _ ho)
section
variable {H:Type}{enc:TypeId×Value->H}{P:Program}{w:World}{base:Nat}{spare:Nat->Bool}{held:Bool}
set_option maxRecDepth 100000 in
theorem Sl{H:Type}(_enc:TypeId×Value->H)(base:Nat)(v:Value)(w:World)(hv:Value.okWide Tryz.prog w .any base 3 v):∃n,v=.int .i64 n:=by
 simp only[Value.okWide,Tryz.underlying3,Cell.okWide]at hv
 unfold Cell.ok at hv
 rw[Tryz.underlying3]at hv
 cases v<;>first|exact hv.elim|exact⟨_,by rw[hv.1]⟩
end
end
section
open Go.ChangeShapes Go.Deep Go.RowKit Go.WideShapes RX
def okI(x:Int):Prop:= -9223372036854775808<=x/\x<=9223372036854775807
def HP.both(A B:HP):HP:=⟨λR h=>A.p R h/\B.p R h,λl l' ⟨a,b⟩=>⟨A.mono l l' a,B.mono l l' b⟩⟩
structure qg(α:Type) where
 n:Nat
 pos:0<n
 aA:α->List Value
 len:∀x,(aA x).length=n
 hp:α->HP
 gf:∀x R h h',(hp x).p R h->(hp x).p R h'
theorem Rd.nU{S T:HP}{a:Option Addr}{xs:List Value}(r:Rd T a xs)(h:∀R x,S.p R x->T.p R x):Rd S a xs:=λw R x F s p=>r w R x F s (h R x p)
section
variable {α:Type}
def Ls(K:qg α)(a:Option Addr)(n:Nat)(l:List α):HP:=
 ⟨λR h=>l.length=n/\(bb K.n a n (l.flatMap K.aA)).p R h/\∀x∈l,(K.hp x).p R h,
  λlR lh ⟨h0,h1,h2⟩=>⟨h0,(bb _ _ _ _).mono lR lh h1,λx hx=>(K.hp x).mono lR lh (h2 x hx)⟩⟩
theorem Ls.gf{K:qg α}{a:Option Addr}{n:Nat}{l:List α}{R h:PH}(h':PH)(H:(Ls K a n l).p R h):(Ls K a n l).p R h':=⟨H.1,H.2.1,λx hx=>K.gf x _ _ _ (H.2.2 x hx)⟩
theorem Ls.rd{K:qg α}{a:Option Addr}{n:Nat}{l:List α}:Rd (Ls K a n l) a (l.flatMap K.aA):=Rd.nU (bb.rd K.n a n (l.flatMap K.aA)) λ_ _ H=>H.2.1
theorem cZ(f:α->List Value)(w:Nat)(hw:∀x,(f x).length=w):∀(l:List α) (k j:Nat) (x:α),l[k]? =some x->j<w->(l.flatMap f)[k*w+j]? =(f x)[j]?
 |[],k,j,x,h,_=>by simp at h
 |y::r,0,j,x,h,hj=>by
  simp at h;subst h
  rw[List.flatMap_cons,Nat.zero_mul,Nat.zero_add,List.getElem?_append_left (by rw[hw];exact hj)]
 |y::r,k+1,j,x,h,hj=>by
  rw[List.flatMap_cons,List.getElem?_append_right (by rw[hw,Nat.succ_mul];omega),hw,show(k+1)*w+j - w=k*w+j by rw[Nat.succ_mul];omega]
  exact cZ f w hw r k j x (by simpa using h) hj
theorem en(f:α->List Value)(w:Nat)(hw:∀x,(f x).length=w):∀l:List α,(l.flatMap f).length=l.length*w
 |[]=>by simp
 |x::l=>by rw[List.flatMap_cons,List.length_append,hw,en f w hw l,List.length_cons,Nat.succ_mul,Nat.add_comm]
theorem Ls.load{K:qg α}{t:TypeId}{d:TypeDesc}(hd:Tryz.prog.underlying t=some d)(ha:gF Tryz.prog t=true)(hz:gr Tryz.prog t=K.n){a:Option Addr}{n:Nat}{l:List α}{k:Nat}{x:α}(hk:l[k]? =some x):
 aH Tryz.prog (bG t (.pointer (a.map λy=>(y.add (k*K.n)).add 0))) (Ls K a n l) (.agg (K.aA x).toArray):=by
 refine kk (vs:=K.aA x) hd ha (Ls.rd (K:=K)) (k:=k*K.n) (off:=0) (by rw[K.len];exact hz) (by rw[K.len];exact K.pos) λj v hj=>?_
 have hlt:j<K.n:=by
  have:=(List.getElem?_eq_some_iff.1 hj).1
  rw[K.len]at this;exact this
 rw[Nat.add_zero,cZ K.aA K.n K.len l k j x hk hlt]
 exact hj
theorem Ls.acM{K:qg α}{t:TypeId}{d:TypeDesc}(hd:Tryz.prog.underlying t=some d)(ha:gF Tryz.prog t=false)(hz:gr Tryz.prog t=1){a:Option Addr}{n:Nat}{l:List α}{k off:Nat}{x:α}{v:Value}(hk:l[k]? =some x)(hv:(K.aA x)[off]? =some v):
 aH Tryz.prog (bG t (.pointer (a.map λy=>(y.add (k*K.n)).add off))) (Ls K a n l) v:=by
 refine b7 hd ha hz (Ls.rd (K:=K)) (k:=k*K.n) (off:=off) ?_
 have hlt:off<K.n:=by
  have:=(List.getElem?_eq_some_iff.1 hv).1
  rw[K.len]at this;exact this
 rw[cZ K.aA K.n K.len l k off x hk hlt]
 exact hv
end
section
variable {H:Type}{enc:TypeId×Value->H}{w:World}{α:Type}
theorem ZS{x:Int}(h:(Lit.int IntKind.i64 x).wf=true):okI x:=by
 have h2:(decide (IntKind.i64.min<=x)&&decide (x<=IntKind.i64.max))=true:=h
 rw[Bool.and_eq_true]at h2
 exact⟨of_decide_eq_true h2.1,of_decide_eq_true h2.2⟩
theorem o7{base:Nat}{v:Value}(hv:Value.okWide Tryz.prog w .any base 3 v)(h:∃d p,DataW.Trod enc Tryz.prog w 0 (λ_=>true) true 3 v d p/\Small Tryz.prog 3 d):∃n,v=.int .i64 n/\okI n:=by
 obtain⟨n,rfl⟩:=Sl enc base v w hv
 obtain⟨d,p,⟨fuel,hf⟩,_⟩:=h
 obtain⟨x,hx,_,hw⟩:=DataW.trod_int Tryz.underlying3 hf
 simp[Value.cells]at hx
 subst hx
 exact⟨n,rfl,ZS hw⟩
end
end
section
open RX
structure PK(α:Type) where
 e:TypeId
 n:Nat
 pos:0<n
 aA:α->List Value
 len:∀x,(aA x).length=n
 one:∀x,∀u∈aA x,u.oneCell'=true
 bf:α->HP
section
variable {α:Type}(K:PK α)
def PL(a:Option Addr)(n c:Nat)(l:List α):HP:=HP.and (l.length=n) (HP.an (cp K.e K.n a n c (l.flatMap K.aA)) (aX (l.map K.bf)))
def nV(a:Option Addr)(n c:Nat)(l:List α)(k:Nat):HP:=HP.and (l.length=n) (HP.an (cp K.e K.n a n c (l.flatMap K.aA)) (aX ((l.map K.bf).eraseIdx k)))
variable {K}
theorem PL.nG{a:Option Addr}{n c:Nat}{l:List α}{R h:PH}(H:(PL K a n c l).p R h)(hn:n≠0):a.isSome=true:=cp.some (HP.aj H.2) (by omega)
theorem PL.lit(x:Nat)(l:List α)(hb:l.length<=1000){R h:PH}(H:(HP.an (HP.one x (.cells (l.flatMap K.aA).toArray K.e (0,0))) (aX (l.map K.bf))).p R h):(PL K (some ⟨x,0,none⟩) l.length l.length l).p R h:=by
 refine⟨rfl,HP.ae H (λy hy=>⟨en K.aA K.n K.len l,.inr ⟨x,_,rfl,hy,Nat.le_refl _,by unfold maxLen;omega,?_,?_⟩⟩) λ_ h=>h⟩
 ·rw[List.size_toArray];exact en K.aA K.n K.len l
 ·show(l.flatMap K.aA).take _=_
  rw[<-en K.aA K.n K.len l,List.take_length]
theorem PL.app(t ty:TypeId){i:TypeInfo}{z:Value}(ht:Tryz.prog.underlying t=some (.slice K.e))(hi:Tryz.prog.info? K.e=some i)(hz:i.zero=some z)(hzs:z.cells.size=i.size)(hs:i.size=K.n)(hby:i.bytes<=1000)
 (a:Option Addr) (n c:Nat) (l:List α) (b:Nat) (x:α) (Q:HP) (hb:n<=1000000000):
 aI Tryz.prog (kj t ty (.slice a n c) (.slice (some ⟨b,0,none⟩) 1 1)) (HP.an (PL K a n c l) (HP.an (HP.one b (.cells (K.aA x).toArray K.e (0,0))) (HP.an (K.bf x) Q)))
  (λv=>HP.ex λa'=>HP.ex λc'=>HP.and (v=.slice a' (n+1) c') (HP.an (PL K a' (n+1) c' (l++[x])) Q)):=by
 have hr:=dW b (K.aA x).toArray K.e
 have hbn:(n+1)*i.bytes<=140737488355328:=by
  have:=Nat.mul_le_mul (show n+1<=1000000001 by omega) hby
  omega
 have:=fG t ty K.e i z ht hi hz hzs (by rw[hs];exact K.pos) a n c (l.flatMap K.aA) (HP.one b (.cells (K.aA x).toArray K.e (0,0))) ⟨b,0,none⟩ 1 1 (K.aA x) (by simpa using hr) (by rw[K.len,hs,Nat.one_mul]) (K.one x) (by unfold maxLen;omega) hbn
 rw[hs]at this
 refine aI.bV (φ:=l.length=n) (λR h H=>(HP.aj H).1) λhl=>?_
 refine(this.frame (HP.an (aX (l.map K.bf)) (HP.an (K.bf x) Q))).ak (λR h H=>?_) ?_
 ·have H1:=HP.aq (HP.ae H (λ_ h=>h.2) λ_ h=>h)
  exact HP.ay (HP.pick [_,_,_,_,_] [0,2,1,3,4] (by decide) rfl H1)
 ·rintro v R h ⟨h1,h2,d,l1,l2,⟨a',c',rfl,H⟩,HU⟩
  refine⟨a',c',rfl,?_⟩
  have H1:=HP.aq ⟨h1,h2,d,l1,l2,H,HU⟩
  have H2:(HP.an (cp K.e K.n a' (n+1) c' (l.flatMap K.aA++K.aA x)) (HP.an (aX (l.map K.bf)) (HP.an (K.bf x) Q))).p R h:=HP.ae H1 (λ_ h=>h) λy hy=>HP.ai hy
  have e:(l++[x]).map K.bf=l.map K.bf++[K.bf x]:=by simp
  have H3:(HP.an (cp K.e K.n a' (n+1) c' (l.flatMap K.aA++K.aA x)) (HP.an (aX ((l++[x]).map K.bf)) Q)).p R h:=HP.ae H2 (λ_ h=>h) λy hy=>by
   have:=HP.ay hy
   rw[e]
   exact HP.ae this (λz hz=>(eB (l:=l.map K.bf) (m:=[K.bf x])).2 hz) λ_ h=>h
  have H4:=HP.ay H3
  refine HP.ae H4 (λy hy=>⟨by simp[hl],?_⟩) λ_ h=>h
  have e2:(l++[x]).flatMap K.aA=l.flatMap K.aA++K.aA x:=by simp
  rw[e2]
  exact hy
theorem PL.rd(a:Option Addr)(n c:Nat)(l:List α):Rd (PL K a n c l) a (l.flatMap K.aA):=Rd.nU (Rd.left (B:=aX (l.map K.bf)) (cp.rd K.e K.n a n c (l.flatMap K.aA))) λR h H=>H.2
theorem PL.kT{a:Option Addr}{n c:Nat}{l:List α}{k:Nat}{x:α}(hk:l[k]? =some x){R h:PH}(H:(PL K a n c l).p R h):(HP.an (K.bf x) (nV K a n c l k)).p R h:=by
 have H1:=HP.ae H.2 (λ_ h=>h) λy hy=>ko (k:=k) (x:=K.bf x) (by simp[hk]) hy
 exact HP.ae (HP.swap H1) (λ_ h=>h) λy hy=>⟨H.1,hy⟩
theorem Sm{f:α->List Value}{l:List α}{k:Nat}{x y:α}(hk:l[k]? =some x)(e:f y=f x):(l.set k y).flatMap f=l.flatMap f:=by
 have hlt:k<l.length:=(List.getElem?_eq_some_iff.1 hk).1
 have:(l.set k y).map f=l.map f:=by
  rw[List.map_set,e]
  refine List.ext_getElem? λj=>?_
  rw[List.getElem?_set]
  split
  ·rename_i hj;subst hj;rw[if_pos (by simpa using hlt),List.getElem?_map,hk];rfl
  ·rfl
 rw[List.flatMap_def,List.flatMap_def,this]
theorem PL.join{a:Option Addr}{n c:Nat}{l:List α}{k:Nat}{x y:α}(hk:l[k]? =some x)(e:K.aA y=K.aA x){R h:PH}(H:(HP.an (nV K a n c l k) (K.bf y)).p R h):(PL K a n c (l.set k y)).p R h:=by
 have hlt:k<l.length:=(List.getElem?_eq_some_iff.1 hk).1
 obtain⟨h1,h2,d,l1,l2,⟨hn,H⟩,HU⟩:=H
 refine⟨by simp[hn],?_⟩
 have H1:=HP.aq ⟨h1,h2,d,l1,l2,H,HU⟩
 refine HP.ae H1 (λz hz=>by rw[Sm hk e];exact hz) λz hz=>?_
 rw[List.map_set]
 exact iH (by simpa using hlt) (HP.ao hz)
end
end
section
open Go.RowKit
theorem Wk(w:World)(g:Nat):w.drew.heap[g]? =w.heap[g]? :=rfl
section
variable {P:Program}{ops:Array Oper}{rest:List Oper}{o:Oper}{a:Act}{w:World}{Q:Exit->Act->World->Prop}
end
def World.setObj(w:World)(r:Nat)(o:Obj):World:={w with heap:=w.heap.setIfInBounds r o}
theorem yZ(w:World)(r g:Nat)(o:Obj)(h:r<w.heap.size):(World.setObj w r o).heap[g]? =if r=g then some o else w.heap[g]? :=by
 simp only[World.setObj,Array.getElem?_setIfInBounds]
 split
 ·rename_i e;subst e;simp
 ·rfl
theorem Dq(w:World)(r:Nat)(o:Obj):(World.setObj w r o).heap.size=w.heap.size:=by simp[World.setObj]
section
variable {κ:Type}[DecidableEq κ]
abbrev AL(κ:Type):=List (κ×Value×Nat)
def qY(enc:κ->Value)(x:κ×Value×Nat):MapEntry:={key:=enc x.1,val:=x.2.1,born:=x.2.2}
def aJ(enc:κ->Value)(l:AL κ)(c:Nat):Obj:=.map (l.map (qY enc)).toArray c
def iI(k:κ):AL κ->Nat->Option (Nat×Value)
 |[],_=>none
 |x::l,i=>if k=x.1 then some (i,x.2.1)else iI k l (i+1)
def aG(k:κ):AL κ->Option Value
 |[]=>none
 |x::l=>if k=x.1 then some x.2.1 else aG k l
def fy(k:κ)(v:Value)(c:Nat):AL κ->AL κ
 |[]=>[(k,v,c)]
 |x::l=>if k=x.1 then(k,v,x.2.2)::l else x::fy k v c l
def ff(k:κ):AL κ->AL κ
 |[]=>[]
 |x::l=>if k=x.1 then l else x::ff k l
def jW(k:κ)(l:AL κ)(c:Nat):Nat:=if(aG k l).isSome then c else c+1
theorem qh(k:κ):∀(l:AL κ) (i:Nat),(iI k l i).map (·.2)=aG k l
 |[],_=>rfl
 |x::l,i=>by unfold iI aG;split;rfl;exact qh k l (i+1)
theorem qi(k:κ):∀(l:AL κ) (i j:Nat) (v:Value),iI k l i=some (j,v)->∃m b,j=i+m/\l[m]? =some (k,v,b)/\∀(u:Value) (c:Nat),fy k u c l=l.set m (k,u,b)/\ff k l=l.eraseIdx m
 |[],_,_,_,h=>by cases h
 |x::l,i,j,v,h=>by
  unfold iI at h
  split at h
  ·rename_i e
   obtain⟨k',v',b⟩:=x
   simp only at e;subst e
   injection h with h;injection h with h1 h2;subst h1;subst h2
   exact⟨0,b,rfl,rfl,λu c=>by simp[fy,ff]⟩
  ·rename_i e
   obtain⟨m,b,h1,h2,h3⟩:=qi k l _ _ _ h
   refine⟨m+1,b,by omega,by simpa using h2,λu c=>?_⟩
   unfold fy ff
   rw[if_neg e,if_neg e,(h3 u c).1,(h3 u c).2]
   exact⟨rfl,rfl⟩
theorem mK(k:κ):∀(l:AL κ) (i:Nat),iI k l i=none->∀(u:Value) (c:Nat),fy k u c l=l++[(k,u,c)]/\ff k l=l
 |[],_,_,_,_=>⟨rfl,rfl⟩
 |x::l,i,h,u,c=>by
  unfold iI at h
  split at h
  ·cases h
  ·rename_i e
   unfold fy ff
   rw[if_neg e,if_neg e,(mK k l _ h u c).1,(mK k l _ h u c).2]
   exact⟨rfl,rfl⟩
theorem kp(k k':κ)(v:Value)(c:Nat):∀l:AL κ,aG k' (fy k v c l)=if k'=k then some v else aG k' l
 |[]=>by simp[fy,aG]
 |x::l=>by
  unfold fy
  split
  ·rename_i e;subst e
   by_cases h:k'=x.1<;>simp[aG,h]
  ·rename_i e
   unfold aG
   rw[kp k k' v c l]
   by_cases h:k'=x.1
   ·have:k'≠k:=λh'=>e (h'.symm.trans h)
    simp[h,Ne.symm e]
   ·simp[h]
theorem nW(k:κ):∀l:AL κ,(∀x∈l,x.1≠k)->aG k l=none
 |[],_=>rfl
 |x::l,h=>by
  unfold aG
  rw[if_neg (λe=>h x (by simp) e.symm),nW k l (λy hy=>h y (by simp[hy]))]
theorem jK(k:κ):∀(l:AL κ) (v:Value),aG k l=some v->∃b,(k,v,b)∈l
 |[],_,h=>by cases h
 |x::l,v,h=>by
  unfold aG at h
  split at h
  ·rename_i e
   obtain⟨k',v',b⟩:=x
   simp only at e;subst e
   injection h with h;subst h
   exact⟨b,by simp⟩
  ·obtain⟨b,hb⟩:=jK k l v h
   exact⟨b,by simp[hb]⟩
theorem mL(k:κ)(v:Value)(b:Nat):∀(l:AL κ),(l.map (·.1)).Nodup->(k,v,b)∈l->aG k l=some v
 |[],_,h=>by cases h
 |x::l,hn,h=>by
  unfold aG
  rw[List.map_cons,List.nodup_cons]at hn
  rcases List.mem_cons.1 h with h|h
  ·subst h;simp
  ·have:k≠x.1:=λe=>hn.1 (by rw[<-e];exact List.mem_map.2 ⟨_,h,rfl⟩)
   rw[if_neg this,mL k v b l hn.2 h]
theorem vU(k:κ)(v:Value)(c:Nat):∀l:AL κ,(fy k v c l).map (·.1)=if(aG k l).isSome then l.map (·.1)else l.map (·.1)++[k]
 |[]=>by simp[fy,aG]
 |x::l=>by
  unfold fy aG
  by_cases h:k=x.1
  ·simp[h]
  ·rw[if_neg h,if_neg h,List.map_cons,vU k v c l]
   split<;>simp
theorem gS(k:κ):∀l:AL κ,(aG k l).isSome=true↔k∈l.map (·.1)
 |[]=>by simp[aG]
 |x::l=>by
  unfold aG
  by_cases h:k=x.1
  ·simp[h]
  ·rw[if_neg h,gS k l];simp[h]
theorem Dr(k:κ)(v:Value)(c:Nat)(l:AL κ)(h:(l.map (·.1)).Nodup):((fy k v c l).map (·.1)).Nodup:=by
 rw[vU]
 split
 ·exact h
 ·rename_i hn
  rw[gS]at hn
  rw[List.nodup_append]
  exact⟨h,by simp,λa ha b hb=>by simp at hb;subst hb;exact λe=>hn (e▸ha)⟩
structure gH(P:Program)(kt:TypeId)(enc:κ->Value):Prop where
 check:∀(em:Bool) (k:κ) (w:World),(Instr.checkKey em 10000 kt (enc k)).run P w=.ok () w
 find:∀(k:κ) (l:AL κ) (w:World),(Instr.findKey kt (enc k) (l.map (qY enc))).run P w=.ok (iI k l 0) w
 bits:∀k,Instr.sameBits 10000 (enc k) (enc k)=true
theorem run_getObj_map{P:Program}{w:World}{r:Nat}{es:Array MapEntry}{c:Nat}(h:w.heap[r]? =some (.map es c)):(getObj r).run P w=.ok (.map es c) w:=by
 simp[getObj,Sem.run,h]
theorem run_setObj_map{P:Program}{w:World}{r:Nat}{es:Array MapEntry}{c:Nat}(o:Obj)(h:w.heap[r]? =some (.map es c)):(setObj r o).run P w=.ok () (World.setObj w r o):=by
 simp[Go.setObj,Sem.run,h,World.setObj]
theorem qZ{P:Program}{w:World}{kt et t:TypeId}{enc:κ->Value}(K:gH P kt enc)(ht:P.underlying t=some (.map kt et)){r:Nat}{l:AL κ}{c:Nat}
 (hb:w.heap[r]? =some (aJ enc l c)) (k:κ) (v:Value):
 (Instr.mapUpdate t (.map (some r)) (enc k) v).run P w=.ok () (World.setObj w r (aJ enc (fy k v c l) (jW k l c))):=by
 unfold aJ at hb
 unfold Instr.mapUpdate
 simp only[Sem.run_bind,run_underlying ht,Result.andThen,run_getObj_map hb,K.check,K.find]
 have hf:=qh k l 0
 cases hi:iI k l 0 with
 |none=>
  rw[hi]at hf
  simp only[run_setObj_map _ hb,jW,<-hf,(mK k l 0 hi v c).1]
  simp[aJ,qY]
 |some p=>
  obtain⟨j,u⟩:=p
  rw[hi]at hf
  obtain⟨m,b,h1,h2,h3⟩:=qi k l 0 j u hi
  obtain rfl:j=m:=by omega
  have hm:((l.map (qY enc)).toArray[j]?.map (·.key)).getD (enc k)=enc k:=by
   simp[h2,qY]
  simp only[hm,Instr.keyThatStays,K.bits,if_true,Sem.run_bind,Sem.run_pure,Result.andThen,run_setObj_map _ hb,jW,<-hf,(h3 v c).1]
  simp only[aJ,Option.map_some,Option.isSome_some,if_true]
  congr 3
  apply Array.ext_getElem?
  intro i
  have hj:j<l.length:=by
   rcases Nat.lt_or_ge j l.length with h|h
   ·exact h
   ·rw[List.getElem?_eq_none h]at h2;cases h2
  simp only[Array.getElem?_modify,List.getElem?_toArray,List.getElem?_map,List.getElem?_set]
  by_cases e:j=i
  ·subst e;rw[if_pos rfl,if_pos hj,h2];simp[qY]
  ·simp[e]
theorem vV{P:Program}{w:World}{kt et t:TypeId}{enc:κ->Value}(K:gH P kt enc)(ht:P.underlying t=some (.map kt et)){r:Nat}{l:AL κ}{c:Nat}
 (hb:w.heap[r]? =some (aJ enc l c)) (k:κ) (z:Value) (hz:(zeroValue et).run P w=.ok z w) (ok:Bool):
 (Instr.lookup t (.map (some r)) (enc k) ok).run P w=.ok (if ok then .tuple #[(aG k l).getD z,.bool (aG k l).isSome]else(aG k l).getD z) w:=by
 unfold aJ at hb
 unfold Instr.lookup
 simp only[Sem.run_bind,run_underlying ht,Result.andThen,run_getObj_map hb,Sem.run_pure,K.check,K.find]
 have hf:=qh k l 0
 cases hi:iI k l 0 with
 |none=>rw[hi]at hf;simp[<-hf,hz,Result.andThen]
 |some p=>rw[hi]at hf;simp[<-hf]
theorem pF{α β:Type}(f:α->β):∀(l:List α) (i:Nat),(l.map f).eraseIdx i=(l.eraseIdx i).map f
 |[],_=>by simp
 |_::_,0=>rfl
 |x::l,i+1=>by simp[pF f l i]
theorem vW{P:Program}{w:World}{kt et t:TypeId}{enc:κ->Value}(K:gH P kt enc)(ht:P.underlying t=some (.map kt et)){r:Nat}{l:AL κ}{c:Nat}
 (hb:w.heap[r]? =some (aJ enc l c)) (k:κ) (ts:Array TypeId) (ty:TypeId) (h0:ts[0]? =some t):
 (Builtin.delete_ ts ty #[.map (some r),enc k]).run P w=.ok (.tuple #[]) (World.setObj w r (aJ enc (ff k l) c)):=by
 unfold aJ at hb
 unfold Builtin.delete_
 simp only[h0,List.getElem?_toArray,List.getElem?_cons_zero,List.getElem?_cons_succ,Sem.run_bind,run_underlying ht,Result.andThen,run_getObj_map hb,K.check,K.find]
 cases hi:iI k l 0 with
 |none=>
  simp only[(mK k l 0 hi .nilFunc 0).2]
  rw[Sem.run_bind,run_setObj_map _ hb]
  rfl
 |some p=>
  obtain⟨j,u⟩:=p
  obtain⟨m,b,h1,h2,h3⟩:=qi k l 0 j u hi
  obtain rfl:j=m:=by omega
  simp only[(h3 .nilFunc 0).2]
  rw[Sem.run_bind,run_setObj_map _ hb]
  simp only[aJ,Result.andThen_ok,Sem.run_pure]
  congr 3
  have hj:j<l.length:=by
   rcases Nat.lt_or_ge j l.length with h|h
   ·exact h
   ·rw[List.getElem?_eq_none h]at h2;cases h2
  simp[Array.eraseIdxIfInBounds,hj,pF]
end
theorem L8{P:Program}{kt:TypeId}{ik:IntKind}(h:P.underlying kt=some (.int ik)):gH P kt (λn:Int=>Value.int ik n) where
 check em k w:=by
  unfold Instr.checkKey
  simp[run_underlying h]
 find k l w:=by
  unfold Instr.findKey
  have hn:∀(l:AL Int) (i:Nat),Instr.findNow (.int ik) (.int ik k) (l.map (qY λn:Int=>Value.int ik n)) i=some (iI k l i):=by
   intro l
   induction l with
   |nil=>intro i;rfl
   |cons x l ih=>
    intro i
    simp only[List.map_cons,Instr.findNow,qY,Instr.sameNow,if_true,iI]
    by_cases e:k=x.1
    ·simp[e]
    ·have:(k==x.1)=false:=by simpa using e
     simp only[this,if_neg e]
     exact ih (i+1)
  simp only[Sem.run_bind,run_underlying h,Result.andThen,hn,Sem.run_pure]
 bits k:=by simp[Instr.sameBits]
section
variable {P:Program}{ops:Array Oper}{rest:List Oper}{o:Oper}{a:Act}{w:World}{Q:Exit->Act->World->Prop}{κ:Type}[DecidableEq κ]
end
end
section
open Go.RowKit
set_option linter.unusedSectionVars false
section
variable {P:Program}{κ:Type}[DecidableEq κ]{enc:κ->Value}
structure gI(l:AL κ)(c:Nat):Prop where
 low:∀x∈l,x.2.2<c
 nodup:(l.map (·.2.2)).Nodup
theorem gI.nil(c:Nat):gI ([]:AL κ) c:=⟨(λx h=>by cases h),List.nodup_nil⟩
theorem gI.IG{l:AL κ}{c:Nat}(h:gI l c)(k:κ)(v:Value):gI (l++[(k,v,c)]) (c+1):=by
 refine⟨λx hx=>?_,?_⟩
 ·rcases List.mem_append.1 hx with hx|hx
  ·have:=h.low x hx;omega
  ·simp at hx;subst hx;simp
 ·rw[List.map_append,List.nodup_append]
  refine⟨h.nodup,by simp,λa ha b hb=>?_⟩
  simp at hb
  subst hb
  obtain⟨x,hx,rfl⟩:=List.mem_map.1 ha
  have:=h.low x hx
  omega
theorem A9{w:World}{it m c:Nat}{S:Array Nat}{l:AL κ}(ty:TypeId)(hit:w.heap[it]? =some (.mapIter (some m) c S c))(hm:w.heap[m]? =some (aJ enc l c))(hs:gI l c):
 ((∀x∈l,x.2.2∈S)/\(Instr.next (.pointer (some ⟨it,0,none⟩)) false ty).run P w=.ok (.tuple #[.bool false]) w)\/
 ∃x∈l,x.2.2∉S/\∃w1,(w1=w\/w1=w.drew)/\(Instr.next (.pointer (some ⟨it,0,none⟩)) false ty).run P w=.ok (.tuple #[.bool true,enc x.1,x.2.1]) (World.setObj w1 it (.mapIter (some m) c (S.push x.2.2) c)):=by
 unfold aJ at hm
 have hold:∀x∈(l.map (qY enc)).toArray.toList,x.born<c:=λx hx=>by
  simp only at hx
  obtain⟨y,hy,rfl⟩:=List.mem_map.1 hx
  exact hs.low y hy
 have acN:=next_test_false S (l.map (qY enc)).toArray c c hold (Nat.le_refl _)
 have sB:∀(w1:World) (o:Obj),(w1=w\/w1=w.drew)->(setObj it o).run P w1=.ok () (World.setObj w1 it o):=λw1 o hw=>by
  rcases hw with rfl|rfl<;>simp[Go.setObj,Sem.run,hit,World.setObj,Wk]
 have Yy:∀x∈(Array.filter (λe=> !S.contains e.born) (l.map (qY enc)).toArray).toList,∃y∈l,x=qY enc y/\y.2.2∉S:=λx hx=>by
  simp at hx
  obtain⟨⟨a,b,d,hy,rfl⟩,h2⟩:=hx
  exact⟨(a,b,d),hy,rfl,by simpa[qY]using h2⟩
 have Yz:(Array.filter (λe=> !S.contains e.born) (l.map (qY enc)).toArray).size=0->∀y∈l,y.2.2∈S:=λh0 y hy=>by
  have h1:=Array.eq_empty_of_size_eq_zero h0
  rw[Array.filter_eq_empty_iff]at h1
  have:=h1 (a:=qY enc y) (by simp;exact⟨_,_,_,hy,rfl⟩)
  simpa[qY]using this
 simp only[Instr.next,getObj,Sem.run_bind,Sem.run,hit,hm,Result.andThen,acN,Bool.false_eq_true,if_false]
 have Se:∀x∈(Array.filter (λe=> !S.contains e.born) (l.map (qY enc)).toArray).toList,x.born<c:=λx hx=>hold x (by simp at hx⊢;exact hx.1)
 generalize Array.filter (λe=> !S.contains e.born) (l.map (qY enc)).toArray=L at Se Yy Yz⊢
 have e1:L.filter (λx=>decide (x.born<c))=L:=Array.filter_eq_self.2 (λx hx=>by simpa using Se x (by simpa using hx))
 have e2:L.filter (λx=>decide (x.born≥c))= #[]:=by
  rw[Array.filter_eq_empty_iff]
  intro x hx
  have:=Se x (by simpa using hx)
  simp
  omega
 simp only[e1,e2,Array.append_empty]
 by_cases h0:L.size=0
 ·left
  refine⟨Yz h0,?_⟩
  have:L= #[]:=Array.eq_empty_of_size_eq_zero h0
  subst this
  simp[choose,Sem.run,Question.forced]
 ·right
  have hne:L.isEmpty=false:=by simp[Array.isEmpty,h0]
  simp only[hne,Bool.false_eq_true,if_false,Array.empty_append,Array.size_map]
  have Wl:∃(j:Nat) (w1:World),j<L.size/\(w1=w\/w1=w.drew)/\(choose (Question.mapNext L.size)).run P w=.ok j w1:=by
   by_cases hf:L.size<=1
   ·exact⟨0,w,by omega,.inl rfl,by simp[choose,Sem.run,Question.forced,hf]⟩
   ·exact⟨_,w.drew,Nat.mod_lt _ (by omega),.inr rfl,by
     simp only[choose,Sem.run,Question.forced,decide_eq_true_eq,hf,if_false,Question.cut]
     rfl⟩
  obtain⟨j,w1,hj,hal,e7⟩:=Wl
  obtain⟨y,hy,hLj,Wm⟩:=Yy L[j] (by simp)
  refine⟨y,hy,Wm,w1,hal,?_⟩
  simp only[e7,Array.getElem?_map,Array.getElem?_eq_getElem hj,Option.map_some,Sem.run_bind,hLj,qY]
  rw[sB w1 _ hal]
  rfl
theorem x8{w:World}{it m c:Nat}{S:Array Nat}{l:AL κ}{x:κ×Value×Nat}(hit:w.heap[it]? =some (.mapIter (some m) c (S.push x.2.2) c))(hm:w.heap[m]? =some (aJ enc l c))(hs:gI l c)(hx:x∈l):
 (Instr.entry (.pointer (some ⟨it,0,none⟩))).run P w=.ok (.tuple #[enc x.1,x.2.1]) w:=by
 unfold aJ at hm
 have hf:(l.map (qY enc)).toArray.find? (·.born==x.2.2)=some (qY enc x):=by
  rw[<-Array.find?_toList]
  exact find_born (qY enc x) (l.map (qY enc)) (by rw[List.map_map];exact hs.nodup) (List.mem_map.2 ⟨x,hx,rfl⟩)
 simp only[Instr.entry,getObj,Sem.run_bind,Sem.run,hit,hm,Result.andThen,Array.back?_push,bne_self_eq_false,Bool.false_eq_true,if_false,hf]
 rfl
theorem x9{w:World}{t k e:TypeId}{m c:Nat}{l:AL κ}(ht:P.underlying t=some (.map k e))(hb:w.heap[m]? =some (aJ enc l c)):
 (Instr.range t (.map (some m))).run P w=.ok (.pointer (some ⟨w.heap.size,0,none⟩)) (w.alloc (.mapIter (some m) c #[] c)):=
 run_range_map w t k e m _ c ht hb
end
def lZ{κ:Type}(l:AL κ)(S:Array Nat):Nat:=(l.filter λx=> !S.contains x.2.2).length
theorem kq{κ:Type}{l:AL κ}{S:Array Nat}{x:κ×Value×Nat}(hx:x∈l)(hS:x.2.2∉S):lZ l (S.push x.2.2)<lZ l S:=by
 unfold lZ
 refine filter_lt (λy:κ×Value×Nat=> !S.contains y.2.2) (λy=> !(S.push x.2.2).contains y.2.2) ?_ x ?_ ?_ l hx
 ·intro y hy
  simp only[Array.contains_push,Bool.not_or,Bool.and_eq_true]at hy
  exact hy.1
 ·simpa using hS
 ·simp
section
variable {P:Program}{ops:Array Oper}{rest:List Oper}{o:Oper}{a:Act}{w:World}{Q:Exit->Act->World->Prop}{κ:Type}[DecidableEq κ]{enc:κ->Value}
end
end
section
open RX
section
variable {κ:Type}[DecidableEq κ]{enc:κ->Value}{kt et t ty:TypeId}{r m it c:Nat}{l:AL κ}{S:Array Nat}
def iJ(l:AL κ)(c:Nat):Prop:=(l.map (·.1)).Nodup/\gI l c
def kU(t:TypeId)(m k:Value)(ok:Bool):Sem Next:=do pure (.value (<-Instr.lookup t m k ok))
theorem Ba{ρ:bp}{i j:Nat}{u v:V}{ok:Bool}(h:i≠j):dM ρ (.lookup t (.tmp i) (.tmp j) ok) ty [(i,u),(j,v)]=kU t (u.den ρ) (v.den ρ) ok:=by
 have h':(i==j)=false:=by simpa using h
 simp[dM,execOp,fl,h',kU]
theorem y9{w:World}{i:TypeInfo}{z:Value}(hi:Tryz.prog.info? et=some i)(hz:i.zero=some z):(zeroValue et).run Tryz.prog w=.ok z w:=by
 unfold zeroValue
 simp only[Sem.run_bind,RX.run_typeInfo hi,Result.andThen_ok,hz]
 rfl
theorem gX(K:gH Tryz.prog kt enc)(ht:Tryz.prog.underlying t=some (.map kt et)){i:TypeInfo}{z:Value}(hi:Tryz.prog.info? et=some i)(hz:i.zero=some z)(k:κ)(ok:Bool){A:HP}(hA:∀R h,A.p R h->h r=some (aJ enc l c)):
 aH Tryz.prog (kU t (.map (some r)) (enc k) ok) A (if ok then .tuple #[(aG k l).getD z,.bool (aG k l).isSome]else(aG k l).getD z):=λw R h F s a=>by
 unfold kU
 rw[Sem.run_bind,vV K ht (s.oh _ _ (hA R h a)) k z (y9 hi hz) ok]
 rfl
theorem Sat.setObj{w:World}{R h F:PH}(s:Sat w R h F){b:Nat}{x y:Obj}(hb:h b=some x):Sat (World.setObj w b y) R (λk=>if k=b then some y else h k) F:=
 s.aY hb (λk hk=>by rw[yZ _ _ _ _ (s.oh.lt hb),if_neg (λe=>hk e.symm)]) (by rw[yZ _ _ _ _ (s.oh.lt hb),if_pos rfl])
theorem Same.setObj(w:World)(b:Nat)(y:Obj):Same w (World.setObj w b y):=⟨rfl,rfl,rfl,by rw[Dq];omega⟩
def jL(t:TypeId)(m k v:Value):Sem Next:=do Instr.mapUpdate t m k v;pure .skip
theorem mM{ρ:bp}{i j q:Nat}{u v x:V}(h:i≠j)(h2:i≠q)(h3:j≠q):dM ρ (.mapUpdate t (.tmp i) (.tmp j) (.tmp q)) ty [(i,u),(j,v),(q,x)]=jL t (u.den ρ) (v.den ρ) (x.den ρ):=by
 have h':(i==j)=false:=by simpa using h
 have Wn:(i==q)=false:=by simpa using h2
 have Wa:(j==q)=false:=by simpa using h3
 simp[dM,execOp,fl,h',Wn,Wa,jL]
theorem qj(K:gH Tryz.prog kt enc)(ht:Tryz.prog.underlying t=some (.map kt et))(k:κ)(v:Value):
 aI Tryz.prog (jL t (.map (some r)) (enc k) v) (HP.one r (aJ enc l c)) (λx=>HP.and (x=.tuple #[]) (HP.one r (aJ enc (fy k v c l) (jW k l c)))):=λw R h F s a=>by
 refine⟨.skip,_,_,by unfold jL;rw[Sem.run_bind,qZ K ht (s.oh _ _ a) k v];rfl,rfl,Same.setObj _ _ _,R,_,PH.le.refl _,s.setObj a,rfl,if_pos rfl⟩
def Ds(ts:Array TypeId)(ty:TypeId)(u v:Value):Sem Next:=do pure (.value (<-Builtin.delete_ ts ty #[u,v]))
theorem Bb{ρ:bp}{i j:Nat}{u v:V}{ts:Array TypeId}(h:i≠j):dM ρ (.call ⟨.builtin .delete,#[.tmp i,.tmp j],ts⟩) ty [(i,u),(j,v)]=Ds ts ty (u.den ρ) (v.den ρ):=by
 have h':(i==j)=false:=by simpa using h
 simp[dM,execOp,resolve,fl,invoke,builtin,h',Ds]
theorem ZT(K:gH Tryz.prog kt enc)(ht:Tryz.prog.underlying t=some (.map kt et))(k:κ)(ts:Array TypeId)(h0:ts[0]? =some t):
 aI Tryz.prog (Ds ts ty (.map (some r)) (enc k)) (HP.one r (aJ enc l c)) (λx=>HP.and (x=.tuple #[]) (HP.one r (aJ enc (ff k l) c))):=λw R h F s a=>by
 refine⟨.value _,_,_,by unfold Ds;rw[Sem.run_bind,vW K ht (s.oh _ _ a) k ts ty h0];rfl,rfl,Same.setObj _ _ _,R,_,PH.le.refl _,s.setObj a,rfl,if_pos rfl⟩
def tK(t:TypeId)(m:Value):Sem Next:=do pure (.value (<-Instr.range t m))
theorem Dt{ρ:bp}{i:Nat}{u:V}:dM ρ (.range t (.tmp i)) ty [(i,u)]=tK t (u.den ρ):=by
 simp[dM,execOp,fl,tK]
theorem nT{k e:TypeId}(ht:Tryz.prog.underlying t=some (.map k e)):
 aI Tryz.prog (tK t (.map (some m))) (HP.one m (aJ enc l c)) (λv=>HP.ex λit=>HP.and (v=.pointer (some ⟨it,0,none⟩)) (HP.an (HP.one it (.mapIter (some m) c #[] c)) (HP.one m (aJ enc l c)))):=λw R h F s a=>by
 obtain⟨s2,d2⟩:=s.alloc (.mapIter (some m) c #[] c)
 refine⟨.value _,_,_,by unfold tK;rw[Sem.run_bind,x9 ht (s.oh _ _ a)];rfl,rfl,Same.alloc _ _,R,_,PH.le.refl _,s2,w.heap.size,rfl,_,h,d2,PH.cC _ _,PH.ck d2,PH.cW _ _,a⟩
def q7(x:Value)(ty:TypeId):Sem Next:=do pure (.value (<-Instr.next x false ty))
theorem II{ρ:bp}{i:Nat}{u:V}:dM ρ (.next (.tmp i) false) ty [(i,u)]=q7 (u.den ρ) ty:=by
 simp[dM,execOp,fl,q7]
def L9(enc:κ->Value)(l:AL κ)(S:Array Nat)(v:Value):Option (κ×Value×Nat)->Prop
 |none=>v=.tuple #[.bool false]/\∀x∈l,x.2.2∈S
 |some x=>v=.tuple #[.bool true,enc x.1,x.2.1]/\x∈l/\x.2.2∉S
def kr(S:Array Nat):Option (κ×Value×Nat)->Array Nat
 |none=>S
 |some x=>S.push x.2.2
theorem q8(hs:gI l c):aI Tryz.prog (q7 (.pointer (some ⟨it,0,none⟩)) ty) (HP.an (HP.one it (.mapIter (some m) c S c)) (HP.one m (aJ enc l c)))
 (λv=>HP.ex λe=>HP.and (L9 enc l S v e) (HP.an (HP.one it (.mapIter (some m) c (kr S e) c)) (HP.one m (aJ enc l c)))):=λw R h F s a=>by
 have a1:=HP.aj a
 have a2:=HP.ai a
 have hne:m≠it:=by
  obtain⟨h1,h2,d,_,_,b1,b2⟩:=a
  intro e
  subst e
  rcases d m with e|e
  ·rw[show h1 m=some _ from b1]at e;cases e
  ·rw[show h2 m=some _ from b2]at e;cases e
 rcases A9 (P:=Tryz.prog) ty (s.oh _ _ a1) (s.oh _ _ a2) hs with⟨hall,e7⟩|⟨x,hx,hS,w1,ZU,e7⟩
 ·exact⟨.value _,_,w,by unfold q7;rw[Sem.run_bind,e7];rfl,rfl,Same.refl _,R,h,PH.le.refl _,s,none,⟨rfl,hall⟩,a⟩
 ·have s1:Sat w1 R h F/\Same w w1:=by
   rcases ZU with rfl|rfl
   ·exact⟨s,Same.refl _⟩
   ·exact⟨s.drew _,Same.drew w _⟩
  refine⟨.value _,_,_,by unfold q7;rw[Sem.run_bind,e7];rfl,rfl,s1.2.trans (Same.setObj _ _ _),R,_,PH.le.refl _,s1.1.setObj a1,some x,⟨rfl,hx,hS⟩,PH.one it _,PH.one m (aJ enc l c),λk=>?_,PH.sj (if_pos rfl),PH.sj ?_,PH.cW _ _,PH.cW _ _⟩
  ·by_cases e:k=it
   ·subst e;exact .inr (if_neg (λe=>hne e.symm))
   ·exact .inl (if_neg e)
  ·exact(if_neg hne).trans a2
def Wo(x:Value):Sem Next:=do pure (.value (<-Instr.entry x))
theorem vX{x:κ×Value×Nat}(hs:gI l c)(hx:x∈l){A:HP}(h1:∀R h,A.p R h->h it=some (.mapIter (some m) c (S.push x.2.2) c))(h2:∀R h,A.p R h->h m=some (aJ enc l c)):
 aH Tryz.prog (Wo (.pointer (some ⟨it,0,none⟩))) A (.tuple #[enc x.1,x.2.1]):=λw R h F s a=>by
 unfold Wo
 rw[Sem.run_bind,x8 (P:=Tryz.prog) (s.oh _ _ (h1 R h a)) (s.oh _ _ (h2 R h a)) hs hx]
 rfl
end
def jR(ar:List (Nat×Value)):Operand->Value
 | .tmp t=>match ar.find? (·.1==t)with
   |some x=>x.2
   |none=>undef
 | .const v=>v
 | .global g=>.pointer (some ⟨g,0,none⟩)
 | .func f=>.func (.func f) #[] #[]
def bI(o:Op)(ty:TypeId)(ar:List (Nat×Value)):Sem Next:=execOp (jR ar) {dst:=none,op:=o,type:=ty,pos:= "",after:= #[],guard:=none}
theorem Du(ρ:bp)(t:Nat):∀ar:List (Nat×V),(ar.map λx=>(x.1,x.2.den ρ)).find? (·.1==t)=(ar.find? (·.1==t)).map λx=>(x.1,x.2.den ρ)
 |[]=>rfl
 |x::r=>by
  simp only[List.map_cons,List.find?_cons]
  cases x.1==t<;>simp[Du ρ t r]
theorem cu{ρ:bp}{o:Op}{ty:TypeId}{ar:List (Nat×V)}:dM ρ o ty ar=bI o ty (ar.map λx=>(x.1,x.2.den ρ)):=by
 have h:fl ρ ar=jR (ar.map λx=>(x.1,x.2.den ρ)):=by
  funext x
  cases x with
  |tmp t=>
   simp only[fl,jR,Du]
   cases ar.find? (·.1==t)<;>rfl
  |const v=>rfl
  |global g=>rfl
  |func f=>rfl
 unfold dM bI
 rw[h]
section
variable {t ty:TypeId}{i j q:Nat}{u v x:Value}
theorem Oo:bI (.load t (.tmp i)) ty [(i,u)]=bG t u:=by simp[bI,execOp,jR,bG]
theorem dg(h:i≠j):bI (.store t (.tmp i) (.tmp j)) ty [(i,u),(j,v)]=bH t u v:=by
 have h':(i==j)=false:=by simpa using h
 simp[bI,execOp,jR,h',bH]
theorem cJ:bI (.store t (.tmp i) (.const v)) ty [(i,u)]=bH t u v:=by simp[bI,execOp,jR,bH]
theorem gh(h:i≠j):bI (.call ⟨.builtin .append,#[.tmp i,.tmp j],#[t,t]⟩) ty [(i,u),(j,v)]=kj t ty u v:=by
 have h':(i==j)=false:=by simpa using h
 simp[bI,execOp,resolve,jR,invoke,builtin,h',kj]
theorem Dv{ok:Bool}(h:i≠j):bI (.lookup t (.tmp i) (.tmp j) ok) ty [(i,u),(j,v)]=kU t u v ok:=by
 have h':(i==j)=false:=by simpa using h
 simp[bI,execOp,jR,h',kU]
theorem Bc{ok:Bool}{k:Value}:bI (.lookup t (.tmp i) (.const k) ok) ty [(i,u)]=kU t u k ok:=by
 simp[bI,execOp,jR,kU]
theorem Dw(h:i≠j)(h2:i≠q)(h3:j≠q):bI (.mapUpdate t (.tmp i) (.tmp j) (.tmp q)) ty [(i,u),(j,v),(q,x)]=jL t u v x:=by
 have h':(i==j)=false:=by simpa using h
 have Wn:(i==q)=false:=by simpa using h2
 have Wa:(j==q)=false:=by simpa using h3
 simp[bI,execOp,jR,h',Wn,Wa,jL]
theorem Bd{k:Value}(h:i≠j):bI (.mapUpdate t (.tmp i) (.tmp j) (.const k)) ty [(i,u),(j,v)]=jL t u v k:=by
 have h':(i==j)=false:=by simpa using h
 simp[bI,execOp,jR,h',jL]
theorem Be{k:Value}(h:i≠j):bI (.mapUpdate t (.tmp i) (.const k) (.tmp j)) ty [(i,u),(j,v)]=jL t u k v:=by
 have h':(i==j)=false:=by simpa using h
 simp[bI,execOp,jR,h',jL]
theorem Dx{ts:Array TypeId}(h:i≠j):bI (.call ⟨.builtin .delete,#[.tmp i,.tmp j],ts⟩) ty [(i,u),(j,v)]=Ds ts ty u v:=by
 have h':(i==j)=false:=by simpa using h
 simp[bI,execOp,resolve,jR,invoke,builtin,h',Ds]
theorem IJ:bI (.range t (.tmp i)) ty [(i,u)]=tK t u:=by simp[bI,execOp,jR,tK]
theorem Oq:bI (.next (.tmp i) false) ty [(i,u)]=q7 u ty:=by simp[bI,execOp,jR,q7]
theorem IK:bI (.entry (.tmp i)) ty [(i,u)]=Wo u:=by simp[bI,execOp,jR,Wo]
theorem eH{lo hi mx:Option Operand}{y:Operand}{ar:List (Nat×Value)}:bI (.slice t y lo hi mx) ty ar=je t (jR ar y) (lo.map (jR ar)) (hi.map (jR ar)) (mx.map (jR ar)):=rfl
def Sn(u:Value):Sem Next:=bI (.nilCheck (.tmp 0)) 0 [(0,u)]
theorem q9:bI (.nilCheck (.tmp i)) ty [(i,u)]=Sn u:=by simp[Sn,bI,execOp,jR]
end
theorem cg{X Y:Prop}(y:Y)(e:X=Y:=by(conv=>lhs;simp(maxSteps:=3000000) only[T.den,E.prop,E.den,RX.look,F1.app,F2.app,aP.dH,aP.dP,aP.cr,aP.eQ,aP.e9,aP.fw,aP.ju,bg,dB,V.den,W.den,A.den,BR.den,SA.den,FV.den,iX,nF,nK,fj,g5.app,List.map_cons,List.map_nil,List.cons_append,List.nil_append,List.drop_succ_cons,List.drop_zero,List.length_cons,List.length_nil,Nat.zero_add,Nat.reduceAdd,Int.neg_neg,Bool.not_not,List.append_nil,Nat.add_zero,List.getElem?_cons_zero,List.getElem?_cons_succ,Decidable.not_not,cu,Oo,dg,cJ,gh,Dv,Bc,Dw,Bd,Be,Dx,IJ,Oq,IK,q9,ne_eq,Nat.reduceEqDiff,not_false_eq_true])):X:=e▸y
section
variable {α:Type}
def sC(K:qg α)(e:TypeId)(one:∀x,∀u∈K.aA x,u.oneCell'=true):PK α:=⟨e,K.n,K.pos,K.aA,K.len,one,K.hp⟩
theorem gT{l:List HP}{R h:PH}(H:(aX l).p R h):∀x∈l,x.p R h:=by
 induction l generalizing h with
 |nil=>intro x hx;cases hx
 |cons y r ih=>
  intro x hx
  have H1:=bE.1 H
  rcases List.mem_cons.1 hx with e|e
  ·subst e;exact HP.aj H1
  ·exact ih (HP.ai H1) x e
theorem PL.ez{K:qg α}{e:TypeId}{one:∀x,∀u∈K.aA x,u.oneCell'=true}(a:Option Addr)(n c:Nat)(l:List α):HP.aV (PL (sC K e one) a n c l) (Ls K a n l):=λR h d H=>by
 obtain⟨hn,h1,h2,d',l1,l2,H1,H2⟩:=H
 obtain⟨R1,x1,q1,q2,q3,q4,q5⟩:=cp.ez _ _ _ _ _ _ R h1 (d.le (PH.le.refl _) l1) H1
 have hp:∀x∈l,(K.hp x).p R1 x1:=λx hx=>K.gf x _ _ _ ((K.hp x).mono q1 (PH.le.refl _) (gT H2 _ (List.mem_map.2 ⟨x,hx,rfl⟩)))
 refine⟨R1,x1,q1,q2,q3.trans l1,λk o e=>(q4 k o e).imp id (l1 k o),hn,q5,hp⟩
theorem PL.nX(K:PK α)(R h:PH):(PL K none 0 0 []).p R h:=⟨rfl,HP.az (cp.nil _ _ R h)⟩
theorem zb{l:List HP}{k:Nat}{x:HP}{R h:PH}(hk:k<l.length)(H:(HP.an x (aX l)).p R h):(aX (l.set k x)).p R h:=by
 refine iH hk (HP.ae H (λ_ h=>h) λy hy=>?_)
 have hg:l[k]? =some l[k]:=List.getElem?_eq_getElem hk
 exact HP.ai (ko hg hy)
theorem ra(K:PK α)(l:List α)(k:Nat)(hk:k<l.length)(y:α):(l.flatMap K.aA).take (k*K.n+0)++K.aA y++(l.flatMap K.aA).drop (k*K.n+0+(K.aA y).length)=(l.set k y).flatMap K.aA:=by
 have t1:∀j,(l.take j).flatMap K.aA=(l.flatMap K.aA).take (j*K.n):=λj=>by
  by_cases hj:j<=l.length
  ·conv=>rhs;rw[<-List.take_append_drop j l,List.flatMap_append]
   rw[List.take_left' (by rw[en K.aA K.n K.len,List.length_take,Nat.min_eq_left hj])]
  ·rw[List.take_of_length_le (by omega),List.take_of_length_le (by rw[en K.aA K.n K.len];exact Nat.mul_le_mul_right _ (by omega))]
 have t2:(l.drop (k+1)).flatMap K.aA=(l.flatMap K.aA).drop ((k+1)*K.n):=by
  conv=>rhs;rw[<-List.take_append_drop (k+1) l,List.flatMap_append]
  rw[List.drop_left' (by rw[en K.aA K.n K.len,List.length_take,Nat.min_eq_left (by omega)])]
 rw[List.set_eq_take_append_cons_drop,if_pos (by omega),List.flatMap_append,List.flatMap_cons,t1,t2,K.len,Nat.add_zero,Nat.succ_mul]
 simp
theorem PL.set{K:PK α}{i:TypeInfo}(hi:Tryz.prog.info? K.e=some i)(hs:i.size=K.n){a:Option Addr}{n c:Nat}{l:List α}{k:Nat}(hk:k<n)(y:α){v:Value}(hv:v.cells=(K.aA y).toArray)(Q:HP):
 aI Tryz.prog (bH K.e (.pointer (a.map λz=>(z.add (k*K.n)).add 0)) v) (HP.an (PL K a n c l) (HP.an (K.bf y) Q)) (λv=>HP.and (v=.tuple #[]) (HP.an (PL K a n c (l.set k y)) Q)):=by
 refine aI.bV (φ:=l.length=n) (λR h H=>(HP.aj H).1) λhl=>?_
 have hb:k*K.n+K.n<=n*K.n:=by rw[<-Nat.succ_mul];exact Nat.mul_le_mul_right _ hk
 have st:=lX hi K.e K.n a n c (l.flatMap K.aA) (k*K.n) 0 v (K.aA y) hv (by rw[hs,K.len]) (by rw[K.len];exact K.pos) (K.one y) (by rw[K.len];omega)
 have ec:=ra K l k (by omega) y
 refine(st.frame (HP.an (aX (l.map K.bf)) (HP.an (K.bf y) Q))).ak (λR h H=>?_) ?_
 ·exact HP.aq (HP.ae H (λ_ h=>h.2) λ_ h=>h)
 ·rintro v R h ⟨h1,h2,d,l1,l2,⟨rfl,H⟩,HU⟩
  refine⟨rfl,?_⟩
  rw[ec]at H
  have H1:(HP.an (cp K.e K.n a n c ((l.set k y).flatMap K.aA)) (HP.an (HP.an (K.bf y) (aX (l.map K.bf))) Q)).p R h:=
   ⟨h1,h2,d,l1,l2,H,HP.ay (HP.swap HU)⟩
  have H2:=HP.ay (HP.ae H1 (λ_ h=>h) λz hz=>HP.ae hz (λw hw=>zb (k:=k) (x:=K.bf y) (by simp[hl];exact hk) hw) λ_ h=>h)
  refine HP.ae H2 (λz hz=>⟨by simp[hl],?_⟩) λ_ h=>h
  rw[List.map_set];exact hz
end
theorem PL.Sp{α:Type}{K:PK α}(t ty:TypeId){i:TypeInfo}{z:Value}(ht:Tryz.prog.underlying t=some (.slice K.e))(hi:Tryz.prog.info? K.e=some i)(hz:i.zero=some z)(hzs:z.cells.size=i.size)(hs:i.size=K.n)(hby:i.bytes<=1000)
 (a:Option Addr) (n c:Nat) (l:List α) (b:Nat) (x:α) (Q:HP) (hb:n<=1000000000):
 aI Tryz.prog (kj t ty (.slice a n c) (.slice (some ⟨b,0,none⟩) 1 1)) (HP.an (PL K a n c l) (HP.an (HP.one b (.cells (K.aA x).toArray K.e (0,0))) (HP.an (K.bf x) Q)))
  (λv=>HP.ex λa'=>HP.ex λc'=>HP.and (v=.slice a' (n+1) c') (HP.an (PL K a' (n+1) c' (l++[x])) (HP.an (HP.one b (.cells (K.aA x).toArray K.e (0,0))) Q))):=by
 have hr:=dW b (K.aA x).toArray K.e
 have hbn:(n+1)*i.bytes<=140737488355328:=by
  have:=Nat.mul_le_mul (show n+1<=1000000001 by omega) hby
  omega
 have:=fG t ty K.e i z ht hi hz hzs (by rw[hs];exact K.pos) a n c (l.flatMap K.aA) (HP.one b (.cells (K.aA x).toArray K.e (0,0))) ⟨b,0,none⟩ 1 1 (K.aA x) (by simpa using hr) (by rw[K.len,hs,Nat.one_mul]) (K.one x) (by unfold maxLen;omega) hbn
 rw[hs]at this
 refine aI.bV (φ:=l.length=n) (λR h H=>(HP.aj H).1) λhl=>?_
 refine(this.frame (HP.an (aX (l.map K.bf)) (HP.an (K.bf x) Q))).ak (λR h H=>?_) ?_
 ·have H1:=HP.aq (HP.ae H (λ_ h=>h.2) λ_ h=>h)
  exact HP.ay (HP.pick [_,_,_,_,_] [0,2,1,3,4] (by decide) rfl H1)
 ·rintro v R h ⟨h1,h2,d,l1,l2,⟨a',c',rfl,H⟩,HU⟩
  refine⟨a',c',rfl,?_⟩
  have H1:=HP.aq ⟨h1,h2,d,l1,l2,H,HU⟩
  have H2:=HP.pick [cp K.e K.n a' (n+1) c' (l.flatMap K.aA++K.aA x),HP.one b (.cells (K.aA x).toArray K.e (0,0)),aX (l.map K.bf),K.bf x,Q] [0,2,3,1,4] (by decide) rfl H1
  have e:(l++[x]).map K.bf=l.map K.bf++[K.bf x]:=by simp
  have H3:(HP.an (cp K.e K.n a' (n+1) c' (l.flatMap K.aA++K.aA x)) (HP.an (aX ((l++[x]).map K.bf)) (HP.an (HP.one b (.cells (K.aA x).toArray K.e (0,0))) Q))).p R h:=HP.ae H2 (λ_ h=>h) λy hy=>by
   have:=HP.ay hy
   rw[e]
   exact HP.ae this (λz hz=>(eB (l:=l.map K.bf) (m:=[K.bf x])).2 hz) λ_ h=>h
  have H4:=HP.ay H3
  refine HP.ae H4 (λy hy=>⟨by simp[hl],?_⟩) λ_ h=>h
  have e2:(l++[x]).flatMap K.aA=l.flatMap K.aA++K.aA x:=by simp
  rw[e2]
  exact hy
theorem nV.set{α:Type}{K:PK α}{i:TypeInfo}(hi:Tryz.prog.info? K.e=some i)(hs:i.size=K.n){a:Option Addr}{n c:Nat}{l:List α}{k:Nat}(hk:k<n)(y:α){v:Value}(hv:v.cells=(K.aA y).toArray)(Q:HP):
 aI Tryz.prog (bH K.e (.pointer (a.map λz=>(z.add (k*K.n)).add 0)) v) (HP.an (nV K a n c l k) (HP.an (K.bf y) Q)) (λv=>HP.and (v=.tuple #[]) (HP.an (PL K a n c (l.set k y)) Q)):=by
 refine aI.bV (φ:=l.length=n) (λR h H=>(HP.aj H).1) λhl=>?_
 have hb:k*K.n+K.n<=n*K.n:=by rw[<-Nat.succ_mul];exact Nat.mul_le_mul_right _ hk
 have st:=lX hi K.e K.n a n c (l.flatMap K.aA) (k*K.n) 0 v (K.aA y) hv (by rw[hs,K.len]) (by rw[K.len];exact K.pos) (K.one y) (by rw[K.len];omega)
 rw[ra K l k (by omega) y]at st
 refine(st.frame (HP.an (aX ((l.map K.bf).eraseIdx k)) (HP.an (K.bf y) Q))).ak (λR h H=>?_) ?_
 ·exact HP.aq (HP.ae H (λ_ h=>h.2) λ_ h=>h)
 ·rintro v R h ⟨h1,h2,d,l1,l2,⟨rfl,H⟩,HU⟩
  refine⟨rfl,?_⟩
  have H1:(HP.an (cp K.e K.n a n c ((l.set k y).flatMap K.aA)) (HP.an (HP.an (K.bf y) (aX ((l.map K.bf).eraseIdx k))) Q)).p R h:=
   ⟨h1,h2,d,l1,l2,H,HP.ay (HP.swap HU)⟩
  have H2:=HP.ay (HP.ae H1 (λ_ h=>h) λz hz=>HP.ae hz (λw hw=>iH (k:=k) (x:=K.bf y) (by simp[hl];exact hk) hw) λ_ h=>h)
  refine HP.ae H2 (λz hz=>⟨by simp[hl],?_⟩) λ_ h=>h
  rw[List.map_set];exact hz
theorem Sq{t e:TypeId}{d:TypeDesc}(hd:Tryz.prog.underlying t=some d)(ha:gF Tryz.prog t=false)(hz:gr Tryz.prog t=1){b k:Nat}{cs:Array Value}{v:Value}(hk:cs.toList[k]? =some v){Q:HP}:
 aH Tryz.prog (bG t (.pointer (some ⟨b,k,none⟩))) (HP.an (HP.one b (.cells cs e (0,0))) Q) v:=by
 have:=b7 hd ha hz (Rd.left (B:=Q) (dW b cs e)) (k:=k) (off:=0) (v:=v) hk
 simpa[addr_add]using this
theorem ZV{t e:TypeId}{d:TypeDesc}(hd:Tryz.prog.underlying t=some d)(ha:gF Tryz.prog t=true){b k:Nat}{cs:Array Value}{vs:List Value}(hz:gr Tryz.prog t=vs.length)(hp:0<vs.length)(hk:∀j v,vs[j]? =some v->cs.toList[k+j]? =some v){Q:HP}:
 aH Tryz.prog (bG t (.pointer (some ⟨b,k,none⟩))) (HP.an (HP.one b (.cells cs e (0,0))) Q) (.agg vs.toArray):=by
 have:=kk hd ha (Rd.left (B:=Q) (dW b cs e)) (k:=k) (off:=0) hz hp (λj v hj=>by rw[Nat.add_zero];exact hk j v hj)
 simpa[addr_add]using this
theorem Sr{t e:TypeId}{i:TypeInfo}(hi:Tryz.prog.info? t=some i)(hz:i.size=1){b k:Nat}{cs cs':Array Value}{x:Value}(hx:x.cells= #[x])(h1:x.oneCell'=true)(hk:k<cs.size)(hc:cs'=cs.setIfInBounds k x)(Q:HP):
 aI Tryz.prog (bH t (.pointer (some ⟨b,k,none⟩)) x) (HP.an (HP.one b (.cells cs e (0,0))) Q) (λv=>HP.and (v=.tuple #[]) (HP.an (HP.one b (.cells cs' e (0,0))) Q)):=by
 have:=ij hi e b cs k x [x] (by rw[hx]) (by simp[hz]) (by simp) (by simpa using h1) (by simp;omega) (by unfold maxLen;omega)
 have ec:(cs.toList.take k++[x]++cs.toList.drop (k+[x].length)).toArray=cs':=by
  rw[hc]
  apply Array.ext'
  rw[Array.toList_setIfInBounds,List.set_eq_take_append_cons_drop,if_pos (by simpa using hk)]
  simp
 rw[ec]at this
 refine(this.frame Q).ak (λ_ _ h=>h) ?_
 rintro v R h ⟨h1,h2,d,l1,l2,⟨rfl,H⟩,HU⟩
 exact⟨rfl,h1,h2,d,l1,l2,H,HU⟩
theorem ZW{t e:TypeId}{i:TypeInfo}(hi:Tryz.prog.info? t=some i){b k:Nat}{cs cs':Array Value}{x:Value}{vs:List Value}(hx:x.cells=vs.toArray)(hz:i.size=vs.length)(hp:0<vs.length)(h1:∀v∈vs,v.oneCell'=true)(hk:k+vs.length<=cs.size)
 (hc:cs'.toList=cs.toList.take k++vs++cs.toList.drop (k+vs.length)) (Q:HP):
 aI Tryz.prog (bH t (.pointer (some ⟨b,k,none⟩)) x) (HP.an (HP.one b (.cells cs e (0,0))) Q) (λv=>HP.and (v=.tuple #[]) (HP.an (HP.one b (.cells cs' e (0,0))) Q)):=by
 have:=ij hi e b cs k x vs hx hz hp h1 hk (by unfold maxLen;omega)
 rw[<-hc,Array.toArray_toList]at this
 refine(this.frame Q).ak (λ_ _ h=>h) ?_
 rintro v R h ⟨h1,h2,d,l1,l2,⟨rfl,H⟩,HU⟩
 exact⟨rfl,h1,h2,d,l1,l2,H,HU⟩
def ixS(t:TypeId)(u v:Value):Sem Next:=do pure (.value (<-Instr.indexAt t u v))
theorem l9{t ty:TypeId}{i j:Nat}{u v:Value}(h:i≠j):bI (.indexAddr t (.tmp i) (.tmp j)) ty [(i,u),(j,v)]=ixS t u v:=by
 have h':(i==j)=false:=by simpa using h
 simp[bI,execOp,jR,h',ixS]
theorem vY{t el:TypeId}{n:Nat}(ht:Tryz.prog.underlying t=some (.array n el))(hi:(Tryz.prog.info? el).isSome=true)(hz:gr Tryz.prog el=1){b off k:Nat}{x:Int}(hx:x=k)(hk:k<n){A:HP}:
 aH Tryz.prog (ixS t (.pointer (some ⟨b,off,none⟩)) (.int .i64 x)) A (.pointer (some ⟨b,off+k,none⟩)):=λw R h F s _=>by
 obtain⟨i,hi⟩:=Option.isSome_iff_exists.1 hi
 subst hx
 unfold ixS
 rw[Sem.run_bind,RX.run_indexAt_array ht hi (by omega) (by omega),hz]
 simp[addr_add]
def mkS(t:TypeId)(n c:Value):Sem Next:=do pure (.value (<-Instr.makeSlice t n c))
theorem Bf{t ty:TypeId}{i:Nat}{u:Value}:bI (.makeSlice t (.tmp i) (.tmp i)) ty [(i,u),(i,u)]=mkS t u u:=by simp[bI,execOp,jR,mkS]
theorem Ss(z:Value)(n:Nat):(madeCells #[z] n).toList=List.replicate n z:=by
 refine List.ext_getElem (by simp[madeCells]) λi h1 h2=>?_
 simp[madeCells,Nat.mod_one]
theorem St{t e:TypeId}{i:TypeInfo}{z:Value}(ht:Tryz.prog.underlying t=some (.slice e))(hi:Tryz.prog.info? e=some i)(hz:i.zero=some z)(hzs:z.cells= #[z])(hs:i.size=1)(n:Nat)(hb:i.bytes*n<=281474976710656)(hm:n<=maxLen)(A:HP):
 aI Tryz.prog (mkS t (.int .i64 n) (.int .i64 n)) A (λv=>HP.ex λx=>HP.and (v=.slice (some ⟨x,0,none⟩) n n) (HP.an (cp e 1 (some ⟨x,0,none⟩) n n (List.replicate n z)) A)):=λw R h F s a=>by
 have tL:=run_make (P:=Tryz.prog) w t e i z ht hi hz .i64 .i64 n n (by omega) (Int.le_refl _) (by have:((i.bytes*n:Nat):Int)<=281474976710656:=by omega
                                                                                                  rwa [Int.natCast_mul]at this) (by unfold maxLen at hm;omega)
 simp only[Int.toNat_natCast]at tL
 obtain⟨s1,d1⟩:=s.alloc (.cells (madeCells z.cells (n*i.size)) e)
 refine⟨.value _,_,_,by unfold mkS;rw[Sem.run_bind,tL];rfl,rfl,Same.alloc w _,R,_,PH.le.refl _,s1,w.heap.size,rfl,_,_,d1,PH.cC _ _,PH.ck d1,⟨by simp,.inr ⟨_,_,rfl,PH.cW _ _,Nat.le_refl _,hm,?_,?_⟩⟩,a⟩
 ·rw[hzs,hs];simp[madeCells]
 ·rw[hzs,hs,Ss];simp
def yb(t ty:TypeId)(u:Value):Sem Next:=do pure (.value (<-Builtin.clear_ #[t] ty #[u]))
theorem mN{t ty:TypeId}{i:Nat}{u:Value}:bI (.call ⟨.builtin .clear,#[.tmp i],#[t]⟩) ty [(i,u)]=yb t ty u:=by
 simp[bI,execOp,resolve,jR,invoke,builtin,yb]
theorem Bg(z:Array Value)(n:Nat):(Builtin.zeroCells z n).size=n*z.size/\∀v∈Builtin.zeroCells z n,v∈z:=by
 refine⟨by simp[Builtin.zeroCells],λv hv=>?_⟩
 unfold Builtin.zeroCells at hv
 simp only[Array.mem_map,Array.mem_range]at hv
 obtain⟨i,hi,rfl⟩:=hv
 have hz:0<z.size:=by
  rcases Nat.eq_zero_or_pos z.size with h|h
  ·rw[h,Nat.mul_zero]at hi;omega
  ·exact h
 rw[getElem!_pos z _ (Nat.mod_lt _ hz)]
 exact Array.getElem_mem _
set_option maxHeartbeats 1000000 in
theorem sD{t e:TypeId}{size:Nat}{AZ:TypeInfo}{z:Value}(hu:Tryz.prog.underlying t=some (.slice e))(hi:Tryz.prog.info? e=some AZ)(ZX:AZ.zero=some z)(QT:z.cells.size=size)(YA:∀v∈z.cells,v.oneCell'=true)
 (ty:TypeId) (a:Option Addr) (n c:Nat) (xs:List Value) (i m c2:Nat) (h:i+m=n):
 aI Tryz.prog (yb t ty (.slice (a.map (·.add (i*size))) m c2)) (cp e size a n c xs) (λv=>HP.ex λys:List Value=>HP.and (v=.tuple #[]/\ys.take (i*size)=xs.take (i*size)) (cp e size a n c ys)):=by
 rintro w R h' F s ⟨hl,hh⟩
 rcases hh with⟨rfl,h0,h1⟩|⟨g,cur,rfl,hg,q1,q2,q3,q4⟩
 ·refine⟨.value (.tuple #[]),_,w,?_,rfl,Same.refl _,R,h',PH.le.refl _,s,xs,⟨rfl,rfl⟩,hl,.inl ⟨rfl,h0,h1⟩⟩
  unfold yb Builtin.clear_
  simp[RX.run_underlying hu]
 by_cases hm:m=0
 ·subst hm
  refine⟨.value (.tuple #[]),_,w,?_,rfl,Same.refl _,R,h',PH.le.refl _,s,xs,⟨rfl,rfl⟩,hl,.inr ⟨g,cur,rfl,hg,q1,q2,q3,q4⟩⟩
  unfold yb Builtin.clear_
  simp[RX.run_underlying hu]
 have hw:=s.oh _ _ hg
 obtain⟨e1,e2⟩:=Bg z.cells m
 have ZD:(Builtin.zeroCells z.cells m).toList.length=m*size:=by rw[Array.length_toList,e1,QT]
 have h1:∀v∈(Builtin.zeroCells z.cells m).toList,v.oneCell'=true:=λv hv=>YA v (e2 v (Array.mem_toList_iff.1 hv))
 have him:i*size+m*size=n*size:=by rw[<-h,Nat.add_mul]
 have hsz:n*size<=cur.size:=by rw[q3];exact Nat.mul_le_mul_right _ q1
 have hst:=run_storeCells_at (P:=Tryz.prog) g (i*size) e (Builtin.zeroCells z.cells m).toList 0 cur w hw (by rw[ZD];omega) h1
 have e7:(yb t ty (.slice ((some (⟨g,0,none⟩:Addr)).map (·.add (i*size))) m c2)).run Tryz.prog w=.ok (.value (.tuple #[])) (w.setRow g (cur.toList.take (i*size+0)++(Builtin.zeroCells z.cells m).toList++cur.toList.drop (i*size+0+(Builtin.zeroCells z.cells m).toList.length)).toArray):=by
  unfold yb Builtin.clear_
  simp only[Option.map_some,addr_add,Nat.zero_add,List.getElem?_toArray,List.getElem?_cons_zero,Sem.run_bind,RX.run_underlying hu,Result.andThen_ok,y9 hi ZX,hst,Sem.run_pure]
 have hln:=Array.length_toList (xs:=cur)
 refine⟨.value (.tuple #[]),_,_,e7,rfl,⟨rfl,rfl,rfl,by simp⟩,R,_,PH.le.refl _,s.aY (y:=.cells (cur.toList.take (i*size+0)++(Builtin.zeroCells z.cells m).toList++cur.toList.drop (i*size+0+(Builtin.zeroCells z.cells m).toList.length)).toArray e (0,0)) hg (λj hj=>setRow_other w g j _ hj) (setRow_heap w g cur _ e (0,0) hw),(cur.toList.take (i*size+0)++(Builtin.zeroCells z.cells m).toList++cur.toList.drop (i*size+0+(Builtin.zeroCells z.cells m).toList.length)).take (n*size),⟨rfl,?_⟩,?_,.inr ⟨g,_,rfl,if_pos rfl,q1,q2,?_,rfl⟩⟩
 ·subst q4
  rw[List.take_take,List.take_take,Nat.min_eq_left (by omega),Nat.add_zero,List.append_assoc,List.take_append_of_le_length (by simp;omega),List.take_take,Nat.min_self]
 ·simp only[List.length_take,List.length_append,List.length_drop,Array.length_toList,ZD];omega
 ·simp only[List.size_toArray,List.length_append,List.length_take,List.length_drop,Array.length_toList,ZD];omega
end
namespace RX
-- eC/YB.akr:ρ:=[.a ba,.n bl,.n bc,.p bP]
def Ma:T:=
(.call 55 [.s 0] [(0,3)] [.a,.n,.n,.p,.p] (.s 4) [(4,7),(0,8)]
(.new
(.ret (.ptr 9 0) [(0,8),(.b 9,.cells [.s 4,.bool (.c false)] 177),(4,7)])))
theorem IL:tree Tryz.prog {} Tryz.f56 [.s 0] [(0,3)] 4=Ma:=by kernel_rfl
def Mb:T:=
(.ret (.au []) [(.b 0,.cells [.z,.bool (.c true)] 177),(1,4)])
theorem IM:tree Tryz.prog {} Tryz.f133 [.ptr 0 0] [(.b 0,.cells [.s 1,.bool 5] 177),(1,4)] 6=Mb:=by kernel_rfl
def Mc:T:=
(.br 5
(.ret .z [(.b 0,.cells [.s 1,.bool 5] 177),(1,4)])
(.br (.lt (.of 2) 6)
(.call 133 [.ptr 0 0] [(.b 0,.cells [.s 1,.bool 5] 177),(1,4)] [.a,.n,.n,.p,.c] (.au []) [(.b 0,.cells [.s 7,.bool 11] 177),(7,10)]
(.ret .z [(.b 0,.cells [.s 7,.bool 11] 177),(7,10)]))
(.read (.slice 42 (.tmp 22) (some (.const (.int .i64 0))) (some (.tmp 23)) (some (.tmp 24))) 42 [(22,.s 1),(23,6),(24,6)] [(1,4)] [.a,.n,.n] (.s 7)
(.read (.slice 42 (.tmp 30) (some (.tmp 31)) none none) 42 [(30,.s 1),(31,6)] [(1,4)] [.a,.n,.n] (.s 10)
(.ret (.s 7) [(.b 0,.cells [.s 10,.bool 5] 177),(1,4)])))))
theorem IN:tree Tryz.prog {} Tryz.f96 [.ptr 0 0,6] [(.b 0,.cells [.s 1,.bool 5] 177),(1,4)] 7=Mc:=by kernel_rfl
def zd:T:=
(.call 132 [2] [] [.i] 3 []
(.call 96 [.ptr 0 0,3] [(.b 0,1)] [.a,.n,.n,.p,.p] (.s 4) [(4,7),(.b 0,8)]
(.loop [.i,.i] [.z (.i 0),.z (.i 0)]
(.br (.lt 10 (.of 5))
(.need (.le (.i 0) 10)
(.need (.is 4)
  (.ld 5 15 (.aW 4 10 1 0) [(4,7)] [.i] (.w (.a (.int .u8 11)))
(.need (.o1 (.inr .u64) 11)
  (.rg (.add 10 (.i 1))
(.again 0 [.z (.o2 (.bit .or .u64) (.o2 (.shl .u64) 9 (.i 8)) 11),.z (.add 10 (.i 1))]))))))
(.ret (.w (.a (.int .u64 9))) [(.b 0,8)])))))
theorem Bh:tree Tryz.prog {} Tryz.f95 [.ptr 0 0,2] [(.b 0,1)] 3=zd:=by kernel_rfl
def Md:T:=
(.call 95 [.ptr 0 0,.k 4] [(.b 0,.cells [.s 1,.bool 5] 177),(1,4)] [.i,.a,.n,.n,.p,.c] (.w (.a (.int .u64 7))) [(.b 0,.cells [.s 8,.bool 12] 177),(8,11)]
(.br 12
(.ret (.k 0) [(.b 0,.cells [.s 8,.bool 12] 177),(8,11)])
(.br (.lt 6 (.o1 (.wrap .i64) 7))
(.call 133 [.ptr 0 0] [(.b 0,.cells [.s 8,.bool 12] 177),(8,11)] [.a,.n,.n,.p,.c] (.au []) [(.b 0,.cells [.s 13,.bool 17] 177),(13,16)]
(.ret (.k 0) [(.b 0,.cells [.s 13,.bool 17] 177),(13,16)]))
(.ret (.w (.a (.int .i64 (.o1 (.wrap .i64) 7)))) [(.b 0,.cells [.s 8,.bool 12] 177),(8,11)]))))
theorem qIO:tree Tryz.prog {} Tryz.f97 [.ptr 0 0,6] [(.b 0,.cells [.s 1,.bool 5] 177),(1,4)] 7=Md:=by kernel_rfl
def Me:T:=
(.call 95 [.ptr 0 0,.k 1] [(.b 0,1)] [.i,.p] (.w (.a (.int .u64 2))) [(.b 0,3)]
(.ret (.w (.a (.int .u8 (.o1 (.wrap .u8) 2)))) [(.b 0,3)]))
theorem IP:tree Tryz.prog {} Tryz.f57 [.ptr 0 0] [(.b 0,1)] 2=Me:=by kernel_rfl
def Su:T:=
(.call 95 [.ptr 0 0,.k 8] [(.b 0,1)] [.i,.p] (.w (.a (.int .u64 2))) [(.b 0,3)]
(.ret (.w (.a (.int .i64 (.o1 (.wrap .i64) 2)))) [(.b 0,3)]))
theorem Ot:tree Tryz.prog {} Tryz.f58 [.ptr 0 0] [(.b 0,1)] 2=Su:=by kernel_rfl
def Dy:T:=
(.call 97 [.ptr 0 0,2] [(.b 0,1)] [.i,.p] 3 [(.b 0,4)]
(.call 96 [.ptr 0 0,3] [(.b 0,4)] [.a,.n,.n,.p,.p] (.s 5) [(5,8),(.b 0,9)]
(.call 55 [.s 5] [(5,8)] [.a,.n,.n,.p,.p] (.s 10) [(10,13),(5,14)]
(.ret (.s 10) [(.b 0,9),(10,13)]))))
theorem Dz:tree Tryz.prog {} Tryz.f59 [.ptr 0 0,2] [(.b 0,1)] 3=Dy:=by kernel_rfl
def Sv:T:=
(.br 5
(.ret (.k 3) [(.b 0,.cells [.s 1,.bool 5] 177),(1,4)])
(.br (.lt (.i 0) (.of 2))
(.ret (.k 3) [(.b 0,.cells [.s 1,.bool 5] 177),(1,4)])
(.ret (.k 0) [(.b 0,.cells [.s 1,.bool 5] 177),(1,4)])))
theorem Ou:tree Tryz.prog {} Tryz.f60 [.ptr 0 0] [(.b 0,.cells [.s 1,.bool 5] 177),(1,4)] 6=Sv:=by kernel_rfl
end RX
section
open RX
def cX(b:Nat)(s:List UInt8×Bool):HP:=HP.ex λa=>HP.ex λc=>HP.and (s.1.length<=c/\s.1.length<=140737488355328) (HP.an (HP.one b (.cells #[.slice a s.1.length c,.bool s.2] 177)) (aO a s.1.length s.1))
theorem DA(b:Nat)(s:List UInt8×Bool):ax Tryz.prog 133 #[.pointer (some ⟨b,0,none⟩)] (cX b s) (λv=>HP.and (v=.tuple #[]) (cX b ([],true))):=by
 refine ax.ex λa=>ax.ex λc=>ax.pure λ_=>?_
 refine ah (ρ:=[.n b,.a a,.n s.1.length,.n c,.p (aO a s.1.length s.1),.c s.2]) mixed Tryz.func133 IM ?_
 unfold Mb
 refine cY ?_
 exact .of λR h H=>⟨trivial,none,0,⟨by simp,by simp⟩,HP.ae H (λ_ h=>h) λ_ _=>bb.nil _ _ _ _⟩
def fg(s:List UInt8×Bool)(n:Nat):List UInt8×(List UInt8×Bool):=if s.2 then([],s)else if s.1.length<n then([],([],true))else(s.1.take n,(s.1.drop n,false))
theorem sz8:gr Tryz.prog 5=1:=by kernel_rfl
theorem DB(b:Nat)(s:List UInt8×Bool)(n:Nat):ax Tryz.prog 96 #[.pointer (some ⟨b,0,none⟩),.int .i64 n] (cX b s)
 (λv=>HP.ex λa=>HP.ex λc=>HP.and (v=.slice a (fg s n).1.length c) (HP.an (aO a (fg s n).1.length (fg s n).1) (cX b (fg s n).2))):=by
 obtain⟨l,wr⟩:=s
 refine ax.ex λa=>ax.ex λc=>ax.pure λhc=>?_
 simp only at hc
 refine ah (ρ:=[.n b,.a a,.n l.length,.n c,.p (aO a l.length l),.c wr,.i n]) mixed Tryz.func96 IN ?_
 unfold Mc
 refine cY ?_
 refine⟨λh1=>.of λR h H=>?_,λh1=>⟨λh2=>?_,λh2=>?_⟩⟩
 ·subst h1
  simp only[fg,if_true]
  exact⟨none,0,rfl,bb.join (bb.nil _ _ R h) ⟨a,c,hc,H⟩⟩
 ·have e:fg (l,wr) n=([],([],true)):=by simp only[fg];rw[if_neg h1,if_pos (by omega)]
  rw[e]
  refine(DA b (l,wr)).ak (λR h H=>⟨a,c,hc,H⟩) ?_
  rintro v R h ⟨rfl,a',c',yd,H⟩
  refine⟨a',_,c',aO a' 0 [],true,rfl,.of λR h H=>⟨none,0,rfl,bb.join (bb.nil _ _ R h) ⟨a',c',yd,H⟩⟩,H⟩
 ·have hn:n<=l.length:=by omega
  have hw:wr=false:=by simpa using h1
  have e:fg (l,wr) n=(l.take n,(l.drop n,false)):=by simp only[fg];rw[if_neg h1,if_neg (by omega)]
  rw[e]
  obtain⟨i,hi,_⟩:=info_parts L6
  have s1:=dC lY hi (aO a l.length l) a l.length c (some 0) (some n) (some n) (Nat.zero_le _) (Nat.le_refl _) (by simp;omega) (λ_=>rfl)
  have s2:=dC lY hi (aO a l.length l) a l.length c (some n) none none hn hc.1 (Nat.le_refl _) (λh=>by cases h)
  refine⟨_,_,_,s1,_,_,_,s2,?_⟩
  simp only[Option.getD_some,Option.getD_none,Nat.sub_zero,sz8,Nat.mul_one,Nat.zero_mul]
  refine .of λR h H=>?_
  have hro:=HP.ai H
  have r1:=bb.sub hro 0 n n (Nat.zero_le _) hn (Nat.le_refl _)
  have r2:=bb.sub hro n l.length c hn (Nat.le_refl _) hc.1
  simp only[Nat.sub_zero,Nat.mul_one,Nat.zero_mul,List.drop_zero,<-List.map_take,<-List.map_drop]at r1 r2
  rw[List.take_of_length_le (by simp)]at r2
  have e1:(l.take n).length=n:=by simp[hn]
  have e2:(l.drop n).length=l.length - n:=by simp
  rw[<-e2]at r2
  refine⟨if n=0 then a else Option.map (λx=>x.add 0) a,n,by rw[e1],?_⟩
  rw[e1]
  refine bb.join r1 ⟨_,c - n,⟨by simp only[e2];omega,by simp only[e2];omega⟩,bb.gR r2 ?_⟩
  have:=HP.aj H
  simp only[e2]
  rw[hw]at this
  exact this
def Sw(l:List UInt8):Nat:=l.foldl (λv b=>v*256+b.toNat) 0
theorem Sy(l:List UInt8)(b:UInt8):Sw (l++[b])=Sw l*256+b.toNat:=by simp[Sw]
theorem Sz(l:List UInt8):Sw l<256^l.length:=by
 have key:∀(l:List UInt8) (v:Nat),l.foldl (λv (b:UInt8)=>v*256+b.toNat) v<(v+1)*256^l.length:=by
  intro l
  induction l with
  |nil=>intro v;simp
  |cons b r ih=>
   intro v
   have hb:=b.toNat_lt
   have h1:=ih (v*256+b.toNat)
   have h2:(v*256+b.toNat+1)*256^r.length<=(v+1)*256*256^r.length:=Nat.mul_le_mul_right _ (by omega)
   simp only[List.foldl_cons,List.length_cons,Nat.pow_succ]
   rw[Nat.mul_comm (256^r.length) 256,<-Nat.mul_assoc]
   omega
 simpa[Sw]using key l 0
def bq(s:List UInt8×Bool)(n:Nat):Nat×(List UInt8×Bool):=(Sw (fg s n).1,(fg s n).2)
theorem o8(s:List UInt8×Bool)(n:Nat):(fg s n).1.length<=n:=by
 unfold fg;split
 ·simp
 ·split<;>simp;omega
theorem Wp(v:Nat)(b:UInt8)(hv:v<2^56):bits .or .u64 (IntKind.u64.wrap ((v:Int)*2^(min (8:Int).toNat IntKind.u64.bits))) (b.toNat:Int)=((v*256+b.toNat:Nat):Int):=by
 have hb:=b.toNat_lt
 have e1:IntKind.u64.wrap ((v:Int)*2^(min (8:Int).toNat IntKind.u64.bits))=((v*256:Nat):Int):=by
  have:(v:Int)*2^(min (8:Int).toNat IntKind.u64.bits)=((v*256:Nat):Int):=by
   simp[IntKind.bits]
  rw[this]
  exact gu ⟨by simp[IntKind.min,IntKind.signed];omega,by simp[IntKind.max,IntKind.signed,IntKind.bits];omega⟩
 rw[e1]
 have e2:(v*256 ||| b.toNat)=v*256+b.toNat:=by
  have:=Nat.shiftLeft_add_eq_or_of_lt (a:=v) (b:=b.toNat) (i:=8) (by omega)
  rw[Nat.shiftLeft_eq]at this
  exact this.symm
 show IntKind.u64.wrap ((BitVec.ofInt 64 ((v*256:Nat):Int) ||| BitVec.ofInt 64 (b.toNat:Int)).toNat:Int)=_
 rw[BitVec.ofInt_natCast,BitVec.ofInt_natCast,BitVec.toNat_or,BitVec.toNat_ofNat,BitVec.toNat_ofNat,Nat.mod_eq_of_lt (by omega),Nat.mod_eq_of_lt (by omega),e2]
 exact gu ⟨by simp[IntKind.min,IntKind.signed];omega,by simp[IntKind.max,IntKind.signed,IntKind.bits];omega⟩
theorem aK(x:Int)(h1: -9223372036854775808<=x)(h2:x<=9223372036854775807):IntKind.i64.min<=x/\x<=IntKind.i64.max:=by
 simp[IntKind.min,IntKind.max,IntKind.signed,IntKind.bits];omega
theorem SB(x:Int)(h1:0<=x)(h2:x<=18446744073709551615):IntKind.u64.min<=x/\x<=IntKind.u64.max:=by
 simp[IntKind.min,IntKind.max,IntKind.signed,IntKind.bits];omega
theorem SC:Tryz.prog.underlying 5=some (.int .u8):=by kernel_rfl
theorem acQ:gF Tryz.prog 5=false:=by kernel_rfl
theorem gi(b:Nat)(s:List UInt8×Bool)(n:Nat)(hn:n<=8):ax Tryz.prog 95 #[.pointer (some ⟨b,0,none⟩),.int .i64 n] (cX b s)
 (λv=>HP.and (v=.int .u64 ((bq s n).1:Nat)) (cX b (bq s n).2)):=by
 refine ah (ρ:=[.n b,.p (cX b s),.i n]) mixed Tryz.func95 Bh ?_
 unfold zd
 refine cY ?_
 refine(Dn n HP.tt).ak (λ_ _ h=>h) ?_
 rintro r R h ⟨rfl,H⟩
 refine⟨min (max n 0) 8,rfl,?_,H⟩
 rw[show min (max (n:Int) 0) 8=n by omega]
 refine(DB b s n).ak (λ_ _ h=>h) ?_
 rintro r R h ⟨a,c,rfl,H⟩
 have hlen:=o8 s n
 have ha:0<(fg s n).1.length->a.isSome=true:=λh=>bb.some (HP.aj H) h
 refine⟨a,_,c,aO a _ (fg s n).1,cX b (fg s n).2,rfl,?_,H⟩
 have aks:256^(fg s n).1.length<=256^8:=Nat.pow_le_pow_right (by decide) (by omega)
 unfold bq
 generalize (fg s n).1=l at*
 generalize (fg s n).2=s' at*
 refine⟨λv i=>∃k:Nat,i=k/\k<=l.length/\v=((Sw (l.take k):Nat):Int),λv i=>l.length - i.toNat,⟨0,rfl,Nat.zero_le _,rfl⟩,?_⟩
 rintro v i ⟨k,rfl,hk,rfl⟩
 refine⟨λhlt=>⟨by omega,λ_=>?_⟩,λlN=>?_⟩
 ·have qX:k<l.length:=by omega
  have hb8:=l[k].toNat_lt
  have Iz:l[k]? =some l[k]:=List.getElem?_eq_getElem qX
  have hk8:Sw (l.take k)<2^56:=by
   have h1:=Sz (l.take k)
   rw[List.length_take,Nat.min_eq_left hk]at h1
   have h2:256^k<=256^7:=Nat.pow_le_pow_right (by decide) (by omega)
   have h3:(256:Nat)^7=2^56:=by decide
   omega
  refine⟨ha (by omega),λ_=>⟨(l[k].toNat:Int),?_,SB _ (by omega) (by omega),λ_=>⟨aK _ (by omega) (by omega),λ_=>⟨⟨k+1,by omega,qX,?_⟩,by dsimp only;omega⟩⟩⟩⟩
  ·exact b7 SC acQ sz8 (bb.rd 1 a _ (l.map fH)) (k:=(k:Int).toNat*1) (off:=0) (v:=fH l[k]) (by simp[Iz])
  ·rw[Wp _ _ hk8,List.take_succ_eq_append_getElem qX,Sy]
 ·have:k=l.length:=by omega
  subst this
  rw[List.take_length]
  exact .of λR h H=>⟨rfl,H⟩
theorem acR(v:Nat):IntKind.u8.wrap (v:Int)=((v%256:Nat):Int):=by
 simp only[IntKind.wrap,IntKind.bits,IntKind.signed,Bool.false_and,Bool.false_eq_true,if_false]
 omega
theorem nY(b:Nat)(s:List UInt8×Bool):ax Tryz.prog 57 #[.pointer (some ⟨b,0,none⟩)] (cX b s) (λv=>HP.and (v=.int .u8 (((bq s 1).1%256:Nat):Int)) (cX b (bq s 1).2)):=by
 refine ah (ρ:=[.n b,.p (cX b s)]) mixed Tryz.func57 IP ?_
 unfold Me
 refine cY ?_
 refine(gi b s 1 (by omega)).ak (λ_ _ h=>h) ?_
 rintro v R h ⟨rfl,H⟩
 exact⟨_,_,rfl,.of λR h H=>⟨by rw[acR],H⟩,H⟩
def cD(v:Nat):Int:=IntKind.i64.wrap (v:Int)
theorem kV(b:Nat)(s:List UInt8×Bool):ax Tryz.prog 58 #[.pointer (some ⟨b,0,none⟩)] (cX b s) (λv=>HP.and (v=.int .i64 (cD (bq s 8).1)) (cX b (bq s 8).2)):=by
 refine ah (ρ:=[.n b,.p (cX b s)]) mixed Tryz.func58 Ot ?_
 unfold Su
 refine cY ?_
 refine(gi b s 8 (by omega)).ak (λ_ _ h=>h) ?_
 rintro v R h ⟨rfl,H⟩
 exact⟨_,_,rfl,.of λR h H=>⟨rfl,H⟩,H⟩
def bW(s:List UInt8×Bool)(bO:Int):Nat×(List UInt8×Bool):=
 if(bq s 4).2.2 then(0,(bq s 4).2)else if bO<(bq s 4).1 then(0,([],true))else((bq s 4).1,(bq s 4).2)
theorem jX(s:List UInt8×Bool)(n:Nat):(bq s n).1<256^n:=
 Nat.lt_of_lt_of_le (Sz _) (Nat.pow_le_pow_right (by decide) (o8 s n))
theorem vZ(b:Nat)(s:List UInt8×Bool)(bO:Int):ax Tryz.prog 97 #[.pointer (some ⟨b,0,none⟩),.int .i64 bO] (cX b s) (λv=>HP.and (v=.int .i64 ((bW s bO).1:Nat)) (cX b (bW s bO).2)):=by
 have hlt:=jX s 4
 refine ax.ex λa=>ax.ex λc=>ax.pure λhc=>?_
 refine ah (ρ:=[.n b,.a a,.n s.1.length,.n c,.p (aO a s.1.length s.1),.c s.2,.i bO]) mixed Tryz.func97 qIO ?_
 unfold Md
 refine cY ?_
 refine(gi b s 4 (by omega)).ak (λR h H=>⟨a,c,hc,H⟩) ?_
 rintro v R h ⟨rfl,a',c',yd,H⟩
 unfold bW
 generalize (bq s 4).1=x at*
 generalize (bq s 4).2=s' at*
 obtain⟨l',w'⟩:=s'
 refine⟨_,a',_,c',aO a' l'.length l',w',rfl,?_,H⟩
 have e:IntKind.i64.wrap (x:Int)=x:=gu (aK _ (by omega) (by omega))
 rw[e]
 refine⟨λh1=>.of λR h H=>?_,λh1=>⟨λh2=>?_,λh2=>.of λR h H=>?_⟩⟩
 ·simp only[h1,if_true]
  subst h1
  exact⟨rfl,a',c',yd,H⟩
 ·rw[if_neg h1,if_pos h2]
  refine(DA b (l',w')).ak (λR h H=>⟨a',c',yd,H⟩) ?_
  rintro v R h ⟨rfl,a2,c2,Oj,H⟩
  exact⟨a2,_,c2,aO a2 _ [],true,rfl,.of λR h H=>⟨rfl,a2,c2,Oj,H⟩,H⟩
 ·rw[if_neg h1,if_neg h2]
  exact⟨rfl,a',c',yd,H⟩
def eI(s:List UInt8×Bool)(bO:Int):List UInt8×(List UInt8×Bool):=fg (bW s bO).2 (bW s bO).1
theorem j6(b:Nat)(s:List UInt8×Bool)(bO:Int):ax Tryz.prog 59 #[.pointer (some ⟨b,0,none⟩),.int .i64 bO] (cX b s)
 (λv=>HP.ex λa=>HP.ex λc=>HP.and (v=.slice a (eI s bO).1.length c) (HP.an (cX b (eI s bO).2) (du a (eI s bO).1.length c (eI s bO).1))):=by
 refine ah (ρ:=[.n b,.p (cX b s),.i bO]) mixed Tryz.func59 Dz ?_
 unfold Dy
 refine cY ?_
 refine(vZ b s bO).ak (λ_ _ h=>h) ?_
 rintro v R h ⟨rfl,H⟩
 refine⟨_,cX b (bW s bO).2,rfl,?_,H⟩
 refine(DB b _ _).ak (λ_ _ h=>h) ?_
 rintro v R h ⟨a,c,rfl,H⟩
 have hlen:(eI s bO).1.length<=140737488355328:=by
  have h1:=o8 (bW s bO).2 (bW s bO).1
  have h2:(bW s bO).1<256^4:=by
   have:=jX s 4
   unfold bW;split
   ·simp
   ·split
    ·simp
    ·exact this
  have h3:(256:Nat)^4=4294967296:=by decide
  unfold eI
  omega
 refine⟨a,_,c,aO a _ (eI s bO).1,cX b (eI s bO).2,rfl,?_,H⟩
 refine(j5 _ a _ c (eI s bO).1 (bR.ro _ _ _ _) rfl hlen).ak (λ_ _ h=>h) ?_
 rintro v R h ⟨a',c',rfl,H⟩
 exact⟨a',_,c',du a' _ c' _,aO a _ (eI s bO).1,rfl,.of λR h H=>⟨a',c',rfl,H⟩,H⟩
theorem jY(b:Nat)(s:List UInt8×Bool):ax Tryz.prog 60 #[.pointer (some ⟨b,0,none⟩)] (cX b s) (λv=>HP.and (v=.int .i64 (if s.2=true\/s.1≠[]then 3 else 0)) (cX b s)):=by
 obtain⟨l,w⟩:=s
 refine ax.ex λa=>ax.ex λc=>ax.pure λhc=>?_
 refine ah (ρ:=[.n b,.a a,.n l.length,.n c,.p (aO a l.length l),.c w]) mixed Tryz.func60 Ou ?_
 unfold Sv
 refine cY ?_
 refine⟨λh1=>.of λR h H=>⟨?_,a,c,hc,H⟩,λh1=>⟨λh2=>.of λR h H=>⟨?_,a,c,hc,H⟩,λh2=>.of λR h H=>⟨?_,a,c,hc,H⟩⟩⟩
 ·rw[if_pos (.inl h1)]
 ·rw[if_pos (.inr (λe=>by subst e;simp at h2))]
 ·rw[if_neg (λe=>e.elim h1 λe=>h2 (by have:=List.length_pos_iff.2 e;omega))]
theorem nZ(a:Option Addr)(n c:Nat)(l:List UInt8)(S:HP)(hr:bR S a n (l.map fH))(hl:l.length=n)(hb:n<=140737488355328):
 ax Tryz.prog 56 #[.slice a n c] S (λv=>HP.ex λb=>HP.and (v=.pointer (some ⟨b,0,none⟩)) (HP.an S (cX b (l,false)))):=by
 refine ah (ρ:=[.a a,.n n,.n c,.p S]) mixed Tryz.func56 IL ?_
 unfold Ma
 refine cY ?_
 refine(j5 S a n c l hr hl hb).ak (λ_ _ h=>h) ?_
 rintro v R h ⟨a',c',rfl,H⟩
 refine⟨a',_,c',du a' n c' l,S,rfl,λx=>?_,H⟩
 subst hl
 rintro R h d H
 have hle:=cp.le (HP.ai (HP.ai H))
 refine((HP.aV.gZ (HP.aV.refl S) (HP.aV.gZ (HP.aV.refl _) (cp.ez 5 1 a' l.length c' (l.map fH)))).trans ?_) R h d H
 refine .of λR h H=>⟨x,rfl,HP.ae H (λ_ h=>h) λy hy=>?_⟩
 exact⟨a',c',⟨hle,hb⟩,hy⟩
end
namespace RX
-- (*eC/YB.agH).aiP$1:ρ:=[.v yield,.p agI,.n n,.i n,.n r,.n r,.p rP]
def DC:T:=
(.loop [.i,.p,.p] [.z (.i 0),.p [(0,1)],.p [(.b 5,6)]]
(.br (.lt 7 3)
  (.ld 4 11 (.ptr 5 1) [(.b 5,9)] [.c] (.bool 10)
(.br 10
(.ret (.au []) [(0,8),(.b 2,.cells [3] 3),(.b 4,.cells [.ptr 5 0] 140),(.b 5,9)])
  (.jw 0 [7] [(0,8),(.b 5,9)] [.c,.p,.p] (.bool 11) [(0,12),(.b 5,13)]
(.br (.not 11)
(.ret (.au []) [(0,12),(.b 2,.cells [3] 3),(.b 4,.cells [.ptr 5 0] 140),(.b 5,13)])
  (.rg (.add 7 (.i 1))
(.again 0 [.z (.add 7 (.i 1)),.p [(0,12)],.p [(.b 5,13)]]))))))
(.ret (.au []) [(0,8),(.b 2,.cells [3] 3),(.b 4,.cells [.ptr 5 0] 140),(.b 5,9)])))
theorem DD:tree Tryz.prog {hv:=[(0,[.a 0,.b 5])],vt:=[.b 5]} Tryz.f336 [.val 0,.ptr 2 0,.ptr 4 0] [(0,1),(.b 2,.cells [3] 3),(.b 4,.cells [.ptr 5 0] 140),(.b 5,6)] 7=DC:=by kernel_rfl
def Mf:T:=
(.new
(.new
(.ret (.w (.a (.func 336 [(4,0),(3,0)]))) [(.b 0,1),(.b 4,.cells [2] 3),(.b 3,.cells [.ptr 0 0] 140)])))
theorem IQ:tree Tryz.prog {} Tryz.f318 [.ptr 0 0,2] [(.b 0,1)] 3=Mf:=by kernel_rfl
end RX
section
open RX
abbrev RS:=List UInt8×Bool
theorem DE:Tryz.prog.underlying 4=some .bool:=by kernel_rfl
theorem DF:gF Tryz.prog 4=false:=by kernel_rfl
theorem uz:gr Tryz.prog 4=1:=by kernel_rfl
theorem Bi(b:Nat)(s:RS):aH Tryz.prog (bG 4 (.pointer (some ⟨b,1,none⟩))) (cX b s) (.bool s.2):=λw R h F st ⟨a,c,_,H⟩=>by
 have:=b7 DE DF uz (Rd.left (B:=aO a s.1.length s.1) (dW b #[.slice a s.1.length c,.bool s.2] 177)) (k:=1) (off:=0) (v:=.bool s.2) rfl
 simp only[Option.map_some,addr_add]at this
 exact this w R h F st H
def SD(nb rb b:Nat)(N:Int):HP:=HP.an (HP.one nb (.cells #[.int .i64 N] 3 (0,0))) (HP.one rb (.cells #[.pointer (some ⟨b,0,none⟩)] 140 (0,0)))
def ZY(N:Nat)(g:Nat×RS)(args:Array Value)(g':Nat×RS):Prop:=args= #[.int .i64 (g.1:Int)]/\g.1<N/\g.2.2=false/\g'.1=g.1+1
def DG(N:Nat)(g:Nat×RS):Prop:=g.1<=N/\(g.1=N\/g.2.2=true)
theorem agJ:tD Tryz.prog 336:=⟨_,Tryz.func336,by kernel_rfl,by kernel_rfl⟩
theorem DH(b:Nat)(N:Int)(D:HP):ax Tryz.prog 318 #[.pointer (some ⟨b,0,none⟩),.int .i64 N] D
 (λv=>HP.ex λnb=>HP.ex λrb=>HP.and (v=.func (.func 336) #[] #[.pointer (some ⟨nb,0,none⟩),.pointer (some ⟨rb,0,none⟩)]) (HP.an (SD nb rb b N) D)):=by
 refine ah (ρ:=[.n b,.p D,.i N]) mixed Tryz.func318 IQ ?_
 unfold Mf
 refine cg ?_
 exact λx y=>.of λR h H=>⟨y,x,rfl,HP.ao H⟩
theorem ze(nb rb b:Nat)(N:Nat)(hN:N<=4294967296)(s:RS):vf Tryz.prog (.func (.func 336) #[] #[.pointer (some ⟨nb,0,none⟩),.pointer (some ⟨rb,0,none⟩)]) (SD nb rb b N)
 (λg:Nat×RS=>cX b g.2) (λ_ _=>HP.tt) (ZY N) (DG N) (0,s):=by
 refine⟨_,_,rfl,agJ,λl K Jx hr=>?_⟩
 refine(ah (ρ:=[.v (.func (.yield l) #[] #[]),.p (K (0,s)),.n nb,.i N,.n rb,.n b,.p (cX b s)]) mixed Tryz.func336 DD ?_).ak (λR h H=>?_) λ_ _ _ h=>h
 rotate_left
 ·exact HP.ae (HP.ao (HP.ay H)) (λ_ h=>h) λ_ h=>HP.aq h
 unfold DC
 refine cg ?_
 have iW:∀J J2:HP,HP.aV (HP.an J J2) (iy (λg:Nat×RS=>cX b g.2) K Jx (DG N))->HP.aV (HP.an J (HP.an (HP.one nb (.cells #[.int .i64 N] 3 (0,0))) (HP.an (HP.one rb (.cells #[.pointer (some ⟨b,0,none⟩)] 140 (0,0))) J2)))
  (HP.an (SD nb rb b N) (iy (λg:Nat×RS=>cX b g.2) K Jx (DG N))):=λJ J2 hJ=>
  (HP.aV.of λR h H=>HP.swap (HP.ae H (λ_ h=>h) λ_ h=>HP.ay h)).trans (HP.aV.gZ (HP.aV.refl _) hJ)
 refine⟨λk p q=>∃g:Nat×RS,k=g.1/\g.1<=N/\p=K g/\q=cX b g.2,λk _ _=>N - k.toNat,⟨(0,s),rfl,Nat.zero_le _,rfl,rfl⟩,?_⟩
 rintro k p q ⟨g,rfl,hg,rfl,rfl⟩
 have done:DG N g->HP.aV (HP.an (K g) (cX b g.2)) (iy (λg:Nat×RS=>cX b g.2) K Jx (DG N)):=λhf=>.of λR h H=>⟨some g,hf,HP.ao H⟩
 refine⟨λhlt=>⟨g.2.2,Bi b g.2,λhw=>?_,λhw=>?_⟩,λlN=>?_⟩
 ·exact iW _ _ (done ⟨hg,.inr hw⟩)
 ·have hw':g.2.2=false:=by simpa using hw
  refine(hr g #[.int .i64 (g.1:Int)] ⟨(g.1+1,g.2),rfl,by omega,hw',rfl⟩).be (K:=HP.tt) (.of λR h H=>HP.az (HP.aM (HP.ao H))) λv=>.of λR h H=>?_
  obtain⟨b',rfl,hb⟩:=HP.aj H
  cases b' with
  |true=>
   obtain⟨g',hm,H2⟩:=hb
   refine⟨true,K g',cX b g'.2,rfl,⟨λh=>absurd rfl h,λ_=>⟨aK _ (by omega) (by omega),λ_=>⟨⟨g',?_,?_,rfl,rfl⟩,?_⟩⟩⟩,HP.ao H2⟩
   ·rw[hm.2.2.2];omega
   ·rw[hm.2.2.2];omega
   ·dsimp only;omega
  |false=>
   refine⟨false,Jx,HP.tt,rfl,⟨λ_=>iW _ _ (.of λR h H=>⟨none,HP.aj H⟩),λh=>(by cases h)⟩,HP.az hb⟩
 ·exact iW _ _ (done ⟨hg,.inl (by omega)⟩)
def d8{α:Type}(f:RS->α×RS):Nat->RS->List α×RS
 |0,s=>([],s)
 |n+1,s=>if s.2 then([],s)else((f s).1::(d8 f n (f s).2).1,(d8 f n (f s).2).2)
def fz{α:Type}(f:RS->α×RS)(bO:Int)(s:RS):List α×RS:=
 if(d8 f (bW s bO).1 (bW s bO).2).2.2 then([],(d8 f (bW s bO).1 (bW s bO).2).2)else d8 f (bW s bO).1 (bW s bO).2
theorem DI(s:RS)(bO:Int):(bW s bO).1<=4294967295:=by
 have:=jX s 4
 unfold bW
 split
 ·exact Nat.zero_le _
 ·split
  ·exact Nat.zero_le _
  ·show(bq s 4).1<=_;omega
theorem DJ{s:RS}{n:Nat}(h:(fg s n).2.2=false):s.2=false/\(fg s n).2.1.length+n=s.1.length:=by
 unfold fg at h⊢
 split at h
 ·rename_i e;rw[e]at h;cases h
 ·rename_i e
  split at h
  ·cases h
  ·rw[if_neg e,if_neg (by assumption)]
   exact⟨by simpa using e,by simp;omega⟩
theorem v6{s:RS}{n:Nat}(h:(bq s n).2.2=false):s.2=false/\(bq s n).2.1.length+n=s.1.length:=DJ h
theorem DK{s:RS}{m:Int}(h:(bW s m).2.2=false):s.2=false/\(bW s m).2.1.length+4=s.1.length:=by
 unfold bW at h⊢
 split at h
 ·rename_i e;rw[e]at h;cases h
 ·rename_i e
  split at h
  ·cases h
  ·rw[if_neg e,if_neg (by assumption)];exact v6 h
theorem DL(s:RS)(n:Nat):(fg s n).2.1.length<=s.1.length:=by
 unfold fg;split
 ·exact Nat.le_refl _
 ·split<;>simp
theorem sF(s:RS)(m:Int):(bW s m).2.1.length<=s.1.length:=by
 have:=DL s 4
 unfold bW
 split
 ·exact this
 ·split
  ·simp
  ·exact this
def Bj{α:Type}(f:RS->α×RS):Prop:=∀s,(f s).2.2=false->(f s).2.1.length+1<=s.1.length
theorem IR{α:Type}(f:RS->α×RS){n i:Nat}{s:RS}(hi:i<n)(hs:s.2=false):d8 f (n - i) s=((f s).1::(d8 f (n - (i+1)) (f s).2).1,(d8 f (n - (i+1)) (f s).2).2):=by
 rw[show n - i=(n - (i+1))+1 by omega]
 conv=>lhs;unfold d8
 rw[if_neg (by simp[hs])]
theorem zf{α:Type}(f:RS->α×RS){n:Nat}{s:RS}(h:n=0\/s.2=true):d8 f n s=([],s):=by
 cases n with
 |zero=>rfl
 |succ n=>unfold d8;rw[if_pos (h.resolve_left (by omega))]
def n4{α:Type}(f:RS->α×RS)(n:Nat)(s1:RS)(g:Nat×RS)(ll:List α):Prop:=
 g.1<=n/\(g.2.2=false->ll.length+g.2.1.length<=s1.1.length)/\d8 f n s1=(ll++(d8 f (n - g.1) g.2).1,(d8 f (n - g.1) g.2).2)
theorem n4.init{α:Type}(f:RS->α×RS)(n:Nat)(s1:RS):n4 f n s1 (0,s1) []:=⟨Nat.zero_le _,λ_=>by simp,by simp⟩
theorem n4.next{α:Type}{f:RS->α×RS}(hf:Bj f){n:Nat}{s1:RS}{g:Nat×RS}{ll:List α}(h:n4 f n s1 g ll)(hi:g.1<n)(hs:g.2.2=false):n4 f n s1 (g.1+1,(f g.2).2) (ll++[(f g.2).1]):=by
 refine⟨hi,λhw=>?_,?_⟩
 ·have h1:=hf g.2 hw
  have h2:=h.2.1 hs
  simp only[List.length_append,List.length_singleton]
  omega
 ·rw[h.2.2,IR f hi hs];simp
theorem n4.iW{α:Type}{f:RS->α×RS}{n:Nat}{s1:RS}{g:Nat×RS}{ll:List α}(h:n4 f n s1 g ll)(hf:DG n g):d8 f n s1=(ll,g.2):=by
 rw[h.2.2,zf f (hf.2.imp (λe=>by omega) id)];simp
theorem Mg(s:RS)(n:Nat):(bq s n).2.1.length<=s.1.length:=DL s n
theorem DM{α:Type}{f:RS->α×RS}{n:Nat}{s:RS}(h:(d8 f n s).2.2=false):s.2=false:=by
 cases hs:s.2 with
 |false=>rfl
 |true=>rw[zf f (.inr hs)]at h;rw[hs]at h;cases h
theorem v7{α:Type}{f:RS->α×RS}(hf:∀s,(f s).2.1.length<=s.1.length):∀(n:Nat) (s:RS),(d8 f n s).2.1.length<=s.1.length
 |0,s=>Nat.le_refl _
 |n+1,s=>by
  unfold d8
  split
  ·exact Nat.le_refl _
  ·exact Nat.le_trans (v7 hf n _) (hf s)
theorem zg{α:Type}(f:RS->α×RS)(m:Int)(s:RS):(fz f m s).2=(d8 f (bW s m).1 (bW s m).2).2:=by
 unfold fz;split<;>rfl
theorem SE{α:Type}{f:RS->α×RS}(hf:∀s,(f s).2.1.length<=s.1.length)(m:Int)(s:RS):(fz f m s).2.1.length<=s.1.length:=by
 rw[zg];exact Nat.le_trans (v7 hf _ _) (sF s m)
end
namespace RX
-- eC/check.akv:ρ:=[.i sum,.a ba,.n bl,.n bc,.p bP]
def Mh:T:=
(.op (.unOp .xor 211 (.tmp 7)) 211 [(7,.w (.a (.int .u32 0)))] [] [.i] (.w (.a (.int .u32 5))) []
(.loop [.i,.i] [.z 5,.z (.i 0)]
(.br (.lt 7 (.of 2))
(.need (.le (.i 0) 7)
(.need (.is 1)
  (.ld 5 13 (.aW 1 7 1 0) [(1,4)] [.i] (.w (.a (.int .u8 8)))
(.need (.o1 (.inr .u32) 8)
(.loop [.i,.i] [.z (.o2 (.bit .xor .u32) 6 8),.z (.i 0)]
(.br (.lt 10 (.i 2))
(.read (.indexAddr 296 (.global 0) (.tmp 24)) 0 [(24,.w (.a (.int .u32 (.o2 (.bit .and .u32) 9 (.i 15)))))] [] [.v] (.val 11)
  (.ld 211 25 (.val 11) [] [.i] (.w (.a (.int .u32 12)))
  (.rg (.add 10 (.i 1))
(.again 0 [.z (.o2 (.bit .xor .u32) (.o2 (.shr .u32) 9 (.i 4)) 12),.z (.add 10 (.i 1))]))))
  (.rg (.add 7 (.i 1))
(.again 1 [.z 9,.z (.add 7 (.i 1))]))))))))
(.op (.unOp .xor 211 (.tmp 30)) 211 [(30,.w (.a (.int .u32 6)))] [] [.i] (.w (.a (.int .u32 8))) []
(.ret (.w (.a (.int .u32 8))) [(1,4)])))))
theorem IS:tree Tryz.prog {} Tryz.f186 [.a (.int .u32 0),.s 1] [(1,4)] 5=Mh:=by kernel_rfl
def SF:T:=
(.call 186 [.a (.int .u32 (.i 0)),.s 0] [(0,3)] [.i,.p] (.w (.a (.int .u32 4))) [(0,5)]
(.ret (.w (.a (.int .u32 4))) [(0,5)]))
theorem Ov:tree Tryz.prog {} Tryz.f130 [.s 0] [(0,3)] 4=SF:=by kernel_rfl
def Mi:T:=
(.new
(.call 130 [.s 0] [(0,3)] [.i,.p] (.w (.a (.int .u32 5))) [(0,6)]
(.need (.o1 (.inr .u64) 5)
(.call 129 [.ptr 4 0,.a (.int .u64 5),.k 4] [(.b 4,.cells [.z] 168)] [.a,.n,.n,.p] (.au []) [(.b 4,.cells [.s 7] 168),(7,10)]
(.call 92 [.ptr 4 0] [(.b 4,.cells [.s 7] 168),(7,10)] [.a,.n,.n,.p,.a,.n,.n,.p] (.s 11) [(11,14),(.b 4,.cells [.s 15] 168),(15,18)]
(.new
(.call 131 [.sl (.b 19 0) (.n 2) (.n 2)] [(.b 19,.cells [.s 0,.s 11] 42),(0,6),(11,14)] [.a,.n,.n,.p] (.s 20) [(20,23),(.b 19,.cells [.s 0,.s 11] 42),(0,6),(11,14)]
(.ret (.s 20) [(0,6),(20,23)]))))))))
theorem IT:tree Tryz.prog {aB:=[131]} Tryz.f91 [.s 0] [(0,3)] 4=Mi:=by kernel_rfl
def zh:T:=
(.rg (.sub (.of 1) (.i 4))
(.br (.lt (.sub (.of 1) (.i 4)) (.i 0))
(.ret (.au [.z,.k 3]) [(0,3)])
(.read (.slice 42 (.tmp 11) (some (.const (.int .i64 0))) (some (.tmp 12)) (some (.tmp 13))) 42 [(11,.s 0),(12,.w (.a (.int .i64 (.sub (.of 1) (.i 4))))),(13,.w (.a (.int .i64 (.sub (.of 1) (.i 4)))))] [(0,3)] [.a,.n,.n] (.s 4)
(.read (.slice 42 (.tmp 15) (some (.tmp 16)) none none) 42 [(15,.s 0),(16,.w (.a (.int .i64 (.sub (.of 1) (.i 4)))))] [(0,3)] [.a,.n,.n] (.s 7)
(.call 56 [.s 7] [(0,3)] [.n,.p,.p] (.ptr 10 0) [(.b 10,11),(0,12)]
(.call 95 [.ptr 10 0,.k 4] [(.b 10,11)] [.i,.p] (.w (.a (.int .u64 13))) [(.b 10,14)]
(.call 130 [.s 4] [(0,12)] [.i,.p] (.w (.a (.int .u32 15))) [(0,16)]
(.need (.o1 (.inr .u64) 15)
(.br (.not (.eq 13 15))
(.ret (.au [.z,.k 3]) [(0,16)])
(.call 55 [.s 4] [(0,16)] [.a,.n,.n,.p,.p] (.s 17) [(17,20),(0,21)]
(.ret (.au [.s 17,.k 0]) [(0,21),(17,20)])))))))))))
theorem Bk:tree Tryz.prog {} Tryz.f134 [.s 0] [(0,3)] 4=zh:=by kernel_rfl
def SG:T:=
(.call 129 [.ptr 0 0,.a (.int .u64 (.o1 (.wrap .u64) 2)),.k 8] [(.b 0,1)] [.p] (.au []) [(.b 0,3)]
(.ret (.au []) [(.b 0,3)]))
theorem Ow:tree Tryz.prog {} Tryz.f88 [.ptr 0 0,2] [(.b 0,1)] 3=SG:=by kernel_rfl
def zi:T:=
(.loop [.i,.i] [.z (.i 0),.z (.i 0)]
(.br (.lt 5 (.of 1))
(.need (.le (.i 0) 5)
(.need (.is 0)
  (.ld 42 13 (.aW 0 5 1 0) [(0,3)] [.a,.n,.n] (.s 6)
  (.rg (.add 4 (.of 7))
(.br (.lt (.add 4 (.of 7)) (.i 0))
(.op (.makeInterface 9 (.const (.string ⟨#[108,101,110,32,111,117,116,32,111,102,32,114,97,110,103,101]⟩))) 20 [] [] [.v,.p] (.val 9) [(9,10)]
(.op (.panic (.tmp 21)) 0 [(21,.val 9)] [(9,10)] [.p] (.au []) [(9,11)]
  (.rg (.add 5 (.i 1))
(.again 0 [.z (.add 4 (.of 7)),.z (.add 5 (.i 1))]))))
  (.rg (.add 5 (.i 1))
(.again 0 [.z (.add 4 (.of 7)),.z (.add 5 (.i 1))])))))))
(.call 187 [.z,4] [] [.a,.n,.n,.p] (.s 6) [(6,9)]
(.loop [.a,.n,.n,.i,.p] [.a 6,.e (.cQ 7 (.n 0)),.e (.cQ 8 (.n 0)),.z (.i 0),.p [(6,9)]]
(.br (.lt 13 (.of 1))
(.need (.le (.i 0) 13)
(.need (.is 0)
  (.ld 42 29 (.aW 0 13 1 0) [(0,3)] [.a,.n,.n] (.s 15)
(.op (.call ⟨.builtin .append,#[.tmp 31,.tmp 32],#[42,42]⟩) 42 [(31,.s 10),(32,.s 15)] [(10,14),(0,3)] [.a,.n,.n,.p] (.s 18) [(18,21),(0,3)]
  (.rg (.add 13 (.i 1))
(.again 0 [.a 18,.e (.cQ 19 (.n 0)),.e (.cQ 20 (.n 0)),.z (.add 13 (.i 1)),.p [(18,21)]]))))))
(.ret (.s 10) [(0,3),(10,14)]))))))
theorem Bl:tree Tryz.prog {hv:=[(2,[.a 6])]} Tryz.f131 [.s 0] [(0,3)] 4=zi:=by kernel_rfl
def Mj:T:=
(.br (.lt 4 (.i 0))
(.op (.makeInterface 9 (.const (.string ⟨#[99,97,110,110,111,116,32,98,101,32,110,101,103,97,116,105,118,101]⟩))) 20 [] [] [.v,.p] (.val 5) [(5,6)]
(.op (.panic (.tmp 7)) 0 [(7,.val 5)] [(5,6)] [.p] (.au []) [(5,7)]
 (.rg (.sub (.of 2) (.of 1))
 (.rg (.sub 4 (.sub (.of 2) (.of 1)))
(.br (.lt (.i 0) (.sub 4 (.sub (.of 2) (.of 1))))
(.read (.slice 42 (.tmp 17) none (some (.tmp 19)) none) 42 [(17,.s 0),(19,.w (.a (.int .i64 (.of 2))))] [(0,3)] [.a,.n,.n] (.s 8)
(.op (.call ⟨.builtin .append,#[.tmp 20,.tmp 21],#[42,3]⟩) 42 [(20,.s 8),(21,.w (.a (.int .i64 (.sub 4 (.sub (.of 2) (.of 1))))))] [(0,3)] [.a,.n,.n,.p,.p] (.s 11) [(11,14),(0,15)]
(.read (.slice 42 (.tmp 22) none (some (.tmp 24)) none) 42 [(22,.s 11),(24,.w (.a (.int .i64 (.of 1))))] [(11,14)] [.a,.n,.n] (.s 16)
(.ret (.s 16) [(0,15),(11,14)]))))
(.ret (.s 0) [(0,3)]))))))
 (.rg (.sub (.of 2) (.of 1))
 (.rg (.sub 4 (.sub (.of 2) (.of 1)))
(.br (.lt (.i 0) (.sub 4 (.sub (.of 2) (.of 1))))
(.read (.slice 42 (.tmp 17) none (some (.tmp 19)) none) 42 [(17,.s 0),(19,.w (.a (.int .i64 (.of 2))))] [(0,3)] [.a,.n,.n] (.s 5)
(.op (.call ⟨.builtin .append,#[.tmp 20,.tmp 21],#[42,3]⟩) 42 [(20,.s 5),(21,.w (.a (.int .i64 (.sub 4 (.sub (.of 2) (.of 1))))))] [(0,3)] [.a,.n,.n,.p,.p] (.s 8) [(8,11),(0,12)]
(.read (.slice 42 (.tmp 22) none (some (.tmp 24)) none) 42 [(22,.s 8),(24,.w (.a (.int .i64 (.of 1))))] [(8,11)] [.a,.n,.n] (.s 13)
(.ret (.s 13) [(0,12),(8,11)]))))
(.ret (.s 0) [(0,3)])))))
theorem IU:tree Tryz.prog {bz:=true} Tryz.f187 [.s 0,4] [(0,3)] 5=Mj:=by kernel_rfl
end RX
section
open RX
def nib(s:Nat):Nat:=(s / 16) ^^^ (nk[s%16]?.getD 0)
def acS:Nat->Nat->Nat|0,y=>y|k+1,y=>acS k (nib y)
def Wq(s:Nat)(b:UInt8):Nat:=nib (nib (s ^^^ b.toNat))
def DN(s:Nat)(l:List UInt8):Nat:=l.foldl Wq s
def SH(s:Nat)(l:List UInt8):Nat:=4294967295 ^^^ DN (4294967295 ^^^ s) l
def n5(l:List UInt8):Nat:=SH 0 l
theorem v8{a b:Nat}(ha:a<4294967296)(hb:b<4294967296):a ^^^ b<4294967296:=Nat.xor_lt_two_pow (n:=32) ha hb
theorem DO(k:Nat):nk[k]?.getD 0<4294967296:=by
 by_cases h:k<16
 ·have:∀k<16,nk[k]?.getD 0<4294967296:=by decide
  exact this k h
 ·rw[List.getElem?_eq_none (by show 16<=k;omega)];decide
theorem IV{s:Nat}(h:s<4294967296):nib s<4294967296:=v8 (by omega) (DO _)
theorem Wr{s:Nat}(h:s<4294967296)(b:UInt8):Wq s b<4294967296:=IV (IV (v8 h (by have:=b.toNat_lt;omega)))
theorem Mk{s:Nat}(h:s<4294967296):∀l:List UInt8,DN s l<4294967296:=λl=>by
 induction l generalizing s with
 |nil=>exact h
 |cons b l ih=>exact ih (Wr h b)
theorem SI{s:Nat}(h:s<4294967296)(l:List UInt8):SH s l<4294967296:=v8 (by decide) (Mk (v8 (by decide) h) l)
theorem Ox(s:Nat)(l:List UInt8)(b:UInt8):DN s (l++[b])=Wq (DN s l) b:=by simp[DN]
theorem SJ{x:Nat}(h:x<4294967296):IntKind.u32.wrap (x:Int)=x:=gu ⟨by simp[IntKind.min,IntKind.signed],by simp[IntKind.max,IntKind.signed,IntKind.bits];omega⟩
theorem IW{a b:Nat}(ha:a<4294967296)(hb:b<4294967296):bits .xor .u32 (a:Int) (b:Int)=((a ^^^ b:Nat):Int):=by
 have e:bits .xor .u32 (a:Int) (b:Int)=IntKind.u32.wrap ((BitVec.ofInt 32 (a:Int) ^^^ BitVec.ofInt 32 (b:Int)).toNat:Int):=rfl
 rw[e,BitVec.ofInt_natCast,BitVec.ofInt_natCast,BitVec.toNat_xor,BitVec.toNat_ofNat,BitVec.toNat_ofNat,Nat.mod_eq_of_lt ha,Nat.mod_eq_of_lt hb]
 exact SJ (v8 ha hb)
theorem ZZ{a:Nat}(ha:a<4294967296):bits .and .u32 (a:Int) 15=((a%16:Nat):Int):=by
 have e:bits .and .u32 (a:Int) ((15:Nat):Int)=IntKind.u32.wrap ((BitVec.ofInt 32 (a:Int) &&& BitVec.ofInt 32 ((15:Nat):Int)).toNat:Int):=rfl
 have e2:(((15:Nat):Int))=15:=rfl
 rw[<-e2,e,BitVec.ofInt_natCast,BitVec.ofInt_natCast,BitVec.toNat_and,BitVec.toNat_ofNat,BitVec.toNat_ofNat,Nat.mod_eq_of_lt ha,Nat.mod_eq_of_lt (by decide),show(15:Nat)=2^4 - 1 by decide,Nat.and_two_pow_sub_one_eq_mod]
 exact SJ (by omega)
theorem acT(a:Nat):((a:Int).fdiv (2^(min (4:Int).toNat IntKind.u32.bits)))=((a / 16:Nat):Int):=by
 rw[show min (4:Int).toNat IntKind.u32.bits=4 by decide,Int.fdiv_eq_ediv_of_nonneg _ (by decide)]
 simp
def acU(x:Nat):Value:=.int .u32 x
theorem SK(A:HP):Rd A (some ⟨0,0,none⟩) (nk.map acU):=λw R h F s _ j u hj=>by
 obtain⟨cur,ty,fr,e,hc⟩:=s.gl
 refine⟨_,0,rfl,?_⟩
 rw[mJ (s.oR _ _ e),Nat.zero_add]
 rw[List.getElem?_map]at hj
 cases hf:nk[j]? with
 |none=>rw[hf]at hj;cases hj
 |some x=>rw[hf]at hj;cases hj;exact hc j x hf
theorem SL{s:Nat}(hs:s<4294967296){i:Nat}{t ty:TypeId}(A:HP):
 aI Tryz.prog (bI (.unOp .xor t (.tmp i)) ty [(i,.int .u32 (s:Int))]) A (λv=>HP.and (v=.int .u32 ((4294967295 ^^^ s:Nat):Int)) A):=λw R h F st H=>by
 refine⟨.value (.int .u32 ((4294967295 ^^^ s:Nat):Int)),_,w,?_,rfl,Same.refl w,R,h,PH.le.refl _,st,rfl,H⟩
 have e:bits .xor .u32 ((4294967295:Nat):Int) (s:Int)=((4294967295 ^^^ s:Nat):Int):=IW (by decide) hs
 have e2:(if IntKind.u32.signed=true then -1 else IntKind.u32.max)=((4294967295:Nat):Int):=by decide
 simp only[bI,execOp,jR,List.find?_cons,beq_self_eq_true,Option.map_some,Option.getD_some,unary_xor,e2,intBits_xor,e]
 rfl
theorem acV:Tryz.prog.underlying 296=some (.array 16 211):=by kernel_rfl
theorem acW:(Tryz.prog.info? 211).isSome=true:=by kernel_rfl
theorem acX:gr Tryz.prog 211=1:=by kernel_rfl
theorem YC:Tryz.prog.underlying 211=some (.int .u32):=by kernel_rfl
theorem acY:gF Tryz.prog 211=false:=by kernel_rfl
theorem SM{A:HP}{t:Nat}{ty:TypeId}{k:Nat}(hk:k<16):
 aH Tryz.prog (bI (.indexAddr 296 (.global 0) (.tmp t)) ty [(t,.int .u32 (k:Int))]) A (.pointer (some ⟨0,k,none⟩)):=λw R h F s _=>by
 obtain⟨i,hi⟩:=Option.isSome_iff_exists.1 acW
 simp only[bI,execOp,jR,List.find?_cons,beq_self_eq_true,Option.map_some,Option.getD_some]
 rw[Sem.run_bind,RX.run_indexAt_array acV hi (by omega) (by omega),acX]
 simp[addr_add]
theorem SN{A:HP}{k:Nat}(hk:k<16):aH Tryz.prog (bG 211 (.pointer (some ⟨0,k,none⟩))) A (.int .u32 ((nk[k]?.getD 0:Nat):Int)):=by
 have hx:(nk.map acU)[k]? =some (.int .u32 ((nk[k]?.getD 0:Nat):Int)):=by
  rw[List.getElem?_map]
  cases h:nk[k]? with
  |none=>rw[List.getElem?_eq_none_iff]at h;exact absurd h (by show ¬16<=k;omega)
  |some x=>rfl
 have:=b7 YC acY acX (SK A) (k:=k) (off:=0) (by simpa using hx)
 simpa[addr_add]using this
theorem Ws(s:Nat)(hs:s<4294967296)(a:Option Addr)(n c:Nat)(l:List UInt8)(S:HP)(hr:bR S a n (l.map fH))(hl:l.length=n)(ha:n≠0->a.isSome=true)(hb:n<=140737488355328):
 ax Tryz.prog 186 #[.int .u32 s,.slice a n c] S (λv=>HP.and (v=.int .u32 ((SH s l:Nat):Int)) S):=by
 refine ah (ρ:=[.i s,.a a,.n n,.n c,.p S]) mixed Tryz.func186 IS ?_
 unfold Mh
 refine cg ?_
 refine(SL hs _).ak (λ_ _ h=>h) ?_
 rintro v R h ⟨rfl,H⟩
 refine⟨_,rfl,?_,H⟩
 have h0:4294967295 ^^^ s<4294967296:=v8 (by decide) hs
 refine⟨λx k=>∃j:Nat,k=j/\j<=n/\x=((DN (4294967295 ^^^ s) (l.take j):Nat):Int),λ_ k=>n - k.toNat,⟨0,rfl,Nat.zero_le _,rfl⟩,?_⟩
 rintro x k ⟨j,rfl,hj,rfl⟩
 have hc:=Mk h0 (l.take j)
 refine⟨λhlt=>?_,λlN=>?_⟩
 ·have qX:j<l.length:=by omega
  refine⟨by omega,λ_=>⟨ha (by omega),λ_=>⟨(l[j].toNat:Int),?_,?_⟩⟩⟩
  ·exact b7 SC acQ sz8 hr.rd (k:=(j:Int).toNat*1) (off:=0) (v:=fH l[j]) (by simp[List.getElem?_eq_getElem qX])
  ·have hb8:=l[j].toNat_lt
   refine⟨⟨by simp[IntKind.min,IntKind.signed],by simp[IntKind.max,IntKind.signed,IntKind.bits];omega⟩,λ_=>?_⟩
   rw[IW hc (by omega)]
   have hx0:DN (4294967295 ^^^ s) (l.take j) ^^^ l[j].toNat<4294967296:=v8 hc (by omega)
   refine⟨λx k=>∃i:Nat,k=i/\i<=2/\∃y:Nat,x=(y:Int)/\y<4294967296/\acS (2 - i) y=Wq (DN (4294967295 ^^^ s) (l.take j)) l[j],λ_ k=>2 - k.toNat,⟨0,rfl,by omega,_,rfl,hx0,rfl⟩,?_⟩
   rintro x k ⟨i,rfl,hi,y,rfl,hy,hn⟩
   refine⟨λh2=>?_,λh2=>?_⟩
   ·have hk:y%16<16:=by omega
    refine⟨.pointer (some ⟨0,y%16,none⟩),?_,((nk[y%16]?.getD 0:Nat):Int),?_,aK _ (by omega) (by omega),λ_=>?_⟩
    ·rw[ZZ hy];exact SM hk
    ·exact SN hk
    ·rw[acT,IW (by omega) (DO _)]
     refine⟨⟨i+1,by omega,by omega,_,rfl,IV hy,?_⟩,by dsimp only;omega⟩
     rw[<-hn,show 2 - i=(2 - (i+1))+1 by omega];rfl
   ·obtain rfl:i=2:=by omega
    refine⟨aK _ (by omega) (by omega),λ_=>⟨⟨j+1,by omega,by omega,?_⟩,by dsimp only;omega⟩⟩
    rw[List.take_succ_eq_append_getElem qX,Ox,<-hn];rfl
 ·obtain rfl:j=l.length:=by omega
  rw[List.take_length]at hc⊢
  refine(SL hc _).ak (λ_ _ h=>h) ?_
  rintro v R h ⟨rfl,H⟩
  exact⟨_,rfl,.of λR h H=>⟨rfl,H⟩,H⟩
theorem wd(a:Option Addr)(n c:Nat)(l:List UInt8)(S:HP)(hr:bR S a n (l.map fH))(hl:l.length=n)(ha:n≠0->a.isSome=true)(hb:n<=140737488355328):
 ax Tryz.prog 130 #[.slice a n c] S (λv=>HP.and (v=.int .u32 ((n5 l:Nat):Int)) S):=by
 refine ah (ρ:=[.a a,.n n,.n c,.p S]) mixed Tryz.func130 Ov ?_
 unfold SF
 refine cg ?_
 refine(Ws 0 (by decide) a n c l S hr hl ha hb).ak (λ_ _ h=>h) ?_
 rintro v R h ⟨rfl,H⟩
 exact⟨_,S,rfl,.of λR h H=>⟨rfl,H⟩,H⟩
def Wt(ts:Array TypeId)(ty:TypeId)(u v:Value):Sem Next:=do pure (.value (<-Builtin.append_ ts ty #[u,v]))
theorem SO{ts:Array TypeId}{ty:TypeId}{i j:Nat}{u v:Value}(h:i≠j):bI (.call ⟨.builtin .append,#[.tmp i,.tmp j],ts⟩) ty [(i,u),(j,v)]=Wt ts ty u v:=by
 have h':(i==j)=false:=by simpa using h
 simp[bI,execOp,resolve,jR,invoke,builtin,h',Wt]
theorem Bm:Tryz.prog.info? 5=some (Tryz.prog.info? 5).get!:=by kernel_rfl
theorem Wu:Tryz.prog.underlying 3=some (.int .i64):=by kernel_rfl
theorem Z0(z:Value)(n:Nat):(Builtin.zeroCells #[z] n).toList.length=n:=by simp[Builtin.zeroCells]
theorem Ml(z:Value)(n:Nat):(Builtin.zeroCells #[z] n).size=n:=by simp[Builtin.zeroCells]
theorem Z1(z:Value)(n:Nat):(Builtin.zeroCells #[z] n).toList=List.replicate n z:=by
 refine List.ext_getElem (by simp[Builtin.zeroCells]) λi h1 h2=>?_
 simp[Builtin.zeroCells,Nat.mod_one]
theorem Z2{ty:TypeId}(m:Nat)(h0:0<m)(hb:m<=140737488355328)(A:HP):
 aI Tryz.prog (Wt #[42,3] ty (.slice none 0 0) (.int .i64 (m:Int))) A
  (λv=>HP.ex λx=>HP.ex λc=>HP.and (v=.slice (some ⟨x,0,none⟩) m c) (HP.an (du (some ⟨x,0,none⟩) m c (List.replicate m 0)) A)):=λw R h F s a=>by
 obtain⟨i,hi,h1,h2,h3⟩:=info_parts L6
 have hr:=Lib.run_append_nil_zeros (P:=Tryz.prog) w 42 3 ty 5 i (.int .u8 0) .i64 .i64 lY Wu hi h1 m h0 (by omega) (by omega) (by rw[h3];omega)
 have s0:Sat w.drew R h F:=s.drew _
 obtain⟨s1,d1⟩:=s0.alloc (.cells (Builtin.zeroCells (Value.int .u8 0).cells m++Builtin.zeroCells (Value.int .u8 0).cells (grownCap w m 0 5 - m)) 5 (0,0))
 have Oy:=grownCap_ge w m 0 5
 have vT:Same w (w.drew.alloc (.cells (Builtin.zeroCells (Value.int .u8 0).cells m++Builtin.zeroCells (Value.int .u8 0).cells (grownCap w m 0 5 - m)) 5 (0,0))):=Same.trans (b:=w.drew) ⟨rfl,rfl,rfl,Nat.le_refl _⟩ (Same.alloc w.drew _)
 refine⟨_,_,_,by unfold Wt;rw[Sem.run_bind,hr];rfl,rfl,vT,R,_,PH.le.refl _,s1,w.heap.size,_,rfl,_,_,d1,PH.cC _ _,PH.ck d1,⟨by simp,.inr ⟨_,_,rfl,PH.cW _ _,Oy,grownCap_le_maxLen _ _ _ _ (by unfold maxLen;omega),?_,?_⟩⟩,a⟩
 ·rw[show(Value.int .u8 0).cells= #[.int .u8 0]from rfl,Array.size_append,Ml,Ml];omega
 ·rw[show(Value.int .u8 0).cells= #[.int .u8 0]from rfl,Array.toList_append,Nat.mul_one,List.take_left' (Z0 _ _),Z1,List.map_replicate];rfl
theorem SP(m:Nat)(hb:m<=140737488355328):
 ax Tryz.prog 187 #[.slice none 0 0,.int .i64 (m:Int)] HP.tt (λv=>HP.ex λa=>HP.ex λc=>HP.and (v=.slice a 0 c) (du a 0 c [])):=by
 refine ah (ρ:=[.a none,.n 0,.n 0,.p HP.tt,.i m]) mixed Tryz.func187 IU ?_
 unfold Mj
 refine cg ?_
 refine⟨λh=>absurd h (by omega),λ_=>⟨aK _ (by omega) (by omega),λ_=>⟨aK _ (by omega) (by omega),λ_=>⟨λhm=>?_,λhm=>?_⟩⟩⟩⟩
 ·refine⟨none,0,0,?_,?_⟩
  ·rw[eH];exact dC lY Bm HP.tt none 0 0 none (some 0) none (Nat.le_refl _) (Nat.le_refl _) (Nat.le_refl _) (λh=>by cases h)
  ·rw[SO (by decide),show((m:Int) - ((0:Nat) - (0:Nat):Int))=(m:Int) by omega]
   refine(Z2 m (by omega) hb HP.tt).ak (λ_ _ h=>h) ?_
   rintro v R h ⟨x,c,rfl,H⟩
   have hle:=cp.le (HP.aj H)
   refine⟨some ⟨x,0,none⟩,m,c,du (some ⟨x,0,none⟩) m c (List.replicate m 0),HP.tt,rfl,⟨some ⟨x,0,none⟩,0,c,?_,?_⟩,H⟩
   ·rw[eH]
    have h2:aH Tryz.prog (je 42 (.slice (some ⟨x,0,none⟩) m c) (iv none) (iv (some 0)) (iv none)) (du (some ⟨x,0,none⟩) m c (List.replicate m 0)) (.slice (some ⟨x,0,none⟩) 0 c):=by
     simpa[addr_add]using dC lY Bm (du (some ⟨x,0,none⟩) m c (List.replicate m 0)) (some ⟨x,0,none⟩) m c none (some 0) none (Nat.le_refl _) (Nat.zero_le _) (Nat.le_refl _) (λh=>by cases h)
    exact h2
   ·refine .of λR h H=>⟨some ⟨x,0,none⟩,c,rfl,?_⟩
    obtain⟨hl,h'⟩:=HP.ai H
    rcases h' with⟨e,_⟩|⟨g,cur,e,hg,q1,q2,q3,q4⟩
    ·cases e
    ·exact⟨by simp,.inr ⟨g,cur,e,hg,Nat.zero_le _,q2,q3,by simp⟩⟩
 ·exact .of λR h H=>⟨none,0,rfl,cp.nil _ _ R h⟩
theorem bR.left{A B:HP}{a:Option Addr}{n:Nat}{xs:List Value}(r:bR A a n xs):bR (HP.an A B) a n xs:=⟨r.rd.left,λR h H e=>r.none R h (HP.aj H) e⟩
theorem bR.right{A B:HP}{a:Option Addr}{n:Nat}{xs:List Value}(r:bR B a n xs):bR (HP.an A B) a n xs:=⟨r.rd.right,λR h H e=>r.none R h (HP.ai H) e⟩
theorem DP:gF Tryz.prog 42=false:=by kernel_rfl
theorem SQ:gr Tryz.prog 42=1:=by kernel_rfl
theorem IX(b:Nat)(a1 a2:Option Addr)(n1 c1 n2 c2:Nat)(l1 l2:List UInt8)(P1 P2:HP)(r1:bR P1 a1 n1 (l1.map fH))(r2:bR P2 a2 n2 (l2.map fH))(h1:l1.length=n1)(h2:l2.length=n2)
 (s1:n1≠0->a1.isSome=true) (s2:n2≠0->a2.isSome=true) (hb:n1+n2<=140737488355328):
 ax Tryz.prog 131 #[.slice (some ⟨b,0,none⟩) 2 2] (HP.an (HP.one b (.cells #[.slice a1 n1 c1,.slice a2 n2 c2] 42 (0,0))) (HP.an P1 P2))
  (λv=>HP.ex λa=>HP.ex λc=>HP.and (v=.slice a (n1+n2) c) (HP.an (du a (n1+n2) c (l1++l2)) (HP.an (HP.one b (.cells #[.slice a1 n1 c1,.slice a2 n2 c2] 42 (0,0))) (HP.an P1 P2)))):=by
 generalize hS:HP.an (HP.one b (.cells #[.slice a1 n1 c1,.slice a2 n2 c2] 42 (0,0))) (HP.an P1 P2)=S
 have uW:Rd S (some ⟨b,0,none⟩) [.slice a1 n1 c1,.slice a2 n2 c2]:=by
  subst hS;exact Rd.left (dW b #[.slice a1 n1 c1,.slice a2 n2 c2] _)
 have hr1:bR S a1 n1 (l1.map fH):=by subst hS;exact(r1.left).right
 have tL:bR S a2 n2 (l2.map fH):=by subst hS;exact(r2.right).right
 refine ah (ρ:=[.a (some ⟨b,0,none⟩),.n 2,.n 2,.p S]) mixed Tryz.func131 Bl ?_
 unfold zi
 refine cg ?_
 refine⟨λx k=>(k=0/\x=0)\/(k=1/\x=n1)\/(k=2/\x=n1+n2),λ_ k=>2 - k.toNat,.inl ⟨rfl,rfl⟩,?_⟩
 intro x k Z3
 have YD:aH Tryz.prog (bG 42 (.pointer (some ⟨b,0,none⟩))) S (.slice a1 n1 c1):=by
  have:=b7 lY DP SQ uW (k:=0) (off:=0) (v:=.slice a1 n1 c1) rfl
  simpa[addr_add]using this
 have ld2:aH Tryz.prog (bG 42 (.pointer (some ⟨b,1,none⟩))) S (.slice a2 n2 c2):=by
  have:=b7 lY DP SQ uW (k:=1) (off:=0) (v:=.slice a2 n2 c2) rfl
  simpa[addr_add]using this
 refine⟨λhlt=>⟨by omega,λ_=>⟨rfl,λ_=>?_⟩⟩,λlN=>?_⟩
 ·rcases Z3 with⟨rfl,rfl⟩|⟨rfl,rfl⟩|⟨rfl,rfl⟩
  ·refine⟨a1,n1,c1,by simpa[addr_add]using YD,aK _ (by omega) (by omega),λ_=>⟨λh=>absurd h (by omega),λ_=>⟨aK _ (by omega) (by omega),λ_=>⟨.inr (.inl ⟨rfl,by omega⟩),by dsimp only;omega⟩⟩⟩⟩
  ·refine⟨a2,n2,c2,by simpa[addr_add]using ld2,aK _ (by omega) (by omega),λ_=>⟨λh=>absurd h (by omega),λ_=>⟨aK _ (by omega) (by omega),λ_=>⟨.inr (.inr ⟨rfl,by omega⟩),by dsimp only;omega⟩⟩⟩⟩
  ·omega
 ·obtain rfl:x=((n1+n2:Nat):Int):=by omega
  refine(SP (n1+n2) hb).ak (λ_ _ h=>h) ?_
  rintro v R h ⟨a,c,rfl,H⟩
  refine⟨a,0,c,du a 0 c [],rfl,?_,H⟩
  refine⟨λa n c k p=>∃ll:List UInt8,n=ll.length/\HP.aV p (du a ll.length c ll)/\((k=0/\ll=[])\/(k=1/\ll=l1)\/(k=2/\ll=l1++l2)),λ_ _ _ k _=>2 - k.toNat,⟨[],rfl,HP.aV.refl _,.inl ⟨rfl,rfl⟩⟩,?_⟩
  rintro a n c k p ⟨ll,rfl,hp,hk⟩
  refine⟨λhlt=>⟨by omega,λ_=>⟨rfl,λ_=>?_⟩⟩,λlN=>?_⟩
  ·rcases hk with⟨rfl,rfl⟩|⟨rfl,rfl⟩|⟨rfl,rfl⟩
   ·refine⟨a1,n1,c1,by simpa[addr_add]using YD,?_⟩
    refine(kS a 0 c [] S a1 n1 c1 l1 hr1 h1 s1 (by omega)).be ((HP.aV.an hp S).trans (.of λ_ _=>HP.az)) λv=>.of λR h H=>?_
    obtain⟨a',c',rfl,H'⟩:=HP.aj H
    refine⟨a',_,c',du a' (0+n1) c' ([]++l1),rfl,⟨aK _ (by omega) (by omega),λ_=>⟨⟨l1,by omega,?_,.inr (.inl ⟨rfl,rfl⟩)⟩,by dsimp only;omega⟩⟩,H'⟩
    rw[Nat.zero_add,List.nil_append,h1];exact HP.aV.refl _
   ·refine⟨a2,n2,c2,by simpa[addr_add]using ld2,?_⟩
    refine(kS a ll.length c ll S a2 n2 c2 l2 tL h2 s2 (by omega)).be ((HP.aV.an hp S).trans (.of λ_ _=>HP.az)) λv=>.of λR h H=>?_
    obtain⟨a',c',rfl,H'⟩:=HP.aj H
    refine⟨a',_,c',du a' (ll.length+n2) c' (ll++l2),rfl,⟨aK _ (by omega) (by omega),λ_=>⟨⟨ll++l2,by simp;omega,?_,.inr (.inr ⟨rfl,rfl⟩)⟩,by dsimp only;omega⟩⟩,H'⟩
    rw[List.length_append,h2];exact HP.aV.refl _
   ·omega
  ·obtain⟨rfl,rfl⟩:k=2/\ll=l1++l2:=by
    rcases hk with⟨rfl,_⟩|⟨rfl,_⟩|⟨rfl,e⟩
    ·omega
    ·omega
    ·exact⟨rfl,e⟩
   have e:(l1++l2).length=n1+n2:=by rw[List.length_append,h1,h2]
   refine(HP.aV.gZ (HP.aV.refl S) hp).trans (.of λR h H=>⟨a,c,by rw[e],?_⟩)
   rw[e]at H
   exact HP.ao H
def nr(l:List UInt8):List UInt8:=l++gw (n5 l) 4
def cm(l:List UInt8):Option (List UInt8):=if l.length<4 then none else if Sw (l.drop (l.length - 4))=n5 (l.take (l.length - 4))then some (l.take (l.length - 4))else none
theorem me(l:List UInt8):(nr l).length=l.length+4:=by simp[nr,bZ]
theorem Mm(l:List UInt8):n5 l<4294967296:=SI (by decide) l
theorem Bn(a:Option Addr)(n c:Nat)(l:List UInt8)(S:HP)(hr:bR S a n (l.map fH))(hl:l.length=n)(ha:n≠0->a.isSome=true)(hb:n<=140737488355000):
 ax Tryz.prog 91 #[.slice a n c] S (λv=>HP.ex λa'=>HP.ex λc'=>HP.and (v=.slice a' (nr l).length c') (HP.an S (du a' (nr l).length c' (nr l)))):=by
 refine ah (ρ:=[.a a,.n n,.n c,.p S]) mixed Tryz.func91 IT ?_
 unfold Mi
 refine cg ?_
 intro x
 refine(wd a n c l S hr hl ha (by omega)).ak (λ_ _ h=>h) ?_
 rintro v R h ⟨rfl,H⟩
 have hlt:=Mm l
 refine⟨_,S,rfl,⟨SB _ (by omega) (by omega),λ_=>?_⟩,H⟩
 refine(gb x [] (n5 l) 4 (by omega) (by simp)).ak (λR h H=>⟨none,0,HP.ao (HP.ae (HP.aM H) (λy _=>cp.nil _ _ R y) λ_ h=>h)⟩) ?_
 rintro v R h ⟨rfl,xa,xc,H⟩
 refine⟨xa,_,xc,_,rfl,?_,H⟩
 refine(iF x ([]++gw (n5 l) 4) (by simp[bZ])).ak (λR h H=>⟨xa,xc,H⟩) ?_
 rintro v R h ⟨a',c',rfl,H⟩
 obtain⟨h1,h2,d,q1,q2,⟨ya,yc,HW⟩,HO⟩:=H
 have e4:([]++gw (n5 l) 4).length=4:=by simp[bZ]
 have Oc:a'.isSome=true:=cp.some HO (by omega)
 refine⟨a',_,c',du a' _ c' _,ya,_,yc,du ya _ yc _,rfl,λy=>?_,h2,h1,d.symm,q2,q1,HO,HW⟩
 refine(IX y a a' n c _ c' l ([]++gw (n5 l) 4) S (du a' _ c' _) hr (bR.ow _ _ _ _ _ _) hl rfl ha (λ_=>Oc) (by omega)).ak (λ_ _ h=>h) ?_
 rintro v R h ⟨b',d',rfl,H⟩
 refine⟨b',_,d',du b' _ d' _,rfl,.of λR h H=>⟨b',d',?_,?_⟩,H⟩
 ·rw[me,e4,hl]
 ·rw[me,hl];rw[e4]at H;exact H
theorem bR.acZ{S:HP}{a:Option Addr}{n:Nat}{xs:List Value}(r:bR S a n xs)(o k:Nat)(hk:o+k<=n)(z:Prop)[Decidable z](hz:z->k=0):bR S (if z then a else a.map λx=>x.add o) k ((xs.drop o).take k) where
 rd w R h F s H j u hj:=by
  rw[List.getElem?_take]at hj
  split at hj
  ·rename_i hjk
   rw[List.getElem?_drop]at hj
   obtain⟨g,off,rfl,hc⟩:=r.rd w R h F s H (o+j) u hj
   rw[if_neg (λh=>by have:=hz h;omega)]
   refine⟨g,off+o,by rw[Option.map_some,RX.addr_add],?_⟩
   rw[Nat.add_assoc];exact hc
  ·cases hj
 none R h H e:=by
  split at e
  ·exact hz ‹_›
  ·have:=r.none R h H (by simpa using e);omega
theorem sG(a:Option Addr)(n c:Nat)(l:List UInt8)(S:HP)(hr:bR S a n (l.map fH))(hl:l.length=n)(hc:n<=c)(ha:n≠0->a.isSome=true)(hb:n<=140737488355000):
 ax Tryz.prog 134 #[.slice a n c] S (λv=>HP.ex λa'=>HP.ex λc'=>HP.and (v=.tuple #[.slice a' ((cm l).getD []).length c',.int .i64 (if(cm l).isSome then 0 else 3)])
  (HP.an S (du a' ((cm l).getD []).length c' ((cm l).getD [])))):=by
 refine ah (ρ:=[.a a,.n n,.n c,.p S]) mixed Tryz.func134 Bk ?_
 unfold zh
 refine cg ?_
 subst hl
 have bad:∀R h,cm l=none->S.p R h->(HP.ex λa'=>HP.ex λc'=>HP.and (Value.tuple #[.slice none 0 0,.int .i64 3]=.tuple #[.slice a' ((cm l).getD []).length c',.int .i64 (if(cm l).isSome then 0 else 3)])
  (HP.an S (du a' ((cm l).getD []).length c' ((cm l).getD [])))).p R h:=λR h e H=>by
  rw[e];exact⟨none,0,rfl,HP.ao (HP.ae (HP.aM H) (λy _=>cp.nil _ _ R y) λ_ h=>h)⟩
 refine⟨aK _ (by omega) (by omega),λ_=>⟨λh4=>?_,λh4=>?_⟩⟩
 ·exact .of λR h H=>bad R h (by unfold cm;rw[if_pos (by omega)]) H
 ·obtain⟨m,hm⟩:∃m,l.length=m+4:=⟨l.length - 4,by omega⟩
  have em:((l.length:Int) - 4)=(m:Nat):=by omega
  rw[em]
  have r1:bR S (if m=0 then a else a.map λx=>x.add (0*gr Tryz.prog 5)) m ((l.take m).map fH):=by
   have:=hr.acZ 0 m (by omega) (m=0) (λh=>h)
   rw[Nat.zero_mul,List.map_take];simpa using this
  have r2:bR S (if c=m then a else a.map λx=>x.add (m*gr Tryz.prog 5)) 4 ((l.drop m).map fH):=by
   have:=hr.acZ m 4 (by omega) (c=m) (λh=>by omega)
   rw[sz8,Nat.mul_one,List.map_drop]
   rwa [List.take_of_length_le (by simp;omega)]at this
  have hA1:m≠0->(if m=0 then a else a.map λx=>x.add (0*gr Tryz.prog 5)).isSome=true:=λh=>by
   rw[if_neg h,Option.isSome_map];exact ha (by omega)
  have lt1:(l.take m).length=m:=by rw[List.length_take];omega
  have lt2:(l.drop m).length=4:=by rw[List.length_drop];omega
  refine⟨(if m=0 then a else a.map λx=>x.add (0*gr Tryz.prog 5)),m,m,by rw[eH];exact dC lY Bm S a l.length c (some 0) (some m) (some m) (Nat.zero_le _) (Nat.le_refl _) (by show m<=c;omega) (λ_=>rfl),(if c=m then a else a.map λx=>x.add (m*gr Tryz.prog 5)),4,c - m,?_,?_⟩
  ·rw[eH]
   have:=dC lY Bm S a l.length c (some m) none none (by show m<=l.length;omega) (by show l.length<=c;omega) (Nat.le_refl _) (λh=>by cases h)
   have e4:l.length - m=4:=by omega
   simp only[Option.getD_some,Option.getD_none,e4]at this
   exact this
  refine(nZ _ 4 (c - m) (l.drop m) S r2 lt2 (by omega)).ak (λ_ _ h=>h) ?_
  rintro v R h ⟨b,rfl,H⟩
  refine⟨b,_,S,rfl,?_,HP.ao H⟩
  refine(gi b (l.drop m,false) 4 (by omega)).ak (λ_ _ h=>h) ?_
  rintro v R h ⟨rfl,H⟩
  refine⟨_,_,rfl,?_,H⟩
  refine(wd _ m m (l.take m) S r1 lt1 hA1 (by omega)).ak (λ_ _ h=>h) ?_
  rintro v R h ⟨rfl,H⟩
  have hlt:=Mm (l.take m)
  have hn:(bq (l.drop m,false) 4).1=Sw (l.drop m):=by
   unfold bq fg
   rw[if_neg (by simp),if_neg (by rw[lt2];omega),List.take_of_length_le (by rw[lt2];omega)]
  rw[hn]
  have hu:cm l=if Sw (l.drop m)=n5 (l.take m)then some (l.take m)else none:=by
   unfold cm
   rw[if_neg (by omega),show l.length - 4=m by omega]
  refine⟨_,S,rfl,⟨SB _ (by omega) (by omega),λ_=>⟨λhne=>?_,λhe=>?_⟩⟩,H⟩
  ·exact .of λR h H=>bad R h (by rw[hu,if_neg (by omega)]) H
  ·rw[if_pos (by omega)]at hu
   refine(j5 S _ m m (l.take m) r1 lt1 (by omega)).ak (λ_ _ h=>h) ?_
   rintro v R h ⟨a',c',rfl,H⟩
   refine⟨a',m,c',du a' m c' (l.take m),S,rfl,.of λR h H=>?_,H⟩
   rw[hu]
   refine⟨a',c',?_,?_⟩
   ·simp only[Option.getD_some,Option.isSome_some,if_true,lt1]
   ·simp only[Option.getD_some,lt1];exact H
section
variable {κ:Type}[DecidableEq κ]{enc:κ->Value}{r c:Nat}{l:AL κ}
theorem qk(k:κ)(v:Value)(c:Nat):∀l:AL κ,aG k l=none->fy k v c l=l++[(k,v,c)]
 |[],_=>rfl
 |x::l,h=>by
  simp only[aG]at h
  split at h
  ·cases h
  ·rename_i hk;simp[fy,hk,qk k v c l h]
theorem we(k:κ)(v:Value)(c:Nat):∀l:AL κ,(aG k l).isSome=true->(fy k v c l).map (·.2.2)=l.map (·.2.2)
 |[],h=>by cases h
 |x::l,h=>by
  simp only[aG]at h
  simp only[fy]
  split at h
  ·rename_i hk;simp[hk]
  ·rename_i hk;simp[hk,we k v c l h]
theorem iJ.nil(c:Nat):iJ ([]:AL κ) c:=⟨List.nodup_nil,gI.nil c⟩
theorem iJ.put(h:iJ l c)(k:κ)(v:Value):iJ (fy k v c l) (jW k l c):=by
 refine⟨Dr k v c l h.1,?_⟩
 unfold jW
 cases hf:aG k l with
 |none=>
  rw[qk k v c l hf]
  exact h.2.IG k v
 |some u=>
  have hb:=we k v c l (by rw[hf];rfl)
  refine⟨λx hx=>?_,by rw[hb];exact h.2.nodup⟩
  have:x.2.2∈(fy k v c l).map (·.2.2):=List.mem_map.2 ⟨x,hx,rfl⟩
  rw[hb]at this
  obtain⟨y,hy,e⟩:=List.mem_map.1 this
  rw[<-e]
  exact h.2.low y hy
theorem il(k:κ):∀l:AL κ,(ff k l).Sublist l
 |[]=>List.Sublist.refl _
 |x::l=>by
  simp only[ff]
  split
  ·exact List.sublist_cons_self _ _
  ·exact(il k l).cons_cons _
theorem iJ.YE(h:iJ l c)(k:κ):iJ (ff k l) c:=
 ⟨List.Nodup.sublist ((il k l).map _) h.1,λx hx=>h.2.low x ((il k l).subset hx),List.Nodup.sublist ((il k l).map _) h.2.nodup⟩
theorem mO(k k':κ):∀l:AL κ,(l.map (·.1)).Nodup->aG k' (ff k l)=if k'=k then none else aG k' l
 |[],_=>by simp[ff,aG]
 |x::l,h=>by
  simp only[List.map_cons,List.nodup_cons]at h
  simp only[ff]
  split
  ·rename_i hk
   subst hk
   split
   ·rename_i e
    subst e
    exact nW _ l λy hy e=>h.1 (List.mem_map.2 ⟨y,hy,e⟩)
   ·rename_i e;simp[aG,e]
  ·rename_i hk
   simp only[aG]
   rw[mO k k' l h.2]
   by_cases e:k'=x.1
   ·rw[if_pos e,if_pos e,if_neg (λe2=>hk (by rw[<-e2,e]))]
   ·rw[if_neg e,if_neg e]
def DQ{α:Type}(V:Value->α->HP):Prop:=∀v x R h h',(V v x).p R h->(V v x).p R h'
def lG{α:Type}(V:Value->α->HP)(l:AL κ)(f:κ->Option α):HP:=
 ⟨λR h=>∀k,match aG k l,f k with
   |none,none=>True
   |some v,some x=>(V v x).p R h
   |_,_=>False,
  λlR lh H k=>by
   have:=H k
   revert this
   cases aG k l<;>cases f k<;>simp only[imp_self]
   exact λp=>(V _ _).mono lR lh p⟩
variable {α:Type}{V:Value->α->HP}{f:κ->Option α}
def gU(f:κ->Option α)(k:κ)(x:Option α):κ->Option α:=λk'=>if k'=k then x else f k'
theorem lG.nil{R h:PH}:(lG V ([]:AL κ) (λ_=>none)).p R h:=λ_=>trivial
theorem lG.put{R h:PH}(H:(lG V l f).p R h)(k:κ)(v:Value)(c:Nat)(x:α)(hv:(V v x).p R h):(lG V (fy k v c l) (gU f k (some x))).p R h:=λk'=>by
 rw[kp,gU]
 by_cases e:k'=k
 ·rw[if_pos e,if_pos e];exact hv
 ·rw[if_neg e,if_neg e];exact H k'
theorem lG.YE{R h:PH}(H:(lG V l f).p R h)(hn:(l.map (·.1)).Nodup)(k:κ):(lG V (ff k l) (gU f k none)).p R h:=λk'=>by
 rw[mO _ _ _ hn,gU]
 by_cases e:k'=k
 ·rw[if_pos e,if_pos e];trivial
 ·rw[if_neg e,if_neg e];exact H k'
def aC(V:Value->α->HP)(enc:κ->Value)(r:Nat)(f:κ->Option α)(l:AL κ)(c:Nat):HP:=HP.and (iJ l c) (HP.an (HP.one r (aJ enc l c)) (lG V l f))
def eJ(V:Value->α->HP)(enc:κ->Value)(r:Nat)(f:κ->Option α):HP:=HP.ex λl=>HP.ex λc=>aC V enc r f l c
theorem eJ.new(V:Value->α->HP)(enc:κ->Value)(r:Nat){R h:PH}(H:(HP.one r (.map #[] 0)).p R h):(eJ V enc r (λ_=>none)).p R h:=
 ⟨[],0,iJ.nil 0,HP.ae (HP.az H) (λ_ h=>h) λ_ _=>lG.nil⟩
theorem aC.at{R h:PH}(H:(aC V enc r f l c).p R h):h r=some (aJ enc l c):=HP.aj H.2
theorem aC.Bo{R h:PH}(H:(aC V enc r f l c).p R h)(hV:DQ V){k:κ}{x:α}(e:f k=some x)(h':PH):∃v,aG k l=some v/\(V v x).p R h':=by
 have:=HP.ai H.2 k
 rw[e]at this
 revert this
 cases aG k l with
 |none=>exact λh=>h.elim
 |some v=>exact λh=>⟨v,rfl,hV _ _ _ _ _ h⟩
theorem aC.no{R h:PH}(H:(aC V enc r f l c).p R h){k:κ}(e:f k=none):aG k l=none:=by
 have:=HP.ai H.2 k
 rw[e]at this
 revert this
 cases aG k l with
 |none=>exact λ_=>rfl
 |some v=>exact λh=>h.elim
theorem aC.put{kt et t:TypeId}(K:gH Tryz.prog kt enc)(ht:Tryz.prog.underlying t=some (.map kt et))(hV:DQ V)(k:κ)(v:Value)(x:α){A:HP}(hv:∀R h,A.p R h->(V v x).p R h):
 aI Tryz.prog (jL t (.map (some r)) (enc k) v) (HP.an (aC V enc r f l c) A) (λz=>HP.and (z=.tuple #[]) (HP.an (eJ V enc r (gU f k (some x))) A)):=by
 refine aI.bV (φ:=iJ l c) (λR h H=>(HP.aj H).1) λhI=>?_
 refine((qj (r:=r) (l:=l) (c:=c) K ht k v).frame (HP.an (lG V l f) A)).ak (λR h ⟨h1,h2,d,l1,l2,⟨_,H⟩,hA⟩=>HP.aq ⟨h1,h2,d,l1,l2,H,hA⟩) ?_
 rintro z R h ⟨h1,h2,d,l1,l2,⟨rfl,vQ⟩,kh⟩
 have hx:=hv _ _ (HP.ai kh)
 refine⟨rfl,HP.ae (HP.ay ⟨h1,h2,d,l1,l2,vQ,kh⟩) (λy hy=>⟨_,_,hI.put k v,HP.ae hy (λ_ h=>h) λq hq=>lG.put hq k v c x (hV _ _ _ _ _ hx)⟩) λ_ h=>h⟩
theorem aC.YE{kt et t:TypeId}(K:gH Tryz.prog kt enc)(ht:Tryz.prog.underlying t=some (.map kt et))(k:κ)(ts:Array TypeId)(ty:TypeId)(h0:ts[0]? =some t):
 aI Tryz.prog (Ds ts ty (.map (some r)) (enc k)) (aC V enc r f l c) (λz=>HP.and (z=.tuple #[]) (aC V enc r (gU f k none) (ff k l) c)):=by
 refine aI.bV (φ:=iJ l c) (λR h H=>H.1) λhI=>?_
 refine((ZT (r:=r) (l:=l) (c:=c) (ty:=ty) K ht k ts h0).frame (lG V l f)).ak (λR h ⟨_,H⟩=>H) ?_
 rintro z R h ⟨h1,h2,d,l1,l2,⟨rfl,vQ⟩,kh⟩
 exact⟨rfl,hI.YE k,h1,h2,d,l1,l2,vQ,lG.YE kh hI.1 k⟩
end
theorem wg{κ α:Type}[DecidableEq κ]{enc:κ->Value}{m it c:Nat}{l:AL κ}{V:Value->α->HP}{f:κ->Option α}{S:Array Nat}{ty:TypeId}(hs:gI l c):
 aI Tryz.prog (q7 (.pointer (some ⟨it,0,none⟩)) ty) (HP.an (HP.one it (.mapIter (some m) c S c)) (aC V enc m f l c))
 (λv=>HP.ex λe=>HP.and (L9 enc l S v e) (HP.an (HP.one it (.mapIter (some m) c (kr S e) c)) (aC V enc m f l c))):=by
 refine aI.bV (φ:=iJ l c) (λR h H=>(HP.ai H).1) λhI=>?_
 refine((q8 (m:=m) (it:=it) (S:=S) (ty:=ty) (enc:=enc) hs).frame (lG V l f)).ak (λR h ⟨h1,h2,d,l1,l2,H1,⟨_,H2⟩⟩=>HP.ay ⟨h1,h2,d,l1,l2,H1,H2⟩) ?_
 rintro v R h ⟨h1,h2,d,l1,l2,⟨e,he,H⟩,HV⟩
 exact⟨e,he,HP.ae (HP.aq ⟨h1,h2,d,l1,l2,H,HV⟩) (λ_ h=>h) λy hy=>⟨hI,hy⟩⟩
def iE(n:Int):Value:=.int .i64 n
theorem iK:gH Tryz.prog 3 iE:=L8 (by kernel_rfl)
structure eS where
 what:Int
 data:List UInt8
def zC:eS:=⟨0,[]⟩
structure MR where
 fr:Int
 to:Int
 num:Int
 bf:Bool
 kind:Int
 ep:Int
 at':Int
 what:Int
 ca:Option Addr
 cn:Nat
 cc:Nat
 br:Int
 bw:Int
 va:Option Addr
 vn:Nat
 vc:Nat
 bM:Int
 tail:Int
 low:Int
 back:Int
abbrev MR.aA(m:MR):Array Value:= #[.int .i64 m.fr,.int .i64 m.to,.int .i64 m.num,.bool m.bf,.int .i64 m.kind,.int .i64 m.ep,.int .i64 m.at',.int .i64 m.what,.slice m.ca m.cn m.cc,.int .i64 m.br,.int .i64 m.bw,.slice m.va m.vn m.vc,.int .i64 m.bM,.int .i64 m.tail,.int .i64 m.low,.int .i64 m.back]
abbrev cU(b:Nat)(m:MR):HP:=HP.one b (.cells m.aA 48)
structure MS where
 fr:Int
 to:Int
 num:Int
 bf:Bool
 kind:Int
 ep:Int
 at':Int
 cell:eS
 br:Int
 bw:Int
 val:List UInt8
 bM:Int
 tail:Int
 low:Int
 back:Int
abbrev MS.cF(m:MS)(ca:Option Addr)(cc:Nat)(va:Option Addr)(vc:Nat):MR:=⟨m.fr,m.to,m.num,m.bf,m.kind,m.ep,m.at',m.cell.what,ca,m.cell.data.length,cc,m.br,m.bw,va,m.val.length,vc,m.bM,m.tail,m.low,m.back⟩
abbrev MS.bB(m:MS)(ca:Option Addr):HP:=aO ca m.cell.data.length m.cell.data
abbrev MS.bj(m:MS)(va:Option Addr):HP:=aO va m.val.length m.val
def dL(m:MS):MS:=⟨m.to,m.fr,m.num,true,m.kind,m.ep,m.at',zC,0,0,[],0,0,0,0⟩
def mC:MS:=⟨0,0,0,false,0,0,0,zC,0,0,[],0,0,0,0⟩
theorem YF{w:World}{t:TypeId}(ht:Tryz.prog.underlying t=some (.int .i64))(cs:Array Value)(off:Nat)(v:Value)(h:cs[off]? =some v):(part t cs off).run Tryz.prog w=.ok v w:=by
 have ha:gF Tryz.prog t=false:=by unfold gF;rw[ht]
 simp only[part,Sem.run_bind,RX.hY ht,Result.andThen_ok,ha,Bool.false_eq_true,if_false,h]
 rfl
theorem pG{w:World}{t:TypeId}(ht:Tryz.prog.underlying t=some (.int .i64))(n:Nat)(a b:Int):(Op.equalIn (n+1) t (.int .i64 a) (.int .i64 b)).run Tryz.prog w=.ok (decide (a=b)) w:=by
 simp only[Op.equalIn,Sem.run_bind,RX.run_underlying ht,Result.andThen_ok,if_true,Sem.run_pure]
 rfl
theorem pH{w:World}(r q r' q':Int):(Op.equal 46 (.agg #[.int .i64 r,.int .i64 q]) (.agg #[.int .i64 r',.int .i64 q'])).run Tryz.prog w=.ok (decide (r=r')&&decide (q=q')) w:=by
 have hs:Tryz.prog.stoodInHeld 46=false:=by kernel_rfl
 have hi:Tryz.prog.underlying 3=some (.int .i64):=by kernel_rfl
 have e2:∀n,(Op.equalIn (n+2) 46 (.agg #[.int .i64 r,.int .i64 q]) (.agg #[.int .i64 r',.int .i64 q'])).run Tryz.prog w=.ok (decide (r=r')&&decide (q=q')) w:=λn=>by
  rw[Op.equalIn]
  simp only[Sem.run_bind,RX.run_underlying Tryz.underlying46,Result.andThen_ok]
  simp[program,Sem.run,hs,Result.andThen]
  have p0:∀a b:Int,Sem.run Tryz.prog (part 3 #[Value.int IntKind.i64 a,Value.int IntKind.i64 b] 0) w=.ok (.int .i64 a) w:=λa b=>YF hi _ _ _ rfl
  have p1:∀a b:Int,Sem.run Tryz.prog (part 3 #[Value.int IntKind.i64 a,Value.int IntKind.i64 b] 1) w=.ok (.int .i64 b) w:=λa b=>YF hi _ _ _ rfl
  simp only[p0,pG hi]
  by_cases h1:r=r'
  ·simp[h1,Sem.run_bind,p1,pG hi]
   by_cases h2:q=q'
   ·simp[h2]
   ·simp[h2]
  ·simp[h1]
 exact e2 9998
theorem Oz{ρ:bp}{i j:Nat}{ty u:TypeId}{x y:V}(h:i≠j){r q r' q':Int}(hx:x.den ρ=.agg #[.int .i64 r,.int .i64 q])(hy:y.den ρ=.agg #[.int .i64 r',.int .i64 q']){A:HP}:
 aH Tryz.prog (dM ρ (.binOp .eql 46 (.tmp i) (.tmp j) u) ty [(i,x),(j,y)]) A (.bool (decide (r=r')&&decide (q=q'))):=λw R hh F s _=>by
 have h':(i==j)=false:=by simpa using h
 have hg:Tryz.prog.eqGuardType Tryz.prog.depth 46=false:=by kernel_rfl
 simp only[dM,execOp,fl,List.find?_cons,beq_self_eq_true,h',hx,hy]
 simp[eqGuard,binOp,hg,program,Sem.run_bind,Sem.run,Result.andThen,pH]
theorem Wv{i j:Nat}{ty u:TypeId}(h:i≠j){r q r' q':Int}{A:HP}:
 aH Tryz.prog (bI (.binOp .eql 46 (.tmp i) (.tmp j) u) ty [(i,.agg #[.int .i64 r,.int .i64 q]),(j,.agg #[.int .i64 r',.int .i64 q'])]) A (.bool (decide (r=r')&&decide (q=q'))):=by
 have:=Oz (ρ:=[.i r,.i q,.i r',.i q']) (i:=i) (j:=j) (ty:=ty) (u:=u) (x:=.w (.agg [.int .i64 (.v 0),.int .i64 (.v 1)])) (y:=.w (.agg [.int .i64 (.v 2),.int .i64 (.v 3)])) h (A:=A) rfl rfl
 rw[cu]at this
 exact this
theorem n6(a:Option Addr){R h:PH}:(aO a 0 []).p R h:=bb.nil 1 a R h
theorem wh{ρ:bp}{i j:Nat}{ty u:TypeId}{x y:V}(h:i≠j){r q r' q':Int}(hx:x.den ρ=.agg #[.int .i64 r,.int .i64 q])(hy:y.den ρ=.agg #[.int .i64 r',.int .i64 q']){A:HP}:
 aH Tryz.prog (dM ρ (.binOp .neq 46 (.tmp i) (.tmp j) u) ty [(i,x),(j,y)]) A (.bool (!(decide (r=r')&&decide (q=q')))):=λw R hh F s _=>by
 have h':(i==j)=false:=by simpa using h
 have hg:Tryz.prog.eqGuardType Tryz.prog.depth 46=false:=by kernel_rfl
 simp only[dM,execOp,fl,List.find?_cons,beq_self_eq_true,h',hx,hy]
 simp[eqGuard,binOp,hg,program,Sem.run_bind,Sem.run,Result.andThen,pH]
theorem ac1{i j:Nat}{ty u:TypeId}(h:i≠j){r q r' q':Int}{A:HP}:
 aH Tryz.prog (bI (.binOp .neq 46 (.tmp i) (.tmp j) u) ty [(i,.agg #[.int .i64 r,.int .i64 q]),(j,.agg #[.int .i64 r',.int .i64 q'])]) A (.bool (!(decide (r=r')&&decide (q=q')))):=by
 have:=wh (ρ:=[.i r,.i q,.i r',.i q']) (i:=i) (j:=j) (ty:=ty) (u:=u) (x:=.w (.agg [.int .i64 (.v 0),.int .i64 (.v 1)])) (y:=.w (.agg [.int .i64 (.v 2),.int .i64 (.v 3)])) h (A:=A) rfl rfl
 rw[cu]at this
 exact this
end
end Go.Proofs.YtbkifafpjnjaiaaGreatDoor
