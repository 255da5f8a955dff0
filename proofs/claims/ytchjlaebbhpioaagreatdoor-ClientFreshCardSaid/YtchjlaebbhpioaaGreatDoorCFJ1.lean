/- Texts of this claim, joined. No condition. -/
import Derived.Test.YtchjlaebbhpioaaGreatDoorCFJ0
import Derived.Maps.AppendAt
import Derived.Laws.AppendOwnNone
import Derived.KernelRfl
import Derived.Lib.BufferRead
import Derived.SizedLaws
import Derived.ProofKit
import Derived.OpenShut
import Derived.Deep.Slices
import Derived.Lib.SmallJoins
import Derived.Below
import Derived.Test.YtchjlaebbhpioaaGreatDoorRows
import Derived.WalkKit
import Derived.WalkSpells
import Derived.WalkSmall
import Derived.WalkLawsBesides
import Derived.RegionTactic
import Derived.BigRegion
import Derived.BigQuiet
import Derived.Deep.QuietTactic
import Derived.Deep.RegionHeld3
import Derived.Lib.Hide
import Derived.Maps.OwnSet
import Derived.Maps.OwnOps
import Derived.Laws.IdiomRangeMap
import Derived.Laws.StructEq
set_option linter.unusedSimpArgs false
set_option linter.unusedVariables false
namespace Go.Proofs.YtchjlaebbhpioaaGreatDoor
open HP (aE aA aj tt aD ai au ae aC ak aW ah Az)
open _root_.Go.Proofs.Tryz (prog)
set_option maxRecDepth 100000
namespace RX
def Reach(c:Ctx)(K:Ex->S->T):Exit->Act->World->Prop
 | .normal,a,w=>Nx c (K .oY) a w
 | .exit id,a,w=>Nx c (K (.exit id)) a w
 | .ret,a,w=>Nx c (K .ret) a w
 |_,_,_=>False
section
variable {P:Program}{post:Value->HP}{w0:World}{F:PH}{bt:jo}
theorem Reach.up{K}{ρ ρ':cd}{R R'}{L L'}{e}{a}{w}(p1:ρ<+:ρ')(p2:R.le R')(p3:L<:+L')(n:Reach ⟨P,post,w0,F,ρ',R',L'⟩ K e a w):Reach ⟨P,post,w0,F,ρ,R,L⟩ K e a w:=by
 cases e<;>first|exact Nx.up p1 p2 p3 n|exact n
theorem Df{ρ:cd} q{l}{R h}(H:(aj (cT ρ (l.filter q)) (cT ρ (l.filter λx=> !q x))).p R h):(cT ρ l).p R h:=by
 induction l generalizing h with
 |nil=>trivial
 |cons x r ih=>
  rw[List.filter_cons,List.filter_cons]at H;cases hq:q x with
  |true=>
   simp only[hq,if_true,Bool.not_true,Bool.false_eq_true,if_false]at H;exact(co ρ x r R h).2 (ae (au (ae H (λ_ h=>(co ρ x _ _ _).1 h) λ_ h=>h)) (λ_ h=>h) λ_ h=>ih h)
  |false=>
   simp only[hq,Bool.false_eq_true,if_false,Bool.not_false,if_true]at H;have H2:=ak H;have H3:=au (ae H2 (λ_ h=>(co ρ x _ _ _).1 h) λ_ h=>h);exact(co ρ x r R h).2 (ae H3 (λ_ h=>h) λ_ h=>ih (ak h))
theorem UB{hd}{ss}{fr}{ρ ρ2:cd}{s}{base}{R h}(hl:ρ.length=base)(c:Hu base ss hd s fr=true)(hp:ρ<+:ρ2)(H:(cT ρ2 s.h).p R h):(cT (ρ++fr.map (FV.den ρ2)) hd.h).p R h:=by
 simp only[Hu,Bool.and_eq_true,decide_eq_true_eq,Nat.blt_eq]at c;have c2:=c.1.1.1.1.1.2;split at c2
 ·rename_i l tZ;simp only[Bool.and_eq_true]at c2;exact uC tZ hl hp (pJ c2.1 (λx hx=>by simpa using List.all_eq_true.1 c2.2 x hx) H)
 ·cases c2
theorem uD{hd}{ss}{fr}{s}{base}(c:Hu base ss hd s fr=true)(ρ:cd):sorted ss (fr.map (FV.den ρ))/\fr.length=ss.length/\hd.n=base+ss.length:=by
 simp only[Hu,Bool.and_eq_true,decide_eq_true_eq,Nat.blt_eq]at c;exact⟨D5 ρ c.1.1.1.1.2 c.1.1.1.2,c.1.1.1.2,c.1.1.2⟩
theorem uE:∀ {ss:List So} {xs:cd},sorted ss xs->xs.length=ss.length
 |[],[],_=>rfl
 |[],_::_,h=>by simp[sorted]at h
 |t::r,[],h=>by cases t<;>simp[sorted]at h
 |t::r,x::xs,h=>by cases t<;>cases x<;>simp only[sorted]at h<;>first|(simp only[List.length_cons,uE h];done)|exact h.elim
theorem _root_.Go.Proofs.YtchjlaebbhpioaaGreatDoor.Sat.abW{w:World}{R h F:PH}(s:Sat w R h F){l:Nat}{x:Obj}(hb:F l=some x)(y:Obj):Sat (w.putObj l y) R h (λk=>if k=l then some y else F k):=by
 have hR:R l=none:=(s.He l).resolve_right (by rw[hb];simp);have hh:h l=none:=(s.xG l).resolve_right (by rw[hb];simp)
 have aF:∀g:PH,g.own w->g l=none->g.own (w.putObj l y):=λg og gl k o e=>by
  rw[World.putObj_heap_other (λe'=>by subst e';rw[gl]at e;cases e)];exact og k o e
 refine⟨s.uz,λk=>?_,λk=>?_,aF R s.oR hR,aF h s.oh hh,λk o e=>?_,s.gl⟩
 ·by_cases e:k=l
  ·subst e;exact .inl hR
  ·simp only[e,if_false];exact s.He k
 ·by_cases e:k=l
  ·subst e;exact .inl hh
  ·simp only[e,if_false];exact s.xG k
 ·by_cases e':k=l
  ·subst e';simp only[if_true]at e;cases e;exact World.putObj_heap_same (s.oF.lt hb)
  ·simp only[e',if_false]at e;rw[World.putObj_heap_other e'];exact s.oF k o e
theorem _root_.Go.Proofs.YtchjlaebbhpioaaGreatDoor.Sat.Y8{w:World}{R h F G:PH}(s:Sat w R h F){l:Nat}{x:Obj}(hb:F l=some x)(hG:G.le F)(hGl:G l=none):Sat w R (h.un (PH.one l x)) G/\h.dj (PH.one l x):=by
 have hR:R l=none:=(s.He l).resolve_right (by rw[hb];simp);have hh:h l=none:=(s.xG l).resolve_right (by rw[hb];simp)
 have d1:h.dj (PH.one l x):=λk=>by
  by_cases e:k=l
  ·subst e;exact .inl hh
  ·exact .inr (aq e)
 refine⟨⟨(PH.ol s.uz.symm (λk=>?_)).symm,s.He.le (PH.le.refl _) hG,PH.ol (s.xG.le (PH.le.refl _) hG) (λk=>?_),s.oR,λk o e=>?_,s.oF.le hG,s.gl⟩,d1⟩
 ·by_cases e:k=l
  ·subst e;exact .inr hR
  ·exact .inl (aq e)
 ·by_cases e:k=l
  ·subst e;exact .inr hGl
  ·exact .inl (aq e)
 ·rcases PH.oe e with e|e
  ·exact s.oh k o e
  ·obtain⟨rfl,rfl⟩:=PH.pF e;exact s.oF _ _ hb
theorem Same.putObj w l o:Same w (w.putObj l o):=⟨rfl,rfl,rfl,by simp⟩
theorem ahe{ρ:cd}:∀(l:List (Tmp×W)) {t:List (Option V)} {a:Act},Tm ρ t a->
 Tm ρ (l.foldl (λt x=>t.set x.1 (some (.w x.2))) t) {a with tmps:=(l.map λx=>(x.1,x.2.den ρ)).foldl (λts x=>ts.setIfInBounds x.1 x.2) a.tmps}
 |[],_,_,h=>h
 |(d,x)::r,t,a,h=>by
  have:=ahe r (h.put d (.w x));simpa[Act.put,V.den]using this
theorem UC{ps:Array Tmp}{TJ}{ρ:cd}{ts:dI}:(ps.zip (TJ.map (W.den ρ)).toArray).foldl (λtmps (x:Tmp×Value)=>tmps.setIfInBounds x.1 x.2) ts=((ps.toList.zip TJ).map λx=>(x.1,x.2.den ρ)).foldl (λts x=>ts.setIfInBounds x.1 x.2) ts:=by
 rw[<-Array.foldl_toList];congr 1;rw[Array.toList_zip];simp only;rw[List.zip_map_right];exact List.map_congr_left λx _=>rfl
theorem Dg{Fr}{n'}{Q}{c}(I:Nat->Act->World->Prop)
 (round:∀n a w,I n a w->c.wpIn Fr n' P (Exit.then (λa' w'=>∃m,m<n/\I m a' w') Q) a w):∀n a w,I n a w->(Code.loop c).wpIn Fr n' P Q a w:=by
 intro n₀ a₀ w₀ h₀ b k cs hro hb hr
 have key:∀n a w,I n a w->∃e a' w',Q e a' w'/\ArrivesIn (Machine.fenced P Fr) P (lone (b.atR a (.code c:: .inLoop c::k)) cs w) b k cs e a' w':=by
  intro n
  induction n using Nat.strongRecOn with
  |_ n ih=>
   intro a w hI;obtain⟨e,a₁,w₁,hq,uF⟩:=round n a w hI b (.inLoop c::k) cs hro hb hr;cases e with
   |normal=>
    obtain⟨m,hm,hI₁⟩:=hq;obtain⟨e₂,a₂,w₂,hq₂,Y9⟩:=ih m hm a₁ w₁ hI₁;exact⟨e₂,a₂,w₂,hq₂,.of_steps (StepsIn.trans uF (.one (fenced_calm hb hr rfl) stepR_inLoop)) Y9⟩
   |exit id=>exact⟨_,a₁,w₁,hq,.pass (x:=.inLoop c) rfl (λ_ _=>.inl (by simp)) uF⟩
   |goto l=>exact⟨_,a₁,w₁,hq,.pass (x:=.inLoop c) rfl (λ_ _=>.inl (by simp)) uF⟩
   |ret=>exact⟨_,a₁,w₁,hq,.pass (x:=.inLoop c) rfl (λ_ _=>.inl (by simp)) uF⟩
   |panic ch=>exact⟨_,a₁,w₁,hq,.pass (x:=.inLoop c) rfl (λ_ _=>.inl (by simp)) uF⟩
   |outgrown=>exact⟨_,a₁,w₁,hq,.pass (x:=.inLoop c) rfl (λ_ _=>.inl (by simp)) uF⟩
 obtain⟨e,a',w',hq,uF⟩:=key n₀ a₀ w₀ h₀;exact⟨e,a',w',hq,.of_steps (.one (fenced_calm hb hr rfl) stepR_loop) uF⟩
def IH(P:Program)(bt:jo)(post:Value->HP)(c:Code):Prop:=∀ {Fr:Fence} (_:WF Fr) {rd:Bool} (_:rd=false->Fr=Fence.wide) {w0:World} {F:PH} {K:Ex->S->T} {ρ:cd} {s:S} {a:Act} {w:World} {R h:PH} {L:List (cd->Prop)},Ok ρ s a w0 w R h F->L.length=s.dp->(exec P bt rd c s K).den P post L ρ->
 c.wpIn Fr 0 P (Reach ⟨P,post,w0,F,ρ,R,L⟩ K) a w
set_option maxHeartbeats 1000000 in
theorem rU{g}{ps}{KQ b}(iha:IH P bt post KQ)(ihb:IH P bt post b){K:Ex->S->T}{ρ:cd}{s:S}{a:Act}{w:World}{R h:PH}{L:List (cd->Prop)}(ok:Ok ρ s a w0 w R h F)(hl:L.length=s.dp)
 {gv:A} (hgv:oo s g=some gv) (hok:(uA P bt s gv).ok gv false s ps.toList=true) (hd:(let r:=uA P bt s gv
  T.new (.K1 gv r.c (r.hd.s.h.filter λx=>r.Th.contains x.1) r.hd.ss r.fr r.pss r.TJ r.pch
   (exec P bt true KQ (r.round ps.toList) λx sA=>match x with
     | .oY=>exec P bt true b sA λx s2=>match x with
       | .oY=>
         let Ug:=Ht r.s1.n r.hd.s (r.YZ s2)
         if Hu r.s1.n r.hd.ss r.hd.s (r.YZ s2) Ug then .again (s2.dp - r.hd.s.dp) Ug else .all (.fail (8000+s.blk)) (.ret (.gY []) (Hv r.s1.n Ug s2.h r.hd.s.h))
       |x=>K x (r.DX s2)
     |_=>.fail 84)
   (K .oY (r.Ue s)))).den P post L ρ):
 (Code.rangeFunc g ps KQ b).wpIn Fence.wide 0 P (Reach ⟨P,post,w0,F,ρ,R,L⟩ K) a w:=by
 have wfw:WF Fence.wide:=.inl rfl;refine wpIn_rangeFunc λfn _=>?_;obtain⟨γ,Sh,Pr,may,iW,g0,I,⟨f,jy,ahh,al0,al1⟩,QE,hSh,al3,A8⟩:=hd w.heap.size;simp only[Rg.ok,Bool.not_false,Bool.true_and,Bool.and_eq_true,decide_eq_true_eq,Nat.blt_eq]at hok;obtain⟨⟨⟨⟨⟨⟨hgb,al4⟩,hsb⟩,QF⟩,abX⟩,hpn⟩,G7⟩:=hok;have et:(uA P bt s gv).hd.s.t=s.t:=rfl;have ek:(uA P bt s gv).hd.s.kn=s.kn:=rfl;have ed:(uA P bt s gv).hd.s.dp=s.dp+1:=rfl;have edf:(uA P bt s gv).hd.s.df=[]:=rfl;have G8:(uA P bt s gv).s1={s with n:=s.n+1,h:=(.b (.v s.n),.rI)::s.h,df:=.v s.n::s.df}:=rfl;have ec:(uA P bt s gv).c=(uA P bt s gv).s1.h.filter λx=>(jv s.h s.lk 60 (fR gv) []).contains x.1&& !(uA P bt s gv).Th.contains x.1:=rfl;have er:(uA P bt s gv).rest=(uA P bt s gv).s1.h.filter λx=> !((jv s.h s.lk 60 (fR gv) []).contains x.1&& !(uA P bt s gv).Th.contains x.1):=rfl;generalize hr:uA P bt s gv=r at*
 -- Za two blocks
 let d:=w.heap.size
 let ρ1:cd:=ρ++[.n d]
 have UE:ρ1.length=s.n+1:=by simp[ρ1,ok.len]
 have k1:Ok ρ1 {s with n:=s.n+1} a w0 w R h F:=ok.app hsb [.n d] (s.n+1) rfl
 let lm:Loop:={state:=.ready,pending:=none,fn,tmps:=a.tmps,params:=ps,assign:=KQ,body:=b,defers:=d}
 let w1:=(w.alloc (.deferred (some []))).alloc (.loop lm)
 let l:=d+1
 have el:(w.alloc (.deferred (some []))).heap.size=l:=by rw[World.size_alloc]
 obtain⟨sd,dd⟩:=ok.rO.alloc (.deferred (some []))
 have hpd:(cT ρ1 r.s1.h).p R ((PH.one d (.deferred (some []))).un h):=by
  rw[G8];refine(co _ _ _ _ _).2 ⟨PH.one d _,h,dd,PH.dC _ _,PH.cP dd,?_,k1.hp⟩;show(PH.one d _) (BR.den ρ1 (.v s.n))=_;have:BR.den ρ1 (.v s.n)=d:=by simp only[BR.den,ρ1];rw[<-ok.len,ou];rfl
  rw[this];exact PH.cX _ _
 obtain⟨sl,dl⟩:=sd.alloc (.loop lm);rw[el]at sl dl;have ahi:=mf (λx=>(jv s.h s.lk 60 (fR gv) []).contains x.1&& !r.Th.contains x.1) hpd;rw[<-ec,<-er]at ahi;have hrn:r.s1.n=s.n+1:=by rw[G8]
 -- what a round al5 with
 let Kx:γ->HP:=λg=>aE λys:cd=>aA (sorted r.hd.ss ys/\pE.app r.hd.ss (I g) ys) (aj (cT (ρ1++ys) (r.hd.s.h.filter λx=> !r.Th.contains x.1)) (HP.one l (.loop lm)))
 have toK:∀g ys R h,sorted r.hd.ss ys->pE.app r.hd.ss (I g) ys->(aj (cT (ρ1++ys) r.hd.s.h) (HP.one l (.loop lm))).p R h->(aj (Sh g) (Kx g)).p R h:=λg ys R h Lq hI H=>by
  have e:=lG (hSh g) Lq;rw[show ρ++[en.n w.heap.size]=ρ1 from rfl,List.drop_left]at e;rw[e hI];exact ae (au (ae H (λ_ h=>mf (λx=>r.Th.contains x.1) h) λ_ h=>h)) (λ_ h=>h) λ_ h=>⟨ys,⟨Lq,hI⟩,h⟩
 have ofK:∀g R h,(aj (Sh g) (Kx g)).p R h->∃ys,sorted r.hd.ss ys/\pE.app r.hd.ss (I g) ys/\(aj (cT (ρ1++ys) r.hd.s.h) (HP.one l (.loop lm))).p R h:=λg R h ⟨h1,h2,dj,l1,l2,hs,ys,⟨Lq,hI⟩,hk⟩=>by
  have e:=lG (hSh g) Lq;rw[show ρ++[en.n w.heap.size]=ρ1 from rfl,List.drop_left]at e;rw[e hI]at hs;exact⟨ys,Lq,hI,ae (aC ⟨h1,h2,dj,l1,l2,hs,hk⟩) (λ_ h=>Df (λx=>r.Th.contains x.1) h) λ_ h=>h⟩
 -- what a round ahj adQ Za loop adQ
 let Jx:HP:=aE λz:(Code×Ex)×cd×S×List (cd->Prop)=>aA ((z.1=(.ret,.ret)\/∃id,z.1=(.exit id,.exit id))/\ρ1<+:z.2.1/\z.2.1.length=z.2.2.1.n/\L<:+z.2.2.2/\z.2.2.2.length=z.2.2.1.dp/\(∀x∈z.2.2.1.kn,(x.1.den z.2.1).bool=x.2)/\(K z.1.2 (r.DX z.2.2.1)).den P post z.2.2.2 z.2.1)
  (aj (cT z.2.1 z.2.2.1.h) (HP.one l (.loop {lm with state:=.done,pending:=some z.1.1})))
 have adR:∀g args,(∃g',may g args g')->jG P (.func (.yield l) #[] #[]) args (aj (Pr g args) (aj (Sh g) (Kx g))) (N1 Sh Kx Jx (may g args)):=λgg args A9=>by
  refine .inr ⟨l,rfl,λwr Rr hr0 Tj ahk hpre=>?_⟩;obtain⟨ha,YB,dab,la,lb,hPr,hSK⟩:=hpre;obtain⟨ys,Lq,hI,hH⟩:=ofK gg Rr YB hSK;have hrr:=lG (al3 gg args A9) Lq;rw[show ρ++[en.n w.heap.size]=ρ1 from rfl,List.drop_left]at hrr;obtain⟨zs,Y2,Ia,kE,ahl⟩:=vG (hrr hI);obtain⟨R2,h2,q1,q2,q3,q4,hS⟩:=kE.aj (aj (cT (ρ1++ys) r.hd.s.h) (HP.one l (.loop lm))) Rr hr0 ahk.uz ⟨ha,YB,dab,la,lb,hPr,hH⟩;have abZ:=ahk.aT q1 q2 q3 q4;obtain⟨hx,UF,dx,lx,llr,hPH,A5⟩:=aC hS;have adS:=abZ.cut dx lx llr;have ahm:UF.dj Tj:=abZ.xG.le llr (PH.le.refl _);have ab0:UF l=some (.loop lm):=A5;have hFl:(UF.un Tj) l=some (.loop lm):=PH.dC _ _ _ _ ab0;have UG:Tj l=none:=(ahm l).resolve_left (by rw[ab0];simp);have ahn:Tj.le (UF.un Tj):=PH.cP ahm;have Oy:wr.heap[l]? =some (.loop lm):=adS.oF _ _ hFl
  have hsz:args.size=lm.params.size:=by
   rw[Ia];simp[lm,G7]
  refine⟨_,_,_,_,run_yield Oy hsz,?_⟩;refine roundIn_of_wpIn trivial ?_
  have QG:(ρ1++ys).length=r.hd.s.n:=by
   rw[List.length_append,UE,uE Lq,(uD QF ρ1).2.2,hrn]
  have hbs:=hsb;simp only[S.fm,Bool.and_eq_true]at hbs
  have okh:Ok (ρ1++ys) r.hd.s {tmps:=a.tmps,defers:=[]} wr wr R2 hx (UF.un Tj):=by
   have tmb:(s.t.all λ|some v=>v.fm ρ.length|none=>true)=true:=by rw[ok.len];exact hbs.1.1.1
   refine⟨by rw[edf];rfl,?_,QG,λx hx=>?_,?_,adS,Same.refl _⟩
   ·rw[et];have:=ok.tm.app tmb ([.n d]++ys);rw[<-List.append_assoc]at this;exact⟨this.1,this.2⟩
   ·rw[ek]at hx;have hb:=List.all_eq_true.1 hbs.2 x hx;rw[<-ok.len]at hb;have:(x.1.den (ρ++([.n d]++ys))).bool=x.2:=by rw[E.app hb];exact ok.kn x hx
    rwa [<-List.append_assoc]at this
   ·exact ah hPH
  have okz:=okh.app abX zs r.pn (hpn.trans (by rw[Y2]))
  have okr:Ok (ρ1++ys++zs) (r.round ps.toList) {tmps:=(lm.params.zip args).foldl (λtmps x=>tmps.setIfInBounds x.1 x.2) lm.tmps,defers:=[]} wr wr R2 hx (UF.un Tj):=by
   refine⟨okz.rI,?_,okz.len,okz.kn,?_,adS,Same.refl _⟩
   ·rw[Ia,UC];exact ahe (ps.toList.zip r.TJ) okz.tm
   ·refine pI.2 (ae hPH (λ_ h=>h) λy hy=>?_);have hb:=abX;simp only[S.fm,Bool.and_eq_true]at hb;have Tk:AA (ρ1++ys).length r.hd.s.h=true:=by rw[QG];exact hb.1.1.2
    rw[rL Tk];exact hy
  refine wpIn_mono (iha (Fr:=Fence.wide.inRound l) (.inr ⟨l,rfl⟩) (rd:=true) (λh=>by cases h) okr (by show _=r.hd.s.dp;rw[ed,List.length_cons,hl]) ahl) λe a1 w3 rr=>?_;cases e with
  |normal=>
   obtain⟨ρ3,s3,R3,h3,L3,p1,p2,p3,p4,p5,p6⟩:=rr;simp only at p1 p2 p3 p4 p5 p6;refine⟨_,run_beginRound (p5.rO.oF _ _ hFl) rfl,?_⟩;have ama:=p5.rO.abW hFl (.loop {lm with state:=.busy});have ok4:Ok ρ3 s3 a1 wr (w3.putObj l (.loop {lm with state:=.busy})) R3 h3 _:=⟨p5.rI,p5.tm,p5.len,p5.kn,p5.hp,ama,p5.same.trans (Same.putObj _ _ _)⟩;have hF4:∀y:Obj,(λk=>if k=l then some y else(UF.un Tj) k) l=some y:=λy=>aB rfl
   have aq9:∀y:Obj,Tj.le (λk=>if k=l then some y else(UF.un Tj) k):=λy k o e=>by
    by_cases ek:k=l
    ·subst ek;rw[UG]at e;cases e
    ·simp only[ek,if_false];exact ahn k o e
   refine wpIn_mono (ihb (Fr:=Fence.wide.inRound l) (.inr ⟨l,rfl⟩) (rd:=true) (λh=>by cases h) ok4 p4 p6) λe a2 w5 rr=>?_
   have back:∀ {ρ5 s5 R5 h5},Ok ρ5 s5 a2 wr w5 R5 h5 (λk=>if k=l then some (.loop {lm with state:=.busy})else(UF.un Tj) k)->∀y:Obj,Sat (w5.putObj l y) R5 (h5.un (PH.one l y)) Tj/\h5.dj (PH.one l y):=λok5 y=>by
    have:=ok5.rO.abW (hF4 _) y;refine this.Y8 (aB rfl) (λk o e=>?_) UG
    by_cases ek:k=l
    ·subst ek;rw[UG]at e;cases e
    ·simp only[ek,if_false];exact ahn k o e
   cases e with
   |normal=>
    obtain⟨ρ5,s5,R5,h5,L5,q1',q2',q3',q4',Dh,UH⟩:=rr;simp only at q1' q2' q3' q4' Dh UH;split at UH
    ·rename_i QH;refine⟨_,_,run_endRound none (Dh.rO.oF _ _ (hF4 _)),?_⟩;obtain⟨UI,d6⟩:=back Dh (.loop {({lm with state:=.busy}:Loop)with state:=if(none:Option Code).isNone then .ready else .done,pending:=none});refine⟨_,rfl,Dh.same.trans (Same.putObj _ _ _),R5,_,q1.trans (p2.trans q2'),UI,?_⟩;obtain⟨pre,hpre⟩:=p3.trans q3'
     have hlen:s5.dp - r.hd.s.dp=pre.length:=by
      have:L5.length=pre.length+(L.length+1):=by rw[<-hpre];simp
      rw[ed];omega
     have xO:L5[s5.dp - r.hd.s.dp]? =some (λys=>∃g',may gg args g'/\pE.app r.hd.ss (I g') ys):=by
      rw[hlen,<-hpre,List.getElem?_append_right (Nat.le_refl _),Nat.sub_self];rfl
     simp only[T.den,xO]at UH;obtain⟨g',aho,hI'⟩:=UH;have p15:ρ1<+:ρ5:=List.IsPrefix.trans (show ρ1<+:ρ1++ys++zs from⟨ys++zs,(List.append_assoc ..).symm⟩) (p1.trans q1');refine⟨true,rfl,g',aho,toK g' _ _ _ (uD QH ρ5).1 hI' ⟨h5,PH.one l _,d6,PH.dC _ _,PH.cP d6,?_,?_⟩⟩
     ·exact UB (UE.trans hrn.symm) QH p15 Dh.hp
     ·exact PH.cX _ _
    ·exact UH.1.elim
   |ret=>
    obtain⟨ρ5,s5,R5,h5,L5,q1',q2',q3',q4',Dh,UH⟩:=rr;simp only at q1' q2' q3' q4' Dh UH;refine⟨_,_,run_endRound (some .ret) (Dh.rO.oF _ _ (hF4 _)),?_⟩;obtain⟨UI,d6⟩:=back Dh (.loop {({lm with state:=.busy}:Loop)with state:=if(some Code.ret:Option Code).isNone then .ready else .done,pending:=some .ret});have p15:ρ1<+:ρ5:=List.IsPrefix.trans (show ρ1<+:ρ1++ys++zs from⟨ys++zs,(List.append_assoc ..).symm⟩) (p1.trans q1');refine⟨_,rfl,Dh.same.trans (Same.putObj _ _ _),R5,_,q1.trans (p2.trans q2'),UI,false,rfl,((.ret,.ret),ρ5,s5,L5),⟨.inl rfl,p15,Dh.len,(List.suffix_cons _ _).trans (p3.trans q3'),q4',Dh.kn,UH⟩,h5,PH.one l _,d6,PH.dC _ _,PH.cP d6,Dh.hp,PH.cX _ _⟩
   |exit id=>
    obtain⟨ρ5,s5,R5,h5,L5,q1',q2',q3',q4',Dh,UH⟩:=rr;simp only at q1' q2' q3' q4' Dh UH;refine⟨_,_,run_endRound (some (.exit id)) (Dh.rO.oF _ _ (hF4 _)),?_⟩;obtain⟨UI,d6⟩:=back Dh (.loop {({lm with state:=.busy}:Loop)with state:=if(some (Code.exit id):Option Code).isNone then .ready else .done,pending:=some (.exit id)});have p15:ρ1<+:ρ5:=List.IsPrefix.trans (show ρ1<+:ρ1++ys++zs from⟨ys++zs,(List.append_assoc ..).symm⟩) (p1.trans q1');refine⟨_,rfl,Dh.same.trans (Same.putObj _ _ _),R5,_,q1.trans (p2.trans q2'),UI,false,rfl,((.exit id,.exit id),ρ5,s5,L5),⟨.inr ⟨id,rfl⟩,p15,Dh.len,(List.suffix_cons _ _).trans (p3.trans q3'),q4',Dh.kn,UH⟩,h5,PH.one l _,d6,PH.dC _ _,PH.cP d6,Dh.hp,PH.cX _ _⟩
   |goto t=>exact rr.elim
   |panic c=>exact rr.elim
   |outgrown=>exact rr.elim
  |ret=>obtain⟨ρ3,s3,R3,h3,L3,p1,p2,p3,p4,p5,p6⟩:=rr;exact p6.elim
  |exit id=>obtain⟨ρ3,s3,R3,h3,L3,p1,p2,p3,p4,p5,p6⟩:=rr;exact p6.elim
  |goto t=>exact rr.elim
  |panic c=>exact rr.elim
  |outgrown=>exact rr.elim
 -- Za call
 have hpre:(aj (cT ρ1 r.c) (aj (Sh g0) (Kx g0))).p R ((PH.one l (.loop lm)).un ((PH.one d (.deferred (some []))).un h)):=by
  have H0:(aj (HP.one l (.loop lm)) (aj (cT ρ1 r.c) (cT ρ1 r.rest))).p R ((PH.one l (.loop lm)).un ((PH.one d (.deferred (some []))).un h)):=
   ⟨PH.one l _,_,dl,PH.dC _ _,PH.cP dl,PH.cX _ _,ahi⟩
  refine ae (au (ak H0)) (λ_ h=>h) λy hy=>?_;exact toK g0 (r.fr.map (FV.den ρ1)) R y (uD QF ρ1).1 QE (ae hy (λ_ h=>UB (s:=r.start) (UE.trans hrn.symm) QF (List.prefix_refl _) h) λ_ h=>h)
 have hfn:=al0;obtain⟨fnn,amb,amc,amd⟩:=hfn;refine⟨l,[{target:=.collected d,args:= #[]}],w1,{target:=.fn (.func f) jy,args:= #[.func (.yield l) #[] #[]]},w1,f,#[.func (.yield l) #[] #[]]++jy,w1,?_,?_,λ_ _=>trivial,?_,wfw.dep,?_⟩
 ·exact run_enterLoop_outer fn a.tmps ps KQ b
 ·have UJ:a.eval g=.func (.func f) #[] jy:=by
   rw[cz ok.tm hgv];rw[<-ok.len]at hgb;rw[<-A.app hgb [.n d]];exact ahh
  simp only[resolve,rangeCall,UJ,Sem.run_bind,Deferred.ofValue,Sem.run_pure,Result.andThen_ok];simp[Act.eval]
 ·simp only[invoke,callFunc,program,Sem.run_bind,Sem.run,Result.andThen_ok,amb,amd,amc,Bool.false_eq_true,if_false];rfl
 refine wfw.calls ((al1 l Kx Jx adR w1 R _ F sl hpre).mono λe w' ⟨v,he,sm,R',h',lR,adU,ahp⟩=>?_);subst he;have ab6:Same w0 w':=ok.same.trans ((Same.alloc w _).trans ((Same.alloc _ _).trans sm))
 have ahq:∀x:cd,({a with defers:=[({target:=.collected d,args:= #[]}:Deferred)]++a.defers}:Act).defers=r.s1.df.map (rN (ρ1++x)):=λx=>by
  rw[G8];simp only[List.map_cons,List.cons_append,List.nil_append]
  have e1:rN (ρ1++x) (.v s.n)={target:=.collected d,args:= #[]}:=by
   simp only[rN,BR.den,ρ1,List.append_assoc,List.cons_append,List.nil_append];rw[<-ok.len,ou];rfl
  rw[e1,k1.rI];congr 1;have hb:=hsb;simp only[S.fm,Bool.and_eq_true]at hb
  exact List.map_congr_left λq hq=>by
   have:=List.all_eq_true.1 hb.1.2 q hq;rw[<-ok.len]at this;unfold rN;simp only[ρ1,List.append_assoc];rw[BR.app this,BR.app this]
 have htm:∀x:cd,Tm (ρ1++x) s.t {a with defers:=[({target:=.collected d,args:= #[]}:Deferred)]++a.defers}:=λx=>by
  have hb:=hsb;simp only[S.fm,Bool.and_eq_true]at hb;have tmb:(s.t.all λ|some v=>v.fm ρ.length|none=>true)=true:=by rw[ok.len];exact hb.1.1.1
  have:=ok.tm.app tmb ([.n d]++x);rw[<-List.append_assoc]at this;exact⟨this.1,this.2⟩
 have hcb:∀x:cd,cT (ρ1++x) r.c=cT ρ1 r.c:=λx=>rL (by rw[UE,<-hrn];exact al4) x;obtain⟨hc,hs,dcs,lc,ls,hC,o,ho⟩:=ahp
 -- Za ame is let go
 have drop:∀ {A:HP} {o2:Loop} {R2},(aj A (HP.one l (.loop o2))).p R' hs->R2=R'->∀y,∃hA,A.p R' hA/\w'.heap[l]? =some (.loop o2)/\Sat (w'.putObj l y) R' (hc.un hA) F/\hc.dj hA:=λH _ y=>by
  obtain⟨hA,hL,dA,lA,lL,pA,pL⟩:=H;have hLl:hL l=some (.loop _):=pL;have hin:h' l=some (.loop _):=ls _ _ (lL _ _ hLl);have hcl:hc l=none:=(dcs l).resolve_right (by rw[lL _ _ hLl];simp);have hAl:hA l=none:=(dA l).resolve_right (by rw[hLl];simp);have heap:=adU.oh _ _ hin;refine⟨hA,pA,heap,?_,dcs.le (PH.le.refl _) lA⟩;have t:=adU.bU (w':=w'.putObj l y) (y:=y) hin (λk hk=>World.putObj_heap_other hk) (World.putObj_heap_same (adU.oh.lt hin))
  have le:(hc.un hA).le (λk=>if k=l then some y else h' k):=λk o e=>by
   by_cases ek:k=l
   ·subst ek;rcases PH.oe e with e|e
    ·rw[hcl]at e;cases e
    ·rw[hAl]at e;cases e
   ·simp only[ek,if_false];rcases PH.oe e with e|e
    ·exact lc _ _ e
    ·exact ls _ _ (lA _ _ e)
  exact⟨t.uz.le (PH.le.refl _) le,t.He,t.xG.le le (PH.le.refl _),t.oR,t.oh.le le,t.oF,t.gl⟩
 cases o with
 |some gg=>
  obtain⟨hf,hSK⟩:=ho;obtain⟨ys,Lq,hI,hH⟩:=ofK gg R' hs hSK;obtain⟨hA,pA,heap,adV,dA⟩:=drop hH rfl (.loop {lm with state:=.exhausted});refine⟨none,_,run_endLoop heap (by simp[lm]),?_⟩;have ab7:=lG (A8 gg hf) Lq;rw[show ρ++[en.n w.heap.size]=ρ1 from rfl,List.drop_left]at ab7
  have QG:(ρ1++ys).length=r.hd.s.n:=by
   rw[List.length_append,UE,uE Lq,(uD QF ρ1).2.2,hrn]
  refine⟨ρ1++ys,r.Ue s,R',_,L,(List.prefix_append ρ _).trans (List.prefix_append _ _),lR,List.suffix_refl _,hl,⟨ahq ys,by show Tm _ r.hd.s.t _;rw[et];exact htm ys,QG,λx hx=>?_,?_,adV,ab6.trans (Same.putObj _ _ _)⟩,ab7 hI⟩
  ·have QI:x∈s.kn:=by rw[<-ek];exact hx
   have hb:=hsb;simp only[S.fm,Bool.and_eq_true]at hb;have hb:=List.all_eq_true.1 hb.2 x QI;rw[<-ok.len]at hb;simp only[ρ1,List.append_assoc];rw[E.app hb];exact ok.kn x QI
  ·refine pI.2 ⟨hc,hA,dA,PH.dC _ _,PH.cP dA,?_,pA⟩;rw[hcb];exact hC
 |none=>
  obtain⟨⟨⟨code,x⟩,ρ5,s5,L5⟩,⟨hj,p15,ab8,q3,q4,ahr,q6⟩,hH⟩:=ho;simp only at hj p15 ab8 q3 q4 ahr q6 hH;obtain⟨hA,pA,heap,adV,dA⟩:=drop hH rfl (.loop {lm with state:=.exhausted,pending:=some code});refine⟨some code,_,run_endLoop heap (by simp[lm]),?_⟩;obtain⟨z5,hz5⟩:=p15
  have okl:Ok ρ5 (r.DX s5) {a with defers:=[({target:=.collected d,args:= #[]}:Deferred)]++a.defers} w0 (w'.putObj l (.loop {lm with state:=.exhausted,pending:=some code})) R' (hc.un hA) F:=by
   refine⟨by rw[<-hz5];exact ahq z5,by show Tm ρ5 r.s1.t _;rw[G8,<-hz5];exact htm z5,ab8,ahr,pI.2 ⟨hc,hA,dA,PH.dC _ _,PH.cP dA,by rw[<-hz5,hcb];exact hC,pA⟩,adV,ab6.trans (Same.putObj _ _ _)⟩
  rcases hj with⟨⟨⟩⟩|⟨id,⟨⟨⟩⟩⟩
  ·exact wpIn_ret ⟨ρ5,r.DX s5,R',_,L5,(List.prefix_append ρ _).trans ⟨z5,hz5⟩,lR,q3,q4,okl,q6⟩
  ·exact wpIn_exit ⟨ρ5,r.DX s5,R',_,L5,(List.prefix_append ρ _).trans ⟨z5,hz5⟩,lR,q3,q4,okl,q6⟩
theorem vK{k}{run}{K}{ρ:cd}{s}{a}{w}{R h}{L}{G:Prop}(ok:Ok ρ s a w0 w R h F)(hl:L.length=s.dp)
 (fg:∀(dp:Nat) (L':List (cd->Prop)) (K':S->T),L'.length=dp->L<:+L'->(run {s with dp:=dp} K').den P post L' ρ->(∀a w,Nx ⟨P,post,w0,F,ρ,R,L'⟩ K' a w->Nx ⟨P,post,w0,F,ρ,R,L⟩ K a w)->G)
 (hd:(DY bt k s run K).den P post L ρ):G:=by
 unfold DY at hd;split at hd
 ·rename_i j hj;obtain⟨I,amg,hk⟩:=hd;refine fg (s.dp+1) _ _ (by simp[hl]) (List.suffix_cons _ _) amg λa' w' nx=>?_;obtain⟨ρ',s',R',h',L',p1,p2,p3,p4,p5,p6⟩:=nx;dsimp only at p1 p2 p3 p4 p5 p6;split at p6
  ·exact p6.1.elim
  ·rename_i Lr;rw[aq Lr]at hk;split at p6
   ·rename_i hc;obtain⟨pre,rfl⟩:=p3;rw[List.length_append,List.length_cons]at p4;have C7:s'.dp - (s.dp+1)=pre.length:=by omega
    simp only[T.den,C7,List.getElem?_append_right (Nat.le_refl _),Nat.sub_self,List.getElem?_cons_zero]at p6;have Lq:=(uD hc ρ').1;have Ac:=lG hk Lq;rw[List.drop_left]at Ac;have QF:=Lp ok.len hc p1 p5 (λx hx=>ok.kn x hx);exact⟨_,j.toS s,R',h',L,List.prefix_append ρ _,p2,List.suffix_refl _,hl,QF,Ac p6⟩
   ·exact p6.1.elim
 ·exact fg s.dp L K hl (List.suffix_refl _) hd λ_ _ n=>n
theorem j5{P}{b:Frame}{a}{k}{cs}{w}{c}:step P (lone (b.atR a (.code (.scope c)::k)) cs w)=.next (lone (b.atR a (.code c:: .inScope c::k)) cs w):=
 step_lone_go (by simp[stepG,stepG.exec,Frame.atR])
theorem Di{P}{b:Frame}{a}{k}{cs}{w}{c}:step P (lone (b.atR a (.inScope c::k)) cs w)=.next (lone (b.atR a k) cs w):=
 step_lone_go (by simp[stepG,stepG.exec,Frame.atR])
theorem Lt{P}{F}{n}{Q}{a}{w}{c}(h:c.wpIn F n P (λe a w=>match e with| .goto _=>False|e=>Q e a w) a w):(Code.scope c).wpIn F n P Q a w:=by
 intro b k cs hro hb hr;have h0:(lone (b.atR a (.code (.scope c)::k)) cs w).fenced P F:=fenced_calm hb hr rfl;obtain⟨e,a₁,w₁,hq,uF⟩:=h b (.inScope c::k) cs hro hb hr;cases e with
 |normal=>exact⟨.normal,a₁,w₁,hq,.head h0 j5 (StepsIn.trans uF (.one (fenced_calm hb hr rfl) Di))⟩
 |exit id=>
  have hx:exitTo id (.inScope c::k)=exitTo id k:=by simp[exitTo]
  exact⟨.exit id,a₁,w₁,hq,λk' hk=>.head h0 j5 (uF.1 k' (by rw[hx];exact hk)),
   λhr' hk=>let⟨k₁,h1,h2⟩:=uF.2 hr' (by rw[hx];exact hk);⟨k₁,h1,.head h0 j5 h2⟩⟩
 |goto l=>exact hq.elim
 |ret=>exact⟨_,a₁,w₁,hq,.of_steps (.one h0 j5) uF⟩
 |panic ch=>exact⟨_,a₁,w₁,hq,.of_steps (.one h0 j5) uF⟩
 |outgrown=>exact⟨_,a₁,w₁,hq,.of_steps (.one h0 j5) uF⟩
theorem Zb(hm:P.follows .mixedOrders=true/\NG P):∀(c:Code),IH P bt post c:=by
 intro c
 induction c with
 |skip=>intro Fr wf rd yW w0 F K ρ s a w R h L ok hl hd;exact wpIn_skip (Nx.mk ok hl hd)
 |exit id=>intro Fr wf rd yW w0 F K ρ s a w R h L ok hl hd;exact wpIn_exit (Nx.mk ok hl hd)
 |ret=>intro Fr wf rd yW w0 F K ρ s a w R h L ok hl hd;exact wpIn_ret (Nx.mk ok hl hd)
 |region id ops draw=>
  intro Fr wf rd yW w0 F K ρ s a w R h L ok hl hd;cases draw with
  |false=>
   simp only[exec]at hd;split at hd
   ·rename_i hc;split at hd
    ·refine vK ok hl (λdp L' K' tZ _ C7 hK=>?_) hd;have Ti:Ok ρ {s with dp:=dp} a w0 w R h F:=⟨ok.rI,ok.tm,ok.len,ok.kn,ok.hp,ok.rO,ok.same⟩;exact wpIn_region_list (Ot wf hm.2 (K:=K') ops.toList (λo ho=>List.all_eq_true.1 hc o ho) Ti tZ C7 λa w n=>hK a w n)
    ·exact wpIn_region_list (Ot wf hm.2 (K:=λs=>K .oY s) ops.toList (λo ho=>List.all_eq_true.1 hc o ho) ok hl hd λa w n=>n)
   ·exact hd.elim
  |true=>
   simp only[exec]at hd;split at hd
   ·rename_i hc;simp only[Bool.and_eq_true]at hc;have o3:Ok ρ s a w0 {w with drawn:=w.drawn+1} R h F:=⟨ok.rI,ok.tm,ok.len,ok.kn,ok.hp,ok.rO.drew _,ok.same.trans (Same.drew w _)⟩;refine vK o3 hl (λdp L' K' tZ _ C7 hK=>?_) hd;have Ti:Ok ρ {s with dp:=dp} a w0 {w with drawn:=w.drawn+1} R h F:=⟨o3.rI,o3.tm,o3.len,o3.kn,o3.hp,o3.rO,o3.same⟩;exact wpIn_region_any hm.1 (A3 _ _ _ _ (Y5 wf hm.2 (λo ho=>List.all_eq_true.1 hc.2 o (by simpa using ho)) (K:=K') (ρ0:=ρ) (s:={s with dp:=dp}) hc.1.1.1 (by rw[ok.len];exact hc.1.1.2) ((Qv ops).trans hc.1.2) (λc a w h=>h) ops.size (List.prefix_refl _) (λx hx=>(List.mem_filter.1 hx).1) Ti tZ C7 λa w n=>hK a w n))
   ·exact hd.elim
 |seq x y ihx ihy=>
  intro Fr wf rd yW w0 F K ρ s a w R h L ok hl hd;refine wpIn_seq (wpIn_mono (ihx wf yW ok hl hd) λe a' w' r=>?_);cases e<;>try (first|exact r|exact r.elim)
  obtain⟨ρ',s',R',h',L',p1,p2,p3,p4,p5,p6⟩:=r;exact wpIn_mono (ihy wf yW p5 p4 p6) λe a'' Ou r=>r.up p1 p2 p3
 |cond c x y ihx ihy=>
  intro Fr wf rd yW w0 F K ρ s a w R h L ok hl hd;simp only[exec]at hd;split at hd
  ·rename_i e he;have hc:=cz ok.tm he;refine vK ok hl (λdp L' K' tZ vz C7 hK=>?_) hd;have ok1:Ok ρ {s with dp:=dp} a w0 w R h F:=⟨ok.rI,ok.tm,ok.len,ok.kn,ok.hp,ok.rO,ok.same⟩;obtain⟨kn,o3,hh⟩:=Fy ok1 C7;refine wpIn_cond (t:=(e.den ρ).bool) hc ?_;rcases hh with⟨hb,hh⟩|⟨hb,hh⟩
   ·rw[hb];refine wpIn_mono (ihx wf yW o3 tZ hh) λex a' w' r=>?_;cases ex<;>first|exact hK _ _ r|exact Nx.up (List.prefix_refl _) (PH.le.refl _) vz r|exact r.elim
   ·rw[hb];refine wpIn_mono (ihy wf yW o3 tZ hh) λex a' w' r=>?_;cases ex<;>first|exact hK _ _ r|exact Nx.up (List.prefix_refl _) (PH.le.refl _) vz r|exact r.elim
  ·exact hd.elim
 |label l=>intro Fr wf rd yW w0 F K ρ s a w R h L ok hl hd;exact wpIn_label (Nx.mk ok hl hd)
 |scope b ih=>
  intro Fr wf rd yW w0 F K ρ s a w R h L ok hl hd;refine Lt (wpIn_mono (ih wf yW ok hl hd) λe a' w' r=>?_);cases e<;>first|exact r|exact r.elim
 |block id b ih=>
  intro Fr wf rd yW w0 F K ρ s a w R h L ok hl hd;simp only[exec]at hd;refine vK ok hl (λdp L' K' tZ vz C7 hK=>?_) hd;have o3:Ok ρ {s with dp:=dp,blk:=id} a w0 w R h F:=⟨ok.rI,ok.tm,ok.len,ok.kn,ok.hp,ok.rO,ok.same⟩;refine wpIn_block (wpIn_mono (ih wf yW o3 tZ C7) λe a' w' r=>?_);cases e with
  |exit i=>
   simp only[Exit.inBlock]
   by_cases hi:i=id
   ·subst hi;rw[aB rfl];obtain⟨ρ',s',R',h',L'',p1,p2,p3,p4,p5,p6⟩:=r;simp only[if_true]at p6;exact hK _ _ ⟨ρ',s',R',h',L'',p1,p2,p3,p4,p5,p6⟩
   ·rw[aq hi];obtain⟨ρ',s',R',h',L'',p1,p2,p3,p4,p5,p6⟩:=r;simp only[aq hi]at p6;exact Nx.up (List.prefix_refl _) (PH.le.refl _) vz ⟨ρ',s',R',h',L'',p1,p2,p3,p4,p5,p6⟩
  |normal=>exact hK _ _ r
  |ret=>exact Nx.up (List.prefix_refl _) (PH.le.refl _) vz r
  |_=>exact r.elim
 |loop b ih=>
  intro Fr wf rd yW w0 F K ρ s a w R h L ok hl hd;simp only[exec]at hd;split at hd
  ·rename_i hc;simp only[Bool.and_eq_true,decide_eq_true_eq,Nat.blt_eq]at hc;obtain⟨⟨⟨hc,AA⟩,aml⟩,hdp⟩:=hc;obtain⟨I,μ,QE,hall⟩:=hd;have hss:sorted (oX bt b s).ss ((Ht s.n (oX bt b s).s s).map (FV.den ρ)):=(uD hc ρ).1;have hkn:∀x∈(oX bt b s).s.kn,(x.1.den ρ).bool=x.2:=by rw[aml];exact ok.kn
   refine Dg (λn a w=>∃xs R' h',R.le R'/\sorted (oX bt b s).ss xs/\pE.app _ I xs/\pE.app _ μ xs=n/\Ok (ρ++xs) (oX bt b s).s a w0 w R' h' F) ?_ _ a w
    ⟨_,R,h,PH.le.refl _,hss,QE,rfl,Lp ok.len hc (List.prefix_refl _) ok hkn⟩
   rintro n a w ⟨xs,R',h',lR,Lq,hI,rfl,ok1⟩;have hb:=lG hall Lq;rw[List.drop_left]at hb;have hb:=hb hI;refine wpIn_mono (ih wf yW ok1 (by simp[hdp,hl]) hb) λe a' w' r=>?_;cases e<;>try (first|exact Nx.up (List.prefix_append ρ xs) lR (List.suffix_cons _ _) r|exact r.elim)
   obtain⟨ρ',s',R'',h'',L',p1,p2,p3,p4,p5,p6⟩:=r;simp only at p6;split at p6
   ·rename_i QH;have p1':=(List.prefix_append ρ xs).trans p1;have amm:sorted (oX bt b s).ss ((Ht s.n (oX bt b s).s s').map (FV.den ρ')):=(uD QH ρ').1;obtain⟨pre,rfl⟩:=p3;simp only at p4 p6;rw[List.length_append,List.length_cons]at p4;have C7:s'.dp - (oX bt b s).s.dp=pre.length:=by rw[hdp];omega
    simp only[T.den,C7,List.getElem?_append_right (Nat.le_refl _),Nat.sub_self,List.getElem?_cons_zero]at p6;exact⟨_,p6.2,(Ht s.n (oX bt b s).s s').map (FV.den ρ'),R'',h'',lR.trans p2,amm,p6.1,rfl,Lp ok.len QH p1' p5 hkn⟩
   ·exact p6.1.elim
  ·exact hd.elim
 |rangeFunc g ps KQ b iha ihb=>
  intro Fr wf rd yW w0 F K ρ s a w R h L ok hl hd;simp only[exec]at hd;split at hd
  ·exact hd.elim
  rename_i gv hgv;split at hd
  ·rename_i hok;have hf:rd=false:=by cases rd with|false=>rfl|true=>simp[Rg.ok]at hok
   subst hf;rw[yW rfl];exact rU iha ihb ok hl hgv hok hd
  ·exact hd.1.elim
 |_=>intro Fr wf rd yW w0 F K ρ s a w R h L ok hl hd;exact hd.elim
def uG(tmps:dI):ResultVar->Sem Value
 | .tmp t=>pure (tmps.getD t undef)
 | .cell a t=>do loadVar t (<-asAddr (tmps.getD a undef))
theorem QJ{ρ:cd}{s}{a}{w}{R h}(ok:Ok ρ s a w0 w R h F){r}{x}(e:AP P s r=some x):(uG a.tmps r).run P w=.ok (x.den ρ) w:=by
 cases r with
 |tmp t=>
  simp only[AP]at e;split at e
  ·rename_i y hy;cases e;have:=jz ok.tm hy;simp only[Act.eval]at this;simp only[uG,this,Sem.run_pure,V.den]
  ·cases e
 |cell ad t=>
  simp only[AP]at e;split at e
  ·rename_i r off hx;split at e
   ·rename_i l ty hf;have:=cz ok.tm hx;simp only[Act.eval]at this;have h1:=AY (P:=P) ok.rO (AU (AR (DZ hf) ok.hp)) e;simp only[Instr.loadAt,Instr.sureAddr,Sem.run_bind,Sem.run_pure,Result.andThen_ok]at h1;simp only[uG,this,A.den,asAddr,Sem.run_bind,Sem.run_pure,Result.andThen_ok,h1]
   ·cases e
  ·cases e
theorem vM{ρ:cd}{s:S}{a:Act}{w:World}{R h:PH}(ok:Ok ρ s a w0 w R h F):∀ {l:List ResultVar} {m:List W},mapM' (AP P s) l=some m->
 (l.mapM (uG a.tmps)).run P w=.ok (m.map (W.den ρ)) w
 |[],m,e=>by cases e;rfl
 |x::r,m,e=>by
  simp only[mapM']at e;split at e
  ·rename_i y hy;split at e
   ·rename_i q hq;cases e;rw[List.mapM_cons,Sem.run_bind,QJ ok hy];simp only[Result.andThen_ok,Sem.run_bind,vM ok hq,Sem.run_pure,List.map_cons]
   ·cases e
  ·cases e
theorem Lu fn(tmps:dI):results fn tmps=(do
 let vs<-fn.results.mapM (uG tmps)
 pure (if h:vs.size=1 then vs[0]else .tuple vs)):=by
 unfold results;congr 1
theorem UK{fn}{ρ:cd}{s}{a}{w}{R h}{L}(ok:Ok ρ s a w0 w R h F){ks}(hd:(leave P fn ks s).den P post L ρ):
 ∃v,(results fn a.tmps).run P w=.ok v w/\HP.aT (cT ρ s.h) (post v):=by
 have hlv:∀v:V,(Ft v ks s).den P post L ρ->HP.aT (cT ρ s.h) (post (v.den ρ)):=λv hv=>by
  unfold Ft at hv;simp only at hv;split at hv
  ·rename_i hc;exact(HP.aT.of λ_ _ H=>nv hc H).trans hv
  ·exact hv.elim
 unfold leave at hd
 have UL:∀m,mapM' (AP P s) fn.results.toList=some m->(results fn a.tmps).run P w=.ok (if h:(m.map (W.den ρ)).toArray.size=1 then(m.map (W.den ρ)).toArray[0]else .tuple (m.map (W.den ρ)).toArray) w:=λm hm=>by
  have h1:=vM (P:=P) ok hm;rw[Lu,Array.mapM_eq_mapM_toList,Sem.run_bind]
  have h2:(Functor.map List.toArray (List.mapM (uG a.tmps) fn.results.toList):Sem dI).run P w=.ok (m.map (W.den ρ)).toArray w:=by
   show(List.mapM (uG a.tmps) fn.results.toList >>= λl=>pure l.toArray:Sem dI).run P w=_;rw[Sem.run_bind,h1];rfl
  rw[h2];rfl
 split at hd
 ·rename_i x hm;exact⟨_,UL _ hm,hlv _ hd⟩
 ·rename_i m hx hm;refine⟨_,UL _ hm,?_⟩
  have hne:¬(m.map (W.den ρ)).toArray.size=1:=λe=>by
   simp only[List.size_toArray,List.length_map]at e;obtain⟨y,rfl⟩:=List.length_eq_one_iff.1 e;exact hx y rfl
  rw[dif_neg hne];exact hlv _ hd
 ·exact hd.elim
theorem vN{fn}{tmps:dI}{Rp}{ρ:cd}{R F}:∀(df:List BR) {hp:Hp} {w:World} {h:PH},Fu df=true->(df.all λr=>hp.contains (.b r,.rI))=true->Sat w R h F->(cT ρ hp).p R h->
 (∀w' h',Same w w'->Sat w' R h' F->(cT ρ (hp.filter λx=> !Qx df x)).p R h'->∃v,(results fn tmps).run P w'=.ok v w'/\Rp (.returned v) w')->LeavesInM Fence.wide 0 P fn tmps Rp (df.map (rN ρ)) .returning w
 |[],hp,w,h,_,_,s,p,hf=>by
  obtain⟨v,h1,h2⟩:=hf w h (Same.refl w) s (by rw[List.filter_eq_self.2 (λ_ _=>by simp[Qx])];exact p);exact⟨v,h1,h2⟩
 |r::rest,hp,w,h,hn,ha,s,p,hf=>by
  simp only[Fu,Bool.and_eq_true,Bool.not_eq_true',List.all_cons]at hn ha;have Ib:(Key.b r,C.rI)∈hp:=by simpa using ha.1
  obtain⟨h1,h2,d,l1,l2,p1,p2⟩:=mf (λx=>decide (x=(Key.b r,C.rI))) p;have hc:h1 (r.den ρ)=some (.deferred (some [])):=AR (x:=(Key.b r,C.rI)) (List.mem_filter.2 ⟨Ib,by simp⟩) p1;have hh:h (r.den ρ)=some (.deferred (some [])):=l1 _ _ hc;have h2n:h2 (r.den ρ)=none:=(d _).resolve_left (by rw[hc];simp);have t:=s.bU (w':=w.putObj (r.den ρ) (.deferred none)) (y:=.deferred none) hh (λk hk=>World.putObj_heap_other hk) (World.putObj_heap_same (s.oh.lt hh))
  have le:h2.le (λk=>if k=r.den ρ then some (.deferred none)else h k):=λk o e=>by
   by_cases ek:k=r.den ρ
   ·subst ek;rw[h2n]at e;cases e
   ·simp only[ek,if_false];exact l2 _ _ e
  have s2:Sat (w.putObj (r.den ρ) (.deferred none)) R h2 F:=⟨t.uz.le (PH.le.refl _) le,t.He,t.xG.le le (PH.le.refl _),t.oR,t.oh.le le,t.oF,t.gl⟩;refine⟨by simp,.inl ⟨r.den ρ,_,rfl,run_takeDeferred (s.oh _ _ hh),vN rest hn.2 ?_ s2 p2 λw' h' sm s3 p3=>hf w' h' ((Same.putObj _ _ _).trans sm) s3 ?_⟩⟩
  ·refine List.all_eq_true.2 λq hq=>?_;have hne:q≠r:=λe=>by subst e;simp at hn;exact hn.1 hq
   have:=List.all_eq_true.1 ha.2 q hq;simp only[List.contains_eq_mem,decide_eq_true_eq,Nat.blt_eq]at this⊢;exact List.mem_filter.2 ⟨this,by simp[hne]⟩
  ·rw[List.filter_filter]at p3
   have e:(λx=> !Qx (r::rest) x)=λx:Key×C=>(!Qx rest x&& !decide (x=(Key.b r,C.rI))):=funext λx=>by
    simp only[Qx,List.any_cons,Bool.not_or,Bool.and_comm]
   rw[e];exact p3
theorem cC(hm:P.follows .mixedOrders=true/\NG P){f}{fn}(hf:P.funcs[f]? =some fn){args}{h0}{ρ:cd}{t}(ht:tree P bt fn args h0 ρ.length=t)(hd:t.den P post [] ρ):
 az P f (args.map (W.den ρ)).toArray (cT ρ h0) post:=by
 intro w R h F s hp;subst ht;unfold tree at hd;split at hd
 ·rename_i c hc;refine(callsIn_wide (n:=0)).1 (callsIn_of_wp_marks hf hc trivial ?_)
  have Ia:∀(i:Nat) (v:V),(args.map (λw=>some (V.w w))++List.replicate (fn.ntmps - args.length) (some (V.gY [])))[i]? =some (some v)->
   ((args.map (W.den ρ)).toArray++Array.replicate (fn.ntmps - (args.map (W.den ρ)).toArray.size) undef)[i]? =some (v.den ρ):=λi v hi=>by
   rw[List.getElem?_append]at hi;rw[Array.getElem?_append];simp only[List.length_map,List.size_toArray]at hi⊢;split at hi
   ·rename_i hlt;rw[aB hlt];simp only[List.getElem?_map,Option.map_eq_some_iff,Option.some.injEq]at hi;obtain⟨x,hx,rfl⟩:=hi;simp[hx,V.den]
   ·rename_i hlt;rw[aq hlt];rw[List.getElem?_replicate]at hi;rw[Array.getElem?_replicate];split at hi
    ·rename_i Lv;rw[aB Lv];simp only[Option.some.injEq]at hi;subst hi;rfl
    ·cases hi
  have ok:Ok ρ ⟨args.map (λw=>some (.w w))++List.replicate (fn.ntmps - args.length) (some (.gY [])),h0,ρ.length,[],[],0,0,[]⟩ {tmps:=(args.map (W.den ρ)).toArray++Array.replicate (fn.ntmps - (args.map (W.den ρ)).toArray.size) undef,defers:=[]} w w R h F:=
   ⟨rfl,⟨by simp,Ia⟩,rfl,(λx hx=>by cases hx),hp,s,Same.refl w⟩
  have iW:∀(K:S->T) (a':Act) (w':World),(∀s,K s=Fv P fn (h0.map (·.1)++adE bt (h0.map (·.1)) s++adF P bt fn s) s)->Nx ⟨P,post,w,F,ρ,R,[]⟩ K a' w'->
   LeavesInM Fence.wide 0 P fn a'.tmps (λe Ou=>∃v,e=.returned v/\Same w Ou/\∃R' h',R.le R'/\Sat Ou R' h' F/\(post v).p R' h') a'.defers .returning w':=λK a' w' hK r=>by
   obtain⟨ρ',s',R',h',L',p1,p2,p3,p4,p5,p6⟩:=r;simp only at p1 p2 p3 p4 p5 p6;rw[hK]at p6;unfold Fv at p6;split at p6
   ·rename_i hdf;simp only[ag3,Bool.and_eq_true]at hdf;rw[p5.rI];refine vN s'.df hdf.1 hdf.2 p5.rO p5.hp λOu h'' sm rO p=>?_;have Ti:Ok ρ' (Uh s') {a' with defers:=[]} w Ou R' h'' F:=⟨rfl,⟨p5.tm.1,p5.tm.2⟩,p5.len,p5.kn,p,rO,p5.same.trans sm⟩;obtain⟨v,hv,he⟩:=UK Ti p6;obtain⟨R2,h2,q1,q2,q3,q4,q5⟩:=he R' h'' rO.uz p;exact⟨v,hv,v,rfl,Ti.same,R2,h2,p2.trans q1,rO.aT q1 q2 q3 q4,q5⟩
   ·exact p6.elim
  refine wpIn_mono (Zb hm c (.inl rfl) (rd:=false) (λ_=>rfl) ok rfl hd) λe a' w' r=>?_;cases e<;>try exact r.elim
  ·exact iW _ a' w' (λ_=>rfl) r
  ·obtain⟨ρ',s',R',h',L',p1,p2,p3,p4,p5,p6⟩:=r;exact p6.elim
  ·exact iW _ a' w' (λ_=>rfl) r
 ·exact hd.elim
end
def QK(P:Program)(f:FuncId):Func:=(P.funcs[f]?).getD default
theorem be{P}{post}{f}{ρ:cd} bt args h0 n{Y}(y:Y)
 (e:T.den P post (tree P bt (QK P f) args h0 n) [] ρ=Y:=by(conv=>lhs;(conv=>(arg 3;reduce));simp(maxSteps:=3000000) only[T.den,E.prop,E.den,RX.look,F1.app,F2.app,pG,rH,lE,DP,Hf,N2,TF,cT,jH,V.den,W.den,A.den,BR.den,SA.den,FV.den,K0,KR,N3,rv,pE.app,List.map_cons,List.map_nil,List.cons_append,List.nil_append,List.drop_succ_cons,List.drop_zero,List.length_cons,List.length_nil,Nat.zero_add,Nat.reduceAdd,Int.neg_neg,Bool.not_not,List.append_nil,Nat.add_zero,List.getElem?_cons_zero,List.getElem?_cons_succ,Decidable.not_not,TI,UInt8.reduceOfNat,Int.reduceNegSucc,Int.reduceOfNat])) (hn:ρ.length=n:=by rfl) (hm:P.follows .mixedOrders=true/\NG P:=by exact mixed):
 az P f (args.map (W.den ρ)).toArray (cT ρ h0) post:=by
 subst hn;cases hf:P.funcs[f]? with
 |none=>
  have h1:QK P f=default:=by simp[QK,hf]
  rw[h1]at e;have h2:T.den P post (tree P bt default args h0 ρ.length) [] ρ:=e▸y;exact absurd h2 (by simp[tree,show(default:Func).body=none from rfl,T.den])
 |some fn=>
  have h1:QK P f=fn:=by simp[QK,hf]
  rw[h1]at e;exact cC hm hf rfl (e▸y)
theorem uH{X Y:Prop}(y:Y)(e:X=Y:=by(conv=>lhs;simp(maxSteps:=3000000) only[T.den,E.prop,E.den,RX.look,F1.app,F2.app,pG,rH,lE,DP,Hf,N2,TF,cT,jH,V.den,W.den,A.den,BR.den,SA.den,FV.den,K0,KR,N3,rv,pE.app,List.map_cons,List.map_nil,List.cons_append,List.nil_append,List.drop_succ_cons,List.drop_zero,List.length_cons,List.length_nil,Nat.zero_add,Nat.reduceAdd,Int.neg_neg,Bool.not_not,List.append_nil,Nat.add_zero,List.getElem?_cons_zero,List.getElem?_cons_succ,Decidable.not_not])):X:=e▸y
end RX
section
open RX
theorem amo:(prog.funcs.toList.all λfn=> !(fn.name== "runtime.NumGoroutine"))=true:=by kernel_rfl
theorem mixed:prog.follows .mixedOrders=true/\NG prog:=⟨by kernel_rfl,λf fn h=>by
 simpa using List.all_eq_true.1 amo fn (Array.mem_toList_iff.2 (Array.mem_of_getElem? h))⟩
def bY(e:TypeId)(size:Nat)(a:aG)(n c:Nat)(xs:List Value):HP:=
 ⟨λ_ h=>xs.length=n*size/\((a=none/\n=0/\c=0)\/∃g cur,a=some ⟨g,0,none⟩/\h g=some (.cells cur e (0,0))/\n<=c/\c<=maxLen/\cur.size=c*size/\cur.toList.take (n*size)=xs),
  λ_ l ⟨h1,h2⟩=>⟨h1,h2.imp id λ⟨g,cur,h3,h4,h5⟩=>⟨g,cur,h3,l _ _ h4,h5⟩⟩⟩
def bN(size:Nat)(a:aG)(n:Nat)(xs:List Value):HP:=
 ⟨λR _=>xs.length=n*size/\(n≠0->∃g off cur ty fr,a=some ⟨g,off,none⟩/\R g=some (.cells cur ty fr)/\(cur.toList.drop off).take xs.length=xs),
  λl _ ⟨h1,h2⟩=>⟨h1,λhn=>let⟨g,off,cur,ty,fr,h3,h4,h5⟩:=h2 hn;⟨g,off,cur,ty,fr,h3,l _ _ h4,h5⟩⟩⟩
def Rd(S:HP)(a:aG)(xs:List Value):Prop:=∀w R h F,Sat w R h F->S.p R h->∀(j:Nat) (u:Value),xs[j]? =some u->∃g off,a=some ⟨g,off,none⟩/\w.cell? ⟨g,off+j,none⟩=some u
theorem mV{w:World}{g}{cur:dI}{ty}{fr}(h:w.heap[g]? =some (.cells cur ty fr)) k:w.cell? ⟨g,k,none⟩=cur[k]? :=by
 unfold World.cell?;rw[h];rfl
theorem bY.rd e size a n c xs:Rd (bY e size a n c xs) a xs:=by
 rintro w R h F s ⟨hl,hh⟩ j u hj;rcases hh with⟨_,rfl,_⟩|⟨g,cur,rfl,hg,h1,h2,h3,rfl⟩
 ·rw[List.getElem?_eq_none (by rw[hl];omega)]at hj;cases hj
 ·refine⟨g,0,rfl,?_⟩;rw[mV (s.oh _ _ hg)];rw[List.getElem?_take]at hj;split at hj
  ·simpa using hj
  ·cases hj
theorem bN.rd size a n xs:Rd (bN size a n xs) a xs:=by
 rintro w R h F s ⟨hl,hh⟩ j u hj;have hn:n≠0:=λe=>by subst e;rw[List.getElem?_eq_none (by rw[hl];omega)]at hj;cases hj
 obtain⟨g,off,cur,ty,fr,rfl,hR,hc⟩:=hh hn;refine⟨g,off,rfl,?_⟩;rw[mV (s.oR _ _ hR)];rw[<-hc,List.getElem?_take]at hj;split at hj
 ·rw[List.getElem?_drop]at hj;simpa using hj
 ·cases hj
theorem eQ g(cs:dI) ty:Rd (HP.one g (.cells cs ty (0,0))) (some ⟨g,0,none⟩) cs.toList:=λw R h F s hg j u hj=>by
 refine⟨g,0,rfl,?_⟩;rw[mV (s.oh _ _ hg)];simpa using hj
theorem Rd.left{A B}{a}{xs}(r:Rd A a xs):Rd (aj A B) a xs:=λw R h F s ⟨h1,h2,d,l1,l2,p,_⟩=>r w R h1 _ (s.cut d l1 l2) p
theorem Rd.right{A B}{a}{xs}(r:Rd B a xs):Rd (aj A B) a xs:=λw R h F s ⟨h1,h2,d,l1,l2,_,p⟩=>r w R h2 _ (s.cut d.symm l2 l1) p
theorem bY.eP e size a n c xs:HP.aT (bY e size a n c xs) (bN size a n xs):=by
 rintro R h d ⟨hl,hh⟩;rcases hh with⟨rfl,rfl,_⟩|⟨g,cur,rfl,hg,h1,h2,h3,rfl⟩
 ·exact⟨R,h,PH.le.refl _,d,PH.le.refl _,λ_ _ e=>.inl e,hl,λhn=>absurd rfl hn⟩
 ·obtain⟨R',h',q1,q2,q3,q4,q5⟩:=HP.aT.eP g (.cells cur e (0,0)) R h d hg;exact⟨R',h',q1,q2,q3,q4,hl,λ_=>⟨g,0,cur,e,(0,0),rfl,q5,by rw[List.drop_zero,hl]⟩⟩
theorem bY.nil e size:∀R h,(bY e size none 0 0 []).p R h:=λ_ _=>⟨by simp,.inl ⟨rfl,rfl,rfl⟩⟩
theorem bN.nil size a:∀R h,(bN size a 0 []).p R h:=λ_ _=>⟨by simp,λh=>absurd rfl h⟩
theorem bY.len{e}{size}{a}{n c}{xs}{R h}(H:(bY e size a n c xs).p R h):xs.length=n*size:=H.1
theorem bY.le{e}{size}{a}{n c}{xs}{R h}(H:(bY e size a n c xs).p R h):n<=c:=by
 rcases H.2 with⟨_,e1,e2⟩|⟨g,cur,_,_,h1,_⟩
 ·omega
 ·exact h1
theorem bN.some{size}{a}{n}{xs}{R h}(H:(bN size a n xs).p R h)(hn:0<n):a.isSome=true:=by
 obtain⟨g,off,_,_,_,rfl,_⟩:=H.2 (by omega);rfl
theorem bY.some{e}{size}{a}{n c}{xs}{R h}(H:(bY e size a n c xs).p R h)(hn:0<n):a.isSome=true:=by
 rcases H.2 with⟨_,e1,_⟩|⟨g,_,rfl,_⟩
 ·omega
 ·rfl
theorem Sat.grown{w w'}{R h F}(s:Sat w R h F){row}(hrow:∀g,row=some g->h g≠none)(hg:w.grownBy w' row){g'}{o}(ho:w'.heap[g']? =some o)(hn:row=some g'\/w.heap.size<=g'):
 Sat w' R (PH.one g' o) F:=by
 have hR:R g'=none:=by
  rcases hn with e|e
  ·exact(s.uz g').resolve_right (hrow g' e)
  ·cases hq:R g' with
   |none=>rfl
   |some y=>have:=s.oR.lt hq;omega
 have hF:F g'=none:=by
  rcases hn with e|e
  ·exact(s.xG g').resolve_left (hrow g' e)
  ·cases hq:F g' with
   |none=>rfl
   |some y=>have:=s.oF.lt hq;omega
 have YV:∀g:PH,g.own w->(∀k,row=some k->g k=none)->g.own w':=λg og gd k y e=>by
  rw[hg.block k (og.lt e) (λe'=>by rw[gd k e'.symm]at e;cases e)];exact og k y e
 refine⟨λk=>?_,s.He,λk=>?_,YV R s.oR λk e=>(s.uz k).resolve_right (hrow k e),λk y e=>?_,YV F s.oF λk e=>(s.xG k).resolve_left (hrow k e),s.gl⟩
 ·by_cases e:k=g'
  ·subst e;exact .inl hR
  ·exact .inr (aq e)
 ·by_cases e:k=g'
  ·subst e;exact .inr hF
  ·exact .inl (aq e)
 ·obtain⟨rfl,rfl⟩:=PH.pF e;exact ho
theorem bN.join{size}{a}{n}{xs}{B}{R h h'}(H:(bN size a n xs).p R h)(K:B.p R h'):(aj (bN size a n xs) B).p R h':=⟨PH.cV,h',PH.eL _,PH.dB _,PH.le.refl _,H,K⟩
theorem j6{size}{a}{n}{xs}{B}{R h h'}(H:(bN size a n xs).p R h)(K:B.p R h'):(aj B (bN size a n xs)).p R h':=ak (bN.join H K)
def o4(t ty:TypeId)(u v:Value):Sem Next:=do pure (.value (<-Builtin.append_ #[t,t] ty #[u,v]))
theorem ic{ρ:cd}{i j:Nat}{t ty}{u v}(h:i≠j):fp ρ (.call ⟨.builtin .append,#[.tmp i,.tmp j],#[t,t]⟩) ty [(i,u),(j,v)]=o4 t ty (u.den ρ) (v.den ρ):=by
 have h':(i==j)=false:=by simpa using h
 simp[fp,execOp,resolve,ib,invoke,builtin,h',o4]
theorem fy t ty e i z(ht:prog.underlying t=some (.slice e))(hi:prog.info? e=some i)(hz:i.zero=some z)(hzs:z.cells.size=i.size)(hsz:0<i.size)
 (a:aG)  n c  xs  S  ad  m c2  news (hr:Rd S (some ad) news) (hl:news.length=m*i.size) (h1:∀u∈news,u.oneCell'=true)
 (h63:n+m<=maxLen) (hb:(n+m)*i.bytes<=140737488355328):
 aR prog (o4 t ty (.slice a n c) (.slice (some ad) m c2)) (aj (bY e i.size a n c xs) S)
  (λv=>aE λa'=>aE λc'=>aA (v=.slice a' (n+m) c') (aj (bY e i.size a' (n+m) c' (xs++news)) S)):=by
 rintro w R h F s ⟨x1,x2,d,l1,l2,⟨lj,hx⟩,hS⟩
 have hown:w.ownsRow 0 e i.size (.slice a n c) n xs:=by
  refine⟨lj,?_⟩;rcases hx with⟨rfl,rfl,rfl⟩|⟨g,cur,rfl,hg,q⟩
  ·exact .inl ⟨rfl,rfl⟩
  ·exact .inr ⟨g,c,cur,rfl,Nat.zero_le _,s.oh _ _ (l1 _ _ hg),q⟩
 have yW:=hr w R x2 _ (s.cut d.symm l2 l1) hS
 have hnews:∀j u,news[j]? =some u->w.cell? (ad.add j)=some u:=λj u hj=>by
  obtain⟨g,off,e1,e2⟩:=yW j u hj;cases e1;rw[addr_add];exact e2
 obtain⟨v',w',fg,ho',hg,xP,hblk⟩:=run_append_own_at (P:=prog) w 0 t ty e i z i.size i.bytes ht hi hz rfl rfl hzs hsz (.slice a n c) n xs hown ad m c2 news hl hnews h1 h63 hb (Nat.zero_le _);obtain⟨tZ,hsh⟩:=ho';have hS':Same w w':=⟨hg.os,hg.tape,hg.output,hg.size⟩;have s1:=s.cut d l1 l2;have hdF:x2.dj F:=s.xG.le l2 (PH.le.refl _);rcases hsh with⟨rfl,h0⟩|⟨g',cap,cur,rfl,_,hcell,q1,q2,q3,q4⟩
 ·have YF:n=0:=by omega
  have Zc:m=0:=by omega
  have e1:=xP.1 rfl;cases e1.1;have vO:∀k,k<w.heap.size->w'.heap[k]? =w.heap[k]? :=λk hk=>hg.block k hk (by simp[Value.ownBlock]);have Lw:∀g:PH,g.own w->g.own w':=λg og k y e=>by rw[vO k (og.lt e)];exact og k y e
  refine⟨_,_,w',by unfold o4;rw[Sem.run_bind,fg];rfl,rfl,hS',R,x1.un x2,PH.le.refl _,⟨(PH.ol (s.uz.le (PH.le.refl _) l1).symm (s.uz.le (PH.le.refl _) l2).symm).symm,s.He,PH.ol (s.xG.le l1 (PH.le.refl _)) hdF,Lw _ s.oR,Lw _ (s.oh.le (PH.N0 l1 l2)),Lw _ s.oF,s.gl⟩,none,0,?_,x1,x2,d,PH.dC _ _,PH.cP d,?_,hS⟩
  ·rw[YF,Zc]
  ·exact⟨tZ,.inl ⟨rfl,by omega,rfl⟩⟩
 ·have s2:=Sat.grown s1 (row:=(Value.slice a n c).ownBlock) (λg hgr=>by
   rcases hx with⟨rfl,_⟩|⟨g0,amp,rfl,hg0,_⟩
   ·cases hgr
   ·cases hgr;rw[hg0];simp) hg hcell (by
    rcases hblk with e|e
    ·exact .inl e.symm
    ·cases e;exact .inr (Nat.le_refl _))
  obtain⟨s3,d3⟩:=s2.join hdF;exact⟨_,_,w',by unfold o4;rw[Sem.run_bind,fg];rfl,rfl,hS',R,_,PH.le.refl _,s3,some ⟨g',0,none⟩,cap,rfl,PH.one g' (.cells cur e (0,0)),x2,d3,PH.dC _ _,PH.cP d3,⟨tZ,.inr ⟨g',cur,rfl,PH.cX _ _,q1,q2,q3,q4⟩⟩,hS⟩
def bO(t:TypeId)(p:Value):Sem Next:=do pure (.value (<-Instr.loadAt t p))
theorem uI{ρ:cd}{i:Nat}{t ty}{u}:fp ρ (.load t (.tmp i)) ty [(i,u)]=bO t (u.den ρ):=by
 simp[fp,execOp,ib,bO]
theorem D6{w}{t}{g off}{d}(hd:prog.underlying t=some d)(vs:List Value)(hz:iA prog t=vs.length)(hv:∀j v,vs[j]? =some v->w.cell? ⟨g,off+j,none⟩=some v):
 (bO t (.pointer (some ⟨g,off,none⟩))).run prog w=.ok (.value (if gZ prog t then .agg vs.toArray else(vs[0]?).getD undef)) w\/(gZ prog t=false/\vs.length≠1):=by
 obtain⟨i,hi⟩:=mA hd
 by_cases ha:gZ prog t=true
 ·left;unfold bO;rw[Sem.run_bind];simp only[Instr.loadAt,Instr.sureAddr,Sem.run_bind,Sem.run_pure,Result.andThen_ok,loadVar,RX.iB hd,ha,if_true,RX.run_sizeOf hi,hz,RX.run_loadCells vs hv]
 ·have Fw:gZ prog t=false:=by simpa using ha
  by_cases hl:vs.length=1
  ·left;obtain⟨v,rfl⟩:=List.length_eq_one_iff.1 hl;have h0:=hv 0 v rfl;rw[Nat.add_zero]at h0;unfold bO;rw[Sem.run_bind];simp only[Instr.loadAt,Instr.sureAddr,Sem.run_bind,Sem.run_pure,Result.andThen_ok,loadVar,RX.iB hd,Fw,Bool.false_eq_true,if_false,RX.run_load h0];rfl
  ·exact .inr ⟨Fw,hl⟩
theorem cU{t}{d}(hd:prog.underlying t=some d)(ha:gZ prog t=false)(hz:iA prog t=1){S}{a}{xs}(hr:Rd S a xs){k off}{v}(hk:xs[k+off]? =some v):
 aM prog (bO t (.pointer (a.map λx=>(x.add k).add off))) S v:=λw R h F s hS=>by
 obtain⟨g,o,rfl,hc⟩:=hr w R h F s hS (k+off) v hk;simp only[Option.map_some,addr_add]
 rcases D6 (w:=w) (g:=g) (off:=o+k+off) hd [v] (by simpa using hz) (λj u hj=>by
  cases j with
  |zero=>simp only[List.getElem?_cons_zero,Option.some.injEq]at hj;subst hj;rw[show o+k+off+0=o+(k+off) by omega];exact hc
  |succ j=>simp at hj)with e|e
 ·rw[e,ha];rfl
 ·simp at e
theorem pN{t}{d}(hd:prog.underlying t=some d)(ha:gZ prog t=true){S}{a}{xs}(hr:Rd S a xs){k off}{vs:List Value}(hz:iA prog t=vs.length)(hp:0<vs.length)(hk:∀j v,vs[j]? =some v->xs[k+off+j]? =some v):
 aM prog (bO t (.pointer (a.map λx=>(x.add k).add off))) S (.agg vs.toArray):=λw R h F s hS=>by
 obtain⟨v0,hv0⟩:∃v,vs[0]? =some v:=⟨vs[0],by simp[hp]⟩;obtain⟨g,o,rfl,_⟩:=hr w R h F s hS (k+off+0) v0 (hk 0 v0 hv0);simp only[Option.map_some,addr_add]
 rcases D6 (w:=w) (g:=g) (off:=o+k+off) hd vs hz (λj u hj=>by
  obtain⟨g',o',e,hc⟩:=hr w R h F s hS (k+off+j) u (hk j u hj);cases e;rw[show o+k+off+j=o+(k+off+j) by omega];exact hc)with e|e
 ·rw[e,ha];rfl
 ·rw[ha]at e;exact absurd e.1 (by simp)
def i6(t:TypeId)(x:Value)(lo hi mx:Option Value):Sem Next:=do pure (.value (<-Instr.sliceAt t x lo hi mx))
def iv(x:Option Nat):Option Value:=x.map λn=>an (n:Int)
theorem pO{w}{n y:Nat}{c}(h:n<=y):(Instr.sliceBound (an (n:Int)) y c).run prog w=.ok n w:=by
 have:(0:Int)<=n/\(n:Int)<=y:=⟨by omega,by omega⟩;simp[Instr.sliceBound,asIntOf,this]
theorem gp{t e}(ht:prog.underlying t=some (.slice e)){i}(hi:prog.info? e=some i) S(a:aG) n c lo Oo mx(h1:lo.getD 0<=Oo.getD n)(h2:Oo.getD n<=mx.getD c)(h3:mx.getD c<=c)(h4:mx.isSome=true->Oo.isSome=true):
 aM prog (i6 t (.slice a n c) (iv lo) (iv Oo) (iv mx)) S (.slice (if mx.getD c=lo.getD 0 then a else a.map (·.add (lo.getD 0*iA prog e))) (Oo.getD n - lo.getD 0) (mx.getD c - lo.getD 0)):=λw R h F s hS=>by
 unfold i6;rw[Sem.run_bind]
 have hb:(Instr.sliceBounds true n c (iv lo) (iv Oo) (iv mx)).run prog w=.ok (lo.getD 0,Oo.getD n,mx.getD c) w:=by
  unfold Instr.sliceBounds iv;cases mx<;>cases Oo<;>cases lo<;>simp only[Option.getD_some,Option.getD_none,Option.isSome_some,Option.isSome_none]at h1 h2 h3 h4<;>first|(have h5:=h4 trivial;cases h5;done)|simp[Sem.run_bind,pO h1,pO h2,pO h3,pO (Nat.zero_le _)]
 have:(Instr.sliceAt t (.slice a n c) (iv lo) (iv Oo) (iv mx)).run prog w=.ok (.slice (if mx.getD c=lo.getD 0 then a else a.map (·.add (lo.getD 0*iA prog e))) (Oo.getD n - lo.getD 0) (mx.getD c - lo.getD 0)) w:=by
  simp only[Instr.sliceAt,Instr.slice,Sem.run_bind,RX.run_underlying ht,Result.andThen_ok,hb,RX.run_sizeOf hi,Sem.run_pure]
 rw[this];rfl
theorem bN.sub{size}{a}{n}{xs}{R h}(H:(bN size a n xs).p R h) lo hi c(h1:lo<=hi)(h2:hi<=n)(h3:hi<=c):
 (bN size (if c=lo then a else a.map (·.add (lo*size))) (hi - lo) ((xs.drop (lo*size)).take ((hi - lo)*size))).p R h:=by
 obtain⟨hl,hh⟩:=H
 have hlen:((xs.drop (lo*size)).take ((hi - lo)*size)).length=(hi - lo)*size:=by
  rw[List.length_take,List.length_drop,hl,<-Nat.sub_mul];exact Nat.min_eq_left (Nat.mul_le_mul_right _ (by omega))
 refine⟨hlen,λhn=>?_⟩;obtain⟨g,off,cur,ty,fr,rfl,hR,hc⟩:=hh (by omega);rw[aq (by omega)];simp only[Option.map_some,addr_add];refine⟨g,off+lo*size,cur,ty,fr,rfl,hR,?_⟩;rw[hlen,<-hc,List.drop_take,List.drop_drop,List.take_take,hl];congr 1;rw[<-Nat.sub_mul];exact(Nat.min_eq_left (Nat.mul_le_mul_right _ (by omega))).symm
def cv(t:TypeId)(p x:Value):Sem Next:=do Instr.storeAt t p x;pure .skip
theorem pP{t}{i}(hi:prog.info? t=some i) e size a n c xs k off x vs(hx:x.cells=vs.toArray)(hz:i.size=vs.length)(hp:0<vs.length)(h1:∀v∈vs,v.oneCell'=true)(hk:k+off+vs.length<=n*size):
 aR prog (cv t (.pointer (a.map λx=>(x.add k).add off)) x) (bY e size a n c xs) (λv=>aA (v=cE) (bY e size a n c (xs.take (k+off)++vs++xs.drop (k+off+vs.length)))):=by
 rintro w R h F s ⟨hl,hh⟩;rcases hh with⟨_,rfl,_⟩|⟨g,cur,rfl,hg,q1,q2,q3,q4⟩
 ·rw[Nat.zero_mul]at hk;omega
 ·have hw:=s.oh _ _ hg;simp only[Option.map_some,addr_add];have hsz:n*size<=cur.size:=by rw[q3];exact Nat.mul_le_mul_right _ q1
  have hst:=run_storeCells_at (P:=prog) g (0+k+off) e vs 0 cur w hw (by omega) h1
  have fg:(cv t (.pointer (some ⟨g,0+k+off,none⟩)) x).run prog w=.ok .skip (w.setRow g (cur.toList.take (0+k+off+0)++vs++cur.toList.drop (0+k+off+0+vs.length)).toArray):=by
   unfold cv;simp only[Instr.storeAt,Instr.sureAddr,Sem.run_bind,Sem.run_pure,Result.andThen_ok,storeVar,RX.run_sizeOf hi,hx,List.size_toArray,iA,hi,hz,ne_eq,not_true_eq_false,if_false,hst]
  refine⟨.skip,_,_,fg,rfl,⟨rfl,rfl,rfl,by simp⟩,R,_,PH.le.refl _,s.bU (y:=.cells (cur.toList.take (0+k+off+0)++vs++cur.toList.drop (0+k+off+0+vs.length)).toArray e (0,0)) hg (λj hj=>setRow_other w g j _ hj) (setRow_heap w g cur _ e (0,0) hw),rfl,?_,.inr ⟨g,_,rfl,aB rfl,q1,q2,?_,?_⟩⟩
  ·simp only[List.length_append,List.length_take,List.length_drop,hl];omega
  ·simp only[List.size_toArray,List.length_append,List.length_take,List.length_drop,Array.length_toList];omega
  ·subst q4;have e1:(0+k+off+0)=k+off:=by omega
   rw[e1];simp only[List.take_append,List.length_append,List.length_take,Array.length_toList,List.take_take,List.drop_take,List.length_drop];have m1:min (k+off) cur.size=k+off:=by omega
   have m2:min (n*size) (k+off)=k+off:=by omega
   have m3:min (k+off) (n*size)=k+off:=by omega
   rw[m1,m2,m3,List.take_of_length_le (by omega:vs.length<=n*size - (k+off))]
theorem yX{ρ:cd}{i j:Nat}{t ty}{u v}(h:i≠j):fp ρ (.store t (.tmp i) (.tmp j)) ty [(i,u),(j,v)]=cv t (u.den ρ) (v.den ρ):=by
 have h':(i==j)=false:=by simpa using h
 simp[fp,execOp,ib,h',cv]
end
namespace RX
-- adX.Clone[[]Zd,Zd]:ρ:=[.a sa,.n sl,.n sc,.p sP]
abbrev UM:Hp:=[((.b 0),(.cells [(.s 1)] 130)),(1,4)]
abbrev ab9:List So:=[.a,.n,.n,.p]
def Ic:T:=
(.call 108 [.ptr 0 0,.a (.int .u64 (.o1 (.wrap .u64) (.of 6))),.k 4] UM ab9 (.gY []) [(.b 0,.cells [.s 9] 130),(9,12)]
(.op
(.call ⟨.builtin .append,#[.tmp 13,.tmp 14],#[37,37]⟩) 37 [(13,.s 9),(14,.s 5)] [(9,12),(5,8)] ab9 (.s 13) [(13,16),(5,8)]
(.ret (.gY []) [(.b 0,.cells [.s 13] 130),(13,16),(5,8)])))
theorem Ie:tree prog {} Tryz.f54 [.ptr 0 0,.s 5] [(.b 0,.cells [.s 1] 130),(1,4),(5,8)] 9=Ic:=by kernel_rfl
end RX
section
open RX
def eX(b:UInt8):Value:=.int .u8 b.toNat
theorem FC(l:ax):∀u∈l.map eX,u.oneCell'=true:=λu hu=>by
 obtain⟨b,_,rfl⟩:=List.mem_map.1 hu;rfl
abbrev dS(a:aG)(n c:Nat)(l:ax):HP:=bY 5 1 a n c (l.map eX)
abbrev bE(a:aG)(n:Nat)(l:ax):HP:=bN 1 a n (l.map eX)
structure bX(S:HP)(a:aG)(n:Nat)(xs:List Value):Prop where
 rd:Rd S a xs
 none:∀R h,S.p R h->a=none->n=0
theorem bX.ro size a n xs:bX (bN size a n xs) a n xs:=
 ⟨bN.rd size a n xs,λR h H e=>Classical.byContradiction λhn=>by subst e;have:=bN.some H (by omega);cases this⟩
theorem ow e size a n c xs:bX (bY e size a n c xs) a n xs:=
 ⟨bY.rd e size a n c xs,λR h H e=>Classical.byContradiction λhn=>by subst e;have:=bY.some H (by omega);cases this⟩
theorem yY:(prog.info? 5).map (λi=>(i.zero,i.size,i.bytes))=some (some (.int .u8 0),1,1):=by kernel_rfl
theorem qB:prog.underlying 37=some (.slice 5):=by kernel_rfl
theorem oB(a:aG) n c l(S:HP)(b:aG)(m c2:Nat)(q:ax)(hr:bX S b m (q.map eX))(hm:q.length=m)(YB:m≠0->b.isSome=true)(hb:n+m<=140737488355328):
 aR prog (o4 37 37 (.slice a n c) (.slice b m c2)) (aj (dS a n c l) S)
  (λv=>aE λa'=>aE λc'=>aA (v=.slice a' (n+m) c') (aj (dS a' (n+m) c' (l++q)) S)):=by
 obtain⟨i,hi,h1,h2,h3⟩:=info_parts yY;cases b with
 |some ad=>
  have:=fy 37 37 5 i (.int .u8 0) qB hi h1 (by rw[h2];rfl) (by omega) a n c (l.map eX) S ad m c2 (q.map eX) hr.rd (by simp[hm,h2]) (FC q) (by unfold maxLen;omega) (by rw[h3];omega);rw[h2]at this;simp only[dS,List.map_append];exact this
 |none=>
  have Zc:m=0:=Classical.byContradiction λh=>by have:=YB h;cases this
  subst Zc;obtain rfl:q=[]:=List.eq_nil_of_length_eq_zero hm;rintro w R h F s ⟨x1,x2,d,l1,l2,H,hS⟩;have H0:=H;obtain⟨lj,hx⟩:=H
  have hnc:n<=c:=by
   rcases hx with⟨_,rfl,rfl⟩|⟨g,cur,_,_,hnc,_⟩
   ·exact Nat.le_refl _
   ·exact hnc
  refine⟨.value (.slice a n c),_,w,?_,rfl,Same.refl w,R,h,PH.le.refl _,s,a,c,rfl,x1,x2,d,l1,l2,by rw[List.append_nil];exact H0,hS⟩;cases a<;>simp[o4,Builtin.append_,run_underlying qB,sizeOf,typeInfo,hi,h2,Builtin.lenOf,Builtin.firstCells,hnc,storeCells]
theorem iC S a n c l(hr:bX S a n (l.map eX))(hl:l.length=n)(hb:n<=140737488355328):
 az prog 98 #[.slice a n c] S (λv=>aE λa'=>aE λc'=>aA (v=.slice a' n c') (aj (dS a' n c' l) S)):=by
 refine be (ρ:=[.a a,.n n,.n c,.p S]) {} [(.s 0)] [(0,3)] 4 ?_;refine⟨λha=>.of λR h H=>?_,λha x=>?_⟩
 ·have hn:n=0:=hr.none R h H (by simpa using ha);subst hn;obtain rfl:l=[]:=List.eq_nil_of_length_eq_zero hl;exact⟨none,0,rfl,aW H|>λH=>ae H (λx _=>bY.nil _ _ R x) λ_ h=>h⟩
 ·rw[ic (by decide)];refine uH ?_;have:=oB (some ⟨x,0,none⟩) 0 0 [] S a n c l hr hl (λ_=>by simpa[Option.isSome_iff_ne_none]using ha) (by omega);refine this.aK (λR h H=>ae H (λy hy=>⟨rfl,.inr ⟨x,#[],rfl,hy,Nat.le_refl _,by unfold maxLen;omega,rfl,rfl⟩⟩) λ_ h=>h) ?_;rintro v R h ⟨a',c',rfl,H⟩;rw[Nat.zero_add,List.nil_append]at H;exact⟨a',n,c',dS a' n c' l,by rw[Nat.zero_add],.of λR' h' H'=>⟨a',c',rfl,ak H'⟩,H⟩
theorem gi S a n c l(hr:bX S a n (l.map eX))(hl:l.length=n)(hb:n<=140737488355328):
 az prog 98 #[.slice a n c] S (λv=>aE λa'=>aE λc'=>aA (v=.slice a' n c') (aj (bE a' n l) S)):=
 (iC S a n c l hr hl hb).post λv=>λR h d ⟨a',c',e,H⟩=>by
   obtain⟨R1,h1,q1,q2,q3,q4,H1⟩:=(HP.aT.aj (bY.eP _ _ _ _ _ _) S) R h d H;exact⟨R1,h1,q1,q2,q3,q4,a',c',e,H1⟩
def dE(b:Nat)(l:ax):HP:=aE λa=>aE λc=>aj (HP.one b (.cells #[.slice a l.length c] 130)) (dS a l.length c l)
theorem If n S:az prog 178 #[an n] S (λv=>aA (v=an (min (max n 0) 8)) S):=by
 have:az prog 178 #[an n] tt (λv=>HP.pure (v=an (min (max n 0) 8))):=by
  refine be (ρ:=[.i n]) {} [0] [] 1 ?_;exact .of λ_ _ _=>trivial
 exact(this.frame S).aK (λ_ _ H=>aW H) λv R h H=>⟨ai H,ah H⟩
theorem ny b l x(hb:l.length<140737488355328):
 az prog 53 #[pt b,.int .u8 x.toNat] (dE b l) (λv=>aA (v=cE) (dE b (l++[x]))):=by
 unfold dE;refine az.ex λa=>az.ex λc=>?_;refine be (ρ:=[.n b,.a a,.n l.length,.n c,.p (dS a l.length c l),.i x.toNat]) {} [(.ptr 0 0),(.a (.int .u8 5))] UM 6 ?_;intro y;rw[ic (by decide)];refine uH ?_;refine(oB a l.length c l _ (some ⟨y,0,none⟩) 1 1 [x] ⟨eQ y #[eX x] _,λ_ _ _ e=>by cases e⟩ rfl (λ_=>rfl) (by omega)).wk ?_;rintro v R h ⟨a',c',rfl,H⟩;refine⟨a',l.length+1,c',dS a' (l.length+1) c' (l++[x]),rfl,.of λR h H=>⟨trivial,a',c',?_⟩,H⟩;rw[List.length_append];exact H
def qC(v n j:Nat):UInt8:=UInt8.ofNat (v / 2^(8*(n - 1 - j)))
def eg(v n:Nat):ax:=(List.range n).map (qC v n)
theorem Ig(v n j:Nat)(hj:j<n)(hn:n<=8):IntKind.u8.wrap ((v:Int).fdiv (2^(min (8*((n:Int) - 1 - (j:Int))).toNat IntKind.u64.bits)))=((qC v n j).toNat:Int):=by
 have e1:(8*((n:Int) - 1 - (j:Int))).toNat=8*(n - 1 - j):=by omega
 rw[e1,Nat.min_eq_left (by simp[IntKind.bits];omega)]
 have e2:((v:Int).fdiv (2^(8*(n - 1 - j))))=((v / 2^(8*(n - 1 - j)):Nat):Int):=by
  rw[Int.fdiv_eq_ediv_of_nonneg _ (Int.pow_nonneg (by decide))];simp
 rw[e2];simp only[IntKind.wrap,IntKind.bits,IntKind.signed,qC,UInt8.toNat_ofNat',Bool.false_and,Bool.false_eq_true,if_false];omega
theorem UN v n j(hj:j<n):(eg v n).take (j+1)=(eg v n).take j++[qC v n j]:=by
 rw[List.take_succ_eq_append_getElem (by simpa[eg]using hj)];congr 2;simp[eg]
theorem bF v n:(eg v n).length=n:=by simp[eg]
theorem fB b l(v:Nat)(n:Nat)(hn:n<=8)(hb:l.length+8<140737488355328):
 az prog 108 #[pt b,.int .u64 v,an n] (dE b l) (λr=>aA (r=cE) (dE b (l++eg v n))):=by
 refine be (ρ:=[.n b,.p (dE b l),.i v,.i n]) {hv:=[(0,[(.b 0)])]} [(.ptr 0 0),(.a (.int .u64 2)),3] [(.b 0,1)] 4 ?_;refine(If n tt).wk ?_;rintro r R h ⟨rfl,H⟩;refine⟨min (max n 0) 8,rfl,?_,H⟩;rw[show min (max (n:Int) 0) 8=n by omega];refine⟨λk p=>∃i:Nat,k=i/\i<=n/\HP.aT p (dE b (l++(eg v n).take i)),λk p=>n - k.toNat,⟨0,rfl,Nat.zero_le _,by simpa using HP.aT.refl _⟩,?_⟩;rintro k p ⟨i,rfl,hi,hp⟩;refine⟨λhlt=>?_,λlH=>?_⟩
 ·have gP:i<n:=by omega
  have r:∀x:Int,-100<=x->x<=100->IntKind.i64.min<=x/\x<=IntKind.i64.max:=λx h1 h2=>by simp[IntKind.min,IntKind.max,IntKind.signed,IntKind.bits];omega
  refine⟨r _ (by omega) (by omega),λ_=>⟨r _ (by omega) (by omega),λ_=>⟨r _ (by omega) (by omega),λ_=>⟨by omega,λ_=>?_⟩⟩⟩⟩;rw[Ig v n i gP hn];refine(ny b _ (qC v n i) (by simp[bF];omega)).bv (hp.trans (.of λ_ _=>aD)) λr=>.of λR h H=>?_;obtain⟨rfl,H2⟩:=ai H;refine⟨dE b (l++(eg v n).take i++[qC v n i]),rfl,⟨r _ (by omega) (by omega),λ_=>?_⟩,H2⟩;refine⟨⟨i+1,by omega,gP,?_⟩,by dsimp only;omega⟩;rw[UN v n i gP,<-List.append_assoc];exact HP.aT.refl _
 ·have:i=n:=by omega
  subst this;refine hp.trans (.of λR h H=>⟨trivial,?_⟩);rw[List.take_of_length_le (by rw[bF];exact Nat.le_refl _)]at H;exact H
theorem pQ b l a n c q S(hr:bX S a n (q.map eX))(hq:q.length=n)(hs:n≠0->a.isSome=true)(hb:l.length+n+100<140737488355328):
 az prog 54 #[pt b,.slice a n c] (aj (dE b l) S) (λr=>aA (r=cE) (aj (dE b (l++eg n 4++q)) S)):=by
 unfold dE;refine(az.ex (A:=λwa=>aE λwc=>aj (aj (HP.one b (.cells #[.slice wa l.length wc] 130)) (dS wa l.length wc l)) S) λwa=>az.ex λwc=>?_).aK (λR h ⟨h1,h2,d,l1,l2,⟨wa,wc,H⟩,hS⟩=>⟨wa,wc,h1,h2,d,l1,l2,H,hS⟩) λ_ _ _ h=>h;refine(cC (ρ:=[.n b,.a wa,.n l.length,.n wc,.p (dS wa l.length wc l),.a a,.n n,.n c,.p S]) mixed Tryz.func54 Ie ?_).aK (λ_ _=>au) λ_ _ _ h=>h;unfold Ic;refine uH ?_;have hw:IntKind.u64.wrap (n:Int)=n:=eZ ⟨by simp[IntKind.min,IntKind.signed],by simp[IntKind.max,IntKind.signed,IntKind.bits];omega⟩;rw[hw];refine(fB b l n 4 (by omega) (by omega)).aK (λR h H=>⟨wa,wc,H⟩) ?_;rintro r R h ⟨rfl,xa,xc,H⟩;refine⟨xa,_,xc,dS xa (l++eg n 4).length xc (l++eg n 4),rfl,?_,H⟩;rw[ic (by decide)];refine uH ?_;refine(oB xa _ xc (l++eg n 4) S a n c q hr hq hs (by simp[bF];omega)).wk ?_;rintro v R h ⟨a',c',rfl,H⟩;refine⟨a',_,c',dS a' _ c' _,rfl,.of λR h H=>⟨trivial,?_⟩,H⟩;have e:(l++eg n 4).length+n=(l++eg n 4++q).length:=by simp[hq];omega
 rw[e]at H;exact ae (aC H) (λ_ h=>⟨a',c',h⟩) λ_ h=>h
theorem kF b l(hb:l.length<140737488355328):
 az prog 57 #[pt b] (dE b l) (λv=>aE λa'=>aE λc'=>aA (v=.slice a' l.length c') (aj (dE b l) (dS a' l.length c' l))):=by
 unfold dE;refine az.ex λwa=>az.ex λwc=>?_;refine be (ρ:=[.n b,.a wa,.n l.length,.n wc,.p (dS wa l.length wc l)]) {} [(.ptr 0 0)] UM 5 ?_;refine(iC _ wa _ wc l (ow _ _ _ _ _ _) rfl (by omega)).wk ?_;rintro v R h ⟨a',c',rfl,H⟩;exact⟨a',_,c',dS a' _ c' l,dS wa l.length wc l,rfl,.of λR h H=>⟨a',c',rfl,ae (aC H) (λ_ h=>⟨wa,wc,h⟩) λ_ h=>h⟩,H⟩
end
section
def cw:List HP->HP
 |[]=>tt
 |[x]=>x
 |x::y::r=>aj x (cw (y::r))
theorem cQ{x}{r}{R h}:(cw (x::r)).p R h↔(aj x (cw r)).p R h:=by
 cases r with
 |nil=>exact⟨λH=>aD H,λH=>ai H⟩
 |cons y q=>exact Iff.rfl
theorem pR{l m}(p:l.Perm m):∀ {R h:PH},(cw l).p R h->(cw m).p R h:=by
 induction p with
 |nil=>exact λH=>H
 |cons x _ ih=>exact λH=>cQ.2 (ae (cQ.1 H) (λ_ h=>h) λ_ h=>ih h)
 |swap x y r=>
  exact λH=>cQ.2 (ae (HP.swap (ae (cQ.1 H) (λ_ h=>h) λ_ h=>cQ.1 h)) (λ_ h=>h) λ_ h=>cQ.2 h)
 |trans _ _ ih1 ih2=>exact λH=>ih2 (ih1 H)
theorem Ih f:∀(S' S:List Nat) {R h:PH},S'.Nodup->(∀i∈S',i∈S)->(cw (S.map f)).p R h->(cw (S'.map f)).p R h
 |[],_,_,_,_,_,_=>trivial
 |i::r,S,R,h,hn,hs,H=>by
  have hp:(S.map f).Perm (f i::(S.erase i).map f):=((List.perm_cons_erase (hs i (List.mem_cons_self ..))).map f);have H1:=cQ.1 (pR hp H);rw[List.nodup_cons]at hn;exact cQ.2 (ae H1 (λ_ h=>h) λ_ h=>Ih f r (S.erase i) hn.2 (λj hj=>(List.mem_erase_of_ne (λe=>hn.1 (by rw[<-e];exact hj))).2 (hs j (List.mem_cons_of_mem _ hj))) h)
theorem HP.pick l(idx:List Nat)(hn:idx.Nodup)(hb:idx.all (λi=>decide (i<l.length))=true){R h}(H:(cw l).p R h):(cw (idx.map λi=>l.getD i tt)).p R h:=by
 refine Ih (λi=>l.getD i tt) idx (List.range l.length) hn (λi hi=>List.mem_range.2 (by simpa using List.all_eq_true.1 hb i hi)) ?_
 have e:(List.range l.length).map (λi=>l.getD i tt)=l:=by
  apply List.ext_getElem
  ·simp
  ·intro i h1 h2;simp at h1;simp[h1]
 rw[e];exact H
theorem gq{l m}{R h}:(cw (l++m)).p R h↔(aj (cw l) (cw m)).p R h:=by
 induction l generalizing h with
 |nil=>exact⟨λH=>aW H,λH=>ah H⟩
 |cons x r ih=>
  rw[List.cons_append,cQ];constructor
  ·intro H;exact ae (aC (ae H (λ_ h=>h) λ_ h=>ih.1 h)) (λ_ h=>cQ.2 h) λ_ h=>h
  ·intro H;exact ae (au (ae H (λ_ h=>cQ.1 h) λ_ h=>h)) (λ_ h=>h) λ_ h=>ih.2 h
end
section
open RX
def cr(i:Int):Value:=an i
theorem UO(l:List Int):∀u∈l.map cr,u.oneCell'=true:=λu hu=>by
 obtain⟨b,_,rfl⟩:=List.mem_map.1 hu;rfl
abbrev kv(a:aG)(n c:Nat)(l:List Int):HP:=bY 3 1 a n c (l.map cr)
abbrev vP(a:aG)(n:Nat)(l:List Int):HP:=bN 1 a n (l.map cr)
theorem jS:(prog.info? 3).map (λi=>(i.zero,i.size,i.bytes))=some (some (an 0),1,8):=by kernel_rfl
theorem Ba:prog.underlying 23=some (.slice 3):=by kernel_rfl
theorem rV:prog.underlying 3=some (.int .i64):=by kernel_rfl
theorem Dj:gZ prog 3=false:=by kernel_rfl
theorem Oz:iA prog 3=1:=by kernel_rfl
theorem vQ(a:aG) n c l S ad m c2 q(hr:Rd S (some ad) (q.map cr))(hm:q.length=m)(hb:n+m<=1000000000):
 aR prog (o4 23 23 (.slice a n c) (.slice (some ad) m c2)) (aj (kv a n c l) S)
  (λv=>aE λa'=>aE λc'=>aA (v=.slice a' (n+m) c') (aj (kv a' (n+m) c' (l++q)) S)):=by
 obtain⟨i,hi,h1,h2,h3⟩:=info_parts jS;have:=fy 23 23 3 i (an 0) Ba hi h1 (by rw[h2];rfl) (by omega) a n c (l.map cr) S ad m c2 (q.map cr) hr (by simp[hm,h2]) (UO q) (by unfold maxLen;omega) (by rw[h3];omega);rw[h2]at this;simp only[kv,List.map_append];exact this
theorem FD{ρ:cd}{i:Nat}{x}{S}{a}{n c}{l:ax}(hx:x.den ρ=.slice a n c)(hr:bX S a n (l.map eX))(hl:l.length=n):
 aM prog (fp ρ (.convert 37 9 (.tmp i)) 9 [(i,x)]) S (.string ⟨l.toArray⟩):=λw R h F s hS=>by
 subst hl
 have hc:(convert 37 9 (.slice a l.length c)).run prog w=.ok (.string ⟨l.toArray⟩) w:=by
  cases a with
  |none=>
   have h0:l.length=0:=hr.none R h hS rfl;rw[h0,List.length_eq_zero_iff.1 h0];exact Lib.run_convert_nil_bytes w _ _ 5 0 Tryz.underlying37 Tryz.underlying5 Tryz.underlying9
  |some y=>
   refine run_convert_bytes_back w _ _ 5 y c l Tryz.underlying37 Tryz.underlying5 Tryz.underlying9 (λj hj=>?_);obtain⟨g,off,e1,e2⟩:=hr.rd w R h F s hS j (eX l[j]) (by simp[hj]);cases e1;rw[addr_add,e2];rfl
 have:(fp ρ (.convert 37 9 (.tmp i)) 9 [(i,x)]).run prog w=.ok (.value (.string ⟨l.toArray⟩)) w:=by
  simp[fp,execOp,ib,hx,Sem.run_bind,hc]
 exact this
theorem g9{t}{i}(hi:prog.info? t=some i) e b(cs:dI) off x vs(hx:x.cells=vs.toArray)(hz:i.size=vs.length)(hp:0<vs.length)(h1:∀v∈vs,v.oneCell'=true)(hk:off+vs.length<=cs.size)(hm:1<=maxLen):
 aR prog (cv t (.pointer (some ⟨b,off,none⟩)) x) (HP.one b (.cells cs e (0,0))) (λv=>aA (v=cE) (HP.one b (.cells (cs.toList.take off++vs++cs.toList.drop (off+vs.length)).toArray e (0,0)))):=by
 have:=pP hi e cs.size (some ⟨b,0,none⟩) 1 1 cs.toList 0 off x vs hx hz hp h1 (by omega);simp only[Option.map_some,addr_add,Nat.zero_add]at this;refine this.aK (λR h H=>⟨by simp,.inr ⟨b,cs,rfl,H,Nat.le_refl _,hm,by omega,by rw[Nat.one_mul];exact List.take_of_length_le (by simp)⟩⟩) λv R h ⟨rfl,hl,H⟩=>⟨rfl,?_⟩;rcases H with⟨h0,_⟩|⟨g,cur,e1,hg,q1,q2,q3,q4⟩
 ·cases h0
 ·cases e1;show h b=_;rw[hg]
  have:cur.toList=cs.toList.take off++vs++cs.toList.drop (off+vs.length):=by
   rw[<-q4,List.take_of_length_le (by rw[Array.length_toList,q3];omega)]
  rw[<-this]
theorem uJ{α:Type}:∀(l:List α) (k:Nat) (x:α),l[k]? =some x->(x::l.eraseIdx k).Perm l
 |y::l,0,x,h=>by simp at h;subst h;exact List.Perm.refl _
 |y::l,k+1,x,h=>by
  have:=uJ l k x (by simpa using h);exact(List.Perm.swap y x _).trans (this.cons y)
 |[],_,_,h=>by simp at h
theorem nz{l}{k}{x}(hk:l[k]? =some x){R h}(H:(cw l).p R h):(aj x (cw (l.eraseIdx k))).p R h:=
 cQ.1 (pR (uJ l k x hk).symm H)
theorem kG{l:List HP}{k}{x}(hk:k<l.length){R h}(H:(aj x (cw (l.eraseIdx k))).p R h):(cw (l.set k x)).p R h:=by
 have:=uJ (l.set k x) k x (by simp[hk]);rw[List.eraseIdx_set_eq]at this;exact pR this (cQ.2 H)
theorem aR.FE{P}{s}{A}{B}{v}(r:aM P s A v)(post:∀R h,A.p R h->(B v).p R h):aR P s A B:=λw R h F st a=>⟨.value v,v,w,r w R h F st a,rfl,Same.refl w,R,h,PH.le.refl _,st,post R h a⟩
theorem Lx{o}{α:Type}{A:α->HP}{B}(t:∀x,aR prog o (A x) B):aR prog o (aE A) B:=λw R h F s ⟨x,a⟩=>t x w R h F s a
theorem yZ{o}{A}{B}{φ:Prop}(t:φ->aR prog o A B):aR prog o (aA φ A) B:=λw R h F s a=>t a.1 w R h F s a.2
end
section
theorem q8{H:Type}{P:Program}{e:TypeId}:∀ {l:List (DataW H)} {d:DataW H},d∈l->∀n∈d.weights P e,n∈DataW.weightsAll P e l
 |x::l,d,h,n,hn=>by
  unfold DataW.weightsAll;rcases List.mem_cons.1 h with h|h
  ·subst h;exact List.mem_append.2 (.inl hn)
  ·exact List.mem_append.2 (.inr (q8 h n hn))
def Small{H:Type}(P:Program)(t:TypeId)(d:DataW H):Prop:=∀n∈d.weights P t,n<=reachBytes
section
variable {H:Type}{P:Program}{t e:TypeId}
theorem Small.arg{ts}{ds}(h:(DataW.weightsEach P ts ds).all (· <=reachBytes)=true){j:Nat}{d:DataW H}(ht:ts[j]? =some t)(hd:ds[j]? =some d):Small P t d:=λn hn=>by
 have:=List.all_eq_true.1 h n (DataW.weights_mem_each ht hd n hn);simpa using this
theorem Small.elem{elems spare}(h:Small P t (.slice elems spare))(hu:P.underlying t=some (.slice e)){d:DataW H}(hd:d∈elems):Small P e d:=λn hn=>by
 refine h n ?_;simp only[DataW.weights,hu];exact List.mem_cons_of_mem _ (List.mem_append.2 (.inl (q8 hd n hn)))
theorem Small.part{fs}{parts}(h:Small P t (.agg parts))(hu:P.underlying t=some (.struct fs)){i:Nat}{f}{d:DataW H}(hf:fs[i]? =some f)(hd:parts[i]? =some d):Small P f.type d:=λn hn=>by
 refine h n ?_;simp only[DataW.weights,hu];exact DataW.weights_mem_each (by rw[List.getElem?_map,Array.getElem?_toList,hf];rfl) hd n hn
theorem Small.len{elems spare:List (DataW H)}(h:Small P t (.slice elems spare))(hu:P.underlying t=some (.slice e)):(elems.length+spare.length)*P.bytesOf e<=reachBytes:=by
 refine h _ ?_;simp[DataW.weights,hu]
end
end
section
open Go.ChangeShapes Go.Deep Go.RowKit Go.WideShapes
def lw(w:World):PH:=λk=>w.heap[k]?
theorem QL w(g:GR (lw w)):Sat w (lw w) PH.cV PH.cV:=⟨PH.eC _,PH.eC _,PH.eC _,λ_ _ e=>e,λ_ _ e=>(by cases e),λ_ _ e=>(by cases e),g⟩
theorem az.run{P}{f}{args:dI}{A}{u}(t:az P f args A (λv=>HP.pure (v=u))){w}(hA:A.p (lw w) PH.cV)(g:GR (lw w):=by exact True.intro):Calls P f args w λe w'=>e=.returned u/\Below w.heap.size w w':=by
 refine(t w (lw w) PH.cV PH.cV (QL w g) hA).mono λe w' ⟨v,he,sm,R',h',lR,s,hv⟩=>?_;have C6:v=u:=hv;refine⟨by rw[he,C6],sm.os,sm.tape,sm.output,sm.size,λk hk=>?_⟩;obtain⟨o,ho⟩:∃o,w.heap[k]? =some o:=⟨w.heap[k],by simp[hk]⟩;rw[ho];exact s.oR _ _ (lR _ _ ho)
section
variable {H:Type}{enc:TypeId×Value->H}{P:Program}{w:World}{base:Nat}{spare:Nat->Bool}{held:Bool}
theorem Bb{w:World}{a:Addr}{i}{v}(h:w.cell? (a.add i)=some v):a.add i=⟨a.block,a.off+i,none⟩/\w.cell? ⟨a.block,a.off+i,none⟩=some v/\a.block<w.heap.size:=by
 have key:a.add i=⟨a.block,a.off+i,none⟩:=by
  unfold Addr.add;split
  ·rename_i e;subst e;rw[Addr.add_zero']at h;obtain⟨b,o,s⟩:=a;cases s with
   |none=>rfl
   |some s=>simp[World.cell?]at h;split at h<;>simp_all
  ·rfl
 rw[key]at h;exact⟨key,h,block_lt_of_cell (a:=⟨a.block,a.off+i,none⟩) h⟩
theorem D7{a}{v}(h:w.cell? a=some v):a.spot=none:=by
 unfold World.cell? at h;split at h
 ·split at h
  ·cases h
  ·rename_i hh;simpa using hh
 ·cases h
theorem UP{cs:List Value}{i}{v}(h:(cs.drop i).take 1=[v]):cs[i]? =some v:=by
 have:=congrArg List.head? h;rw[List.head?_take,aq (by decide),List.head?_drop]at this;simpa using this
theorem adY{cs:List Value}{i}{v}(h:cs[i]? =some v):(cs.drop i).take 1=[v]:=by
 have hi:i<cs.length:=(List.getElem?_eq_some_iff.1 h).1;rw[List.drop_eq_getElem_cons hi,List.take_succ_cons,List.take_zero];rw[List.getElem?_eq_getElem hi]at h;injection h with h;rw[h]
theorem xQ{t}{k}{cs:List Value}{n i c}{xs:List (DataW H×List MemPlace)}{j}(hu:P.underlying t=some (.int k))(hj:j<xs.length)(hc:c=1)
 (h:DataW.trod enc P w base spare held n t ((cs.drop i).take c)=xs[j]?):∃x,cs[i]? =some (.int k x)/\(Lit.int k x).wf=true:=by
 subst hc;rw[List.getElem?_eq_getElem hj]at h;obtain⟨x,h1,_,h2⟩:=DataW.trod_int hu h;exact⟨x,UP h1,h2⟩
theorem Ii{t e}{cs:List Value}{n i c}{xs:List (DataW H×List MemPlace)}{j}(hu:P.underlying t=some (.slice e))(hj:j<xs.length)(hc:c=1)
 (h:DataW.trod enc P w base spare held n t ((cs.drop i).take c)=xs[j]?):∃a l k,cs[i]? =some (.slice a l k):=by
 subst hc;rw[List.getElem?_eq_getElem hj]at h;obtain⟨a,l,k,h1⟩:=Go.Joins.slice_form hu h;exact⟨a,l,k,UP h1⟩
theorem UQ{size}{g off}{len}{xs}(hs:0<size)(hl:xs.length=len*size)(hx:∀i v,xs[i]? =some v->w.cell? ⟨g,off+i,none⟩=some v){h}:(bN size (some ⟨g,off,none⟩) len xs).p (lw w) h:=by
 refine⟨hl,λhn=>?_⟩;have amr:0<xs.length:=by rw[hl];exact Nat.mul_pos (by omega) hs
 have h0:=hx 0 xs[0] (List.getElem?_eq_getElem amr)
 have ams:∃cur ty fr,w.heap[g]? =some (.cells cur ty fr):=by
  unfold World.cell? at h0;cases hg:w.heap[g]? with
  |none=>simp[hg]at h0
  |some o=>cases o<;>simp[hg]at h0⊢
 obtain⟨cur,ty,fr,hg⟩:=ams;refine⟨g,off,cur,ty,fr,rfl,hg,List.ext_getElem? λi=>?_⟩;rw[List.getElem?_take];split
 ·rename_i hi;have hxi:=hx i xs[i] (List.getElem?_eq_getElem hi);rw[mV hg]at hxi;rw[List.getElem?_drop,List.getElem?_eq_getElem hi];simpa using hxi
 ·rename_i hi;rw[List.getElem?_eq_none (by omega)]
theorem Dk{fuel}{v}{x}(h:DataW.trod enc prog w 0 (λ_=>true) true fuel 37 [v]=some x)(hs:Small prog 37 x.1):
 ∃(a:aG) (l:ax) (c:Nat),v=.slice a l.length c/\l.length<=140737488355328/\∀h,(bE a l.length l).p (lw w) h:=by
 rcases open_slice1 Tryz.underlying37 (by kernel_rfl) h with⟨Tl,hx⟩|⟨a,len,cap,m,n,V,D,Pl,Tl,_,hl,_,hm,G9,hx⟩
 ·simp at Tl;subst Tl;exact⟨none,[],0,rfl,by simp,λh=>bN.nil _ _ _ _⟩
 ·simp at Tl;subst Tl;have hlm:len<=m:=by rw[hm];simp only[if_true];exact hl
  have QI:∀i,i<len->∃q:UInt8,w.cell? (a.add i)=some (eX q):=λi hi=>by
   obtain⟨h1,h2⟩:=hx i (by omega);obtain⟨q,hq,_,hw⟩:=DataW.trod_int Tryz.underlying5 h2;simp at hq;simp only[Lit.wf,Bool.and_eq_true,decide_eq_true_eq]at hw;have h0:(0:Int)<=q:=hw.1;have arl:q<=255:=hw.2;refine⟨UInt8.ofNat q.toNat,?_⟩;rw[h1,hq]
   have e:((UInt8.ofNat q.toNat).toNat:Int)=q:=by
    rw[UInt8.toNat_ofNat'];omega
   unfold eX;rw[e]
  obtain⟨z,hz⟩:=choose_lt (p:=λi q=>w.cell? (a.add i)=some (eX q)) QI
  have hb:len<=140737488355328:=by
   rw[G9]at hs;have:=hs.len Tryz.underlying37;have hb:prog.bytesOf 5=1:=by kernel_rfl
   rw[hb]at this;unfold reachBytes at this;simp at this;omega
  have hlen:((List.range len).map z).length=len:=by simp
  refine⟨some a,(List.range len).map z,cap,by rw[hlen],by rw[hlen];exact hb,λh=>?_⟩;rw[hlen]
  by_cases h0:len=0
  ·subst h0;exact bN.nil _ _ _ _
  ·have hsp:a.spot=none:=by
    have:=hz 0 (by omega);rw[Addr.add_zero']at this;exact D7 this
   obtain⟨g,off,sp⟩:=a;simp only at hsp;subst hsp;refine UQ (by decide) (by simp) λi v hv=>?_;have hi:i<len:=by have:=(List.getElem?_eq_some_iff.1 hv).1;simpa using this
   have:=(Bb (hz i hi)).2.1;rw[this];simp[hi]at hv;rw[<-hv]
set_option maxRecDepth 100000 in
theorem UR{H:Type}(_enc:TypeId×Value->H) base v w(hv:Value.okWide prog w .any base 3 v):∃n,v=an n:=by
 simp only[Value.okWide,Tryz.underlying3,Cell.okWide]at hv;unfold Cell.ok at hv;rw[Tryz.underlying3]at hv;cases v<;>first|exact hv.elim|exact⟨_,by rw[hv.1]⟩
end
end
section
open Go.ChangeShapes Go.Deep Go.RowKit Go.WideShapes RX
def okI(x:Int):Prop:= -9223372036854775808<=x/\x<=9223372036854775807
def HP.both(A B:HP):HP:=⟨λR h=>A.p R h/\B.p R h,λl l' ⟨a,b⟩=>⟨A.mono l l' a,B.mono l l' b⟩⟩
structure o5(α:Type) where
 n:Nat
 pos:0<n
 aJ:α->List Value
 len:∀x,(aJ x).length=n
 hp:α->HP
 iF:∀x R h h',(hp x).p R h->(hp x).p R h'
theorem tN{S T}{a}{xs}(r:Rd T a xs)(h:∀R x,S.p R x->T.p R x):Rd S a xs:=λw R x F s p=>r w R x F s (h R x p)
section
variable {α:Type}
def Ls(K:o5 α)(a:aG)(n:Nat)(l:List α):HP:=
 ⟨λR h=>l.length=n/\(bN K.n a n (l.flatMap K.aJ)).p R h/\∀x∈l,(K.hp x).p R h,
  λlR lh ⟨h0,h1,h2⟩=>⟨h0,(bN _ _ _ _).mono lR lh h1,λx hx=>(K.hp x).mono lR lh (h2 x hx)⟩⟩
theorem Ls.iF{K}{a}{n}{l:List α}{R h} h'(H:(Ls K a n l).p R h):(Ls K a n l).p R h':=⟨H.1,H.2.1,λx hx=>K.iF x _ _ _ (H.2.2 x hx)⟩
theorem Ls.rd{K}{a}{n}{l:List α}:Rd (Ls K a n l) a (l.flatMap K.aJ):=tN (bN.rd K.n a n (l.flatMap K.aJ)) λ_ _ H=>H.2.1
theorem gQ(f:α->List Value)(w:Nat)(hw:∀x,(f x).length=w):∀(l:List α) (k j:Nat) (x:α),l[k]? =some x->j<w->(l.flatMap f)[k*w+j]? =(f x)[j]?
 |[],k,j,x,h,_=>by simp at h
 |y::r,0,j,x,h,hj=>by
  simp at h;subst h;rw[List.flatMap_cons,Nat.zero_mul,Nat.zero_add,List.getElem?_append_left (by rw[hw];exact hj)]
 |y::r,k+1,j,x,h,hj=>by
  rw[List.flatMap_cons,List.getElem?_append_right (by rw[hw,Nat.succ_mul];omega),hw,show(k+1)*w+j - w=k*w+j by rw[Nat.succ_mul];omega];exact gQ f w hw r k j x (by simpa using h) hj
theorem jq(f:α->List Value)(w:Nat)(hw:∀x,(f x).length=w):∀l:List α,(l.flatMap f).length=l.length*w
 |[]=>by simp
 |x::l=>by rw[List.flatMap_cons,List.length_append,hw,jq f w hw l,List.length_cons,Nat.succ_mul,Nat.add_comm]
theorem Ls.load{K}{t}{d}(hd:prog.underlying t=some d)(ha:gZ prog t=true)(hz:iA prog t=K.n){a}{n}{l}{k}{x:α}(hk:l[k]? =some x):
 aM prog (bO t (.pointer (a.map λy=>(y.add (k*K.n)).add 0))) (Ls K a n l) (.agg (K.aJ x).toArray):=by
 refine pN (vs:=K.aJ x) hd ha (Ls.rd (K:=K)) (k:=k*K.n) (off:=0) (by rw[K.len];exact hz) (by rw[K.len];exact K.pos) λj v hj=>?_
 have hlt:j<K.n:=by
  have:=(List.getElem?_eq_some_iff.1 hj).1;rw[K.len]at this;exact this
 rw[Nat.add_zero,gQ K.aJ K.n K.len l k j x hk hlt];exact hj
theorem Ls.aca{K}{t}{d}(hd:prog.underlying t=some d)(ha:gZ prog t=false)(hz:iA prog t=1){a}{n}{l}{k off}{x:α}{v}(hk:l[k]? =some x)(hv:(K.aJ x)[off]? =some v):
 aM prog (bO t (.pointer (a.map λy=>(y.add (k*K.n)).add off))) (Ls K a n l) v:=by
 refine cU hd ha hz (Ls.rd (K:=K)) (k:=k*K.n) (off:=off) ?_
 have hlt:off<K.n:=by
  have:=(List.getElem?_eq_some_iff.1 hv).1;rw[K.len]at this;exact this
 rw[gQ K.aJ K.n K.len l k off x hk hlt];exact hv
end
section
variable {H:Type}{enc:TypeId×Value->H}{w:World}{α:Type}
theorem Dl[Inhabited α] K{t e}(hu:prog.underlying t=some (.slice e))(hn:prog.cellsOf e=K.n)(hb:1<=prog.bytesOf e)
 (el:∀ {cs:List Value} {n:Nat} {x:DataW H×List MemPlace},DataW.trod enc prog w 0 (λ_=>true) true n e cs=some x->Small prog e x.1->∃m:α,cs=K.aJ m/\∀h,(K.hp m).p (lw w) h)
 {fuel} {v} {x} (h:DataW.trod enc prog w 0 (λ_=>true) true fuel t [v]=some x) (hs:Small prog t x.1):
 ∃(a:aG) (l:List α) (c:Nat),v=.slice a l.length c/\l.length<=140737488355328/\∀h,(Ls K a l.length l).p (lw w) h:=by
 rcases open_slice hu h with⟨Tl,_⟩|⟨a,len,cap,m,n,D,Pl,Tl,_,hl,Ij,hm,hxx,hx⟩
 ·simp at Tl;subst Tl;exact⟨none,[],0,rfl,by simp,λh=>⟨rfl,bN.nil _ _ _ _,λx hx=>by cases hx⟩⟩
 ·simp at Tl;subst Tl;rw[hn]at hx;have hlm:len<=m:=by rw[hm];simp only[if_true];exact hl
  rw[hxx]at hs
  have hbl:len<=140737488355328:=by
   have:=hs.len hu;unfold reachBytes at this;simp at this;have h2:(len+(m - len))*1<=(len+(m - len))*prog.bytesOf e:=Nat.mul_le_mul_left _ hb;omega
  have QI:∀i,i<len->∃q:α,(∀j,j<K.n->w.cell? (a.add (i*K.n+j))=(K.aJ q)[j]?)/\∀h,(K.hp q).p (lw w) h:=λi hi=>by
   obtain⟨cs',h1,h2⟩:=hx i (by omega);obtain⟨q,rfl,hr⟩:=el h2 (hs.elem hu (List.mem_map.2 ⟨i,List.mem_range.2 hi,rfl⟩));obtain⟨_,_,hc⟩:=World.cells?_some h1;refine⟨q,λj hj=>?_,hr⟩;rw[<-add_add,hc j hj]
  obtain⟨ra,hra⟩:=choose_lt (p:=λi (q:α)=>(∀j,j<K.n->w.cell? (a.add (i*K.n+j))=(K.aJ q)[j]?)/\∀h,(K.hp q).p (lw w) h) QI;have hlen:((List.range len).map ra).length=len:=by simp
  refine⟨some a,(List.range len).map ra,cap,by rw[hlen],by rw[hlen];exact hbl,λh=>⟨rfl,?_,λx hx=>?_⟩⟩
  ·rw[hlen]
   by_cases h0:len=0
   ·subst h0;exact bN.nil _ _ _ _
   ·have hsp:a.spot=none:=by
     have h1:=(hra 0 (by omega)).1 0 K.pos;rw[Nat.zero_mul,Nat.add_zero,Addr.add_zero',List.getElem?_eq_getElem (by rw[K.len];exact K.pos)]at h1;exact D7 h1
    obtain⟨g,off,sp⟩:=a;simp only at hsp;subst hsp;have acb:(((List.range len).map ra).flatMap K.aJ).length=len*K.n:=by rw[jq K.aJ K.n K.len,hlen]
    refine UQ K.pos acb λi v hv=>?_;have hi:i<len*K.n:=by have:=(List.getElem?_eq_some_iff.1 hv).1;rw[acb]at this;exact this
    have hk:i / K.n<len:=Nat.div_lt_of_lt_mul (by rw[Nat.mul_comm];exact hi);have hj:i%K.n<K.n:=Nat.mod_lt _ K.pos;have e:i=(i / K.n)*K.n+i%K.n:=by rw[Nat.mul_comm];exact(Nat.div_add_mod i K.n).symm
    have hg:((List.range len).map ra)[i / K.n]? =some (ra (i / K.n)):=by simp[hk]
    have h1:=gQ K.aJ K.n K.len _ (i / K.n) (i%K.n) _ hg hj;rw[<-e]at h1;have h2:=(hra (i / K.n) hk).1 (i%K.n) hj;rw[<-e]at h2;rw[h1]at hv;rw[hv]at h2;exact(Bb h2).2.1
  ·obtain⟨i,hi,rfl⟩:=List.mem_map.1 hx;exact(hra i (List.mem_range.1 hi)).2 h
theorem Bc[Inhabited α] K{t e}(hu:prog.underlying t=some (.slice e))(hn:prog.cellsOf e=K.n)(hb:1<=prog.bytesOf e)
 (el:∀ {cs:List Value} {n:Nat} {x:DataW H×List MemPlace},DataW.trod enc prog w 0 (λ_=>true) true n e cs=some x->Small prog e x.1->∃m:α,cs=K.aJ m/\∀h,(K.hp m).p (lw w) h)
 {base} {v} (hv:Value.okWide prog w .any base t v) (h:∃d p,DataW.Trod enc prog w 0 (λ_=>true) true t v d p/\Small prog t d):
 ∃(a:aG) (l:List α) (c:Nat),v=.slice a l.length c/\l.length<=140737488355328/\∀h,(Ls K a l.length l).p (lw w) h:=by
 obtain⟨b,len,cap,rfl⟩:=okWide_slice hu hv;obtain⟨d,p,⟨fuel,hf⟩,OA⟩:=h;exact Dl K hu hn hb el hf OA
theorem D8{t}{cs:List Value}{n i c}{xs:List (DataW H×List MemPlace)}{j}(hu:prog.underlying t=some .string)(hj:j<xs.length)(hc:c=1)
 (h:DataW.trod enc prog w 0 (λ_=>true) true n t ((cs.drop i).take c)=xs[j]?):∃x:ax,cs[i]? =some (.string ⟨x.toArray⟩)/\x.length<=9223372036854775807:=by
 subst hc;rw[List.getElem?_eq_getElem hj]at h;obtain⟨s,h1,_,h2⟩:=DataW.trod_string hu h;refine⟨s.data.toList,by rw[UP h1],?_⟩;exact Nat.le_trans (Nat.le_of_eq (Array.length_toList)) h2
theorem Bd{x}(h:(Lit.int IntKind.i64 x).wf=true):okI x:=by
 have h2:(decide (IntKind.i64.min<=x)&&decide (x<=IntKind.i64.max))=true:=h;rw[Bool.and_eq_true]at h2;exact⟨of_decide_eq_true h2.1,of_decide_eq_true h2.2⟩
theorem QM{base}{v}(hv:Value.okWide prog w .any base 3 v)(h:∃d p,DataW.Trod enc prog w 0 (λ_=>true) true 3 v d p/\Small prog 3 d):∃n,v=an n/\okI n:=by
 obtain⟨n,rfl⟩:=UR enc base v w hv;obtain⟨d,p,⟨fuel,hf⟩,_⟩:=h;obtain⟨x,hx,_,hw⟩:=DataW.trod_int Tryz.underlying3 hf;simp[Value.cells]at hx;subst hx;exact⟨n,rfl,Bd hw⟩
end
def Lz:o5 Int where
 n:=1
 pos:=by decide
 aJ x:=[an x]
 len _:=rfl
 hp x:=HP.pure (okI x)
 iF _ _ _ _ h:=h
theorem QN{H}{enc}{w}{cs}{n}{x:DataW H×List MemPlace}(h:DataW.trod enc prog w 0 (λ_=>true) true n 3 cs=some x)(_:Small prog 3 x.1):∃m:Int,cs=Lz.aJ m/\∀h,(Lz.hp m).p (lw w) h:=by
 obtain⟨x,hx,_,hw⟩:=DataW.trod_int Tryz.underlying3 h;exact⟨x,hx,λ_=>Bd hw⟩
end
section
open RX
structure PK(α:Type) where
 e:TypeId
 n:Nat
 pos:0<n
 aJ:α->List Value
 len:∀x,(aJ x).length=n
 one:∀x,∀u∈aJ x,u.oneCell'=true
 bV:α->HP
section
variable {α:Type}(K:PK α)
def PL(a:aG)(n c:Nat)(l:List α):HP:=aA (l.length=n) (aj (bY K.e K.n a n c (l.flatMap K.aJ)) (cw (l.map K.bV)))
def rW(a:aG)(n c:Nat)(l:List α)(k:Nat):HP:=aA (l.length=n) (aj (bY K.e K.n a n c (l.flatMap K.aJ)) (cw ((l.map K.bV).eraseIdx k)))
variable {K}
theorem QO{a}{n c}{l}{R h}(H:(PL K a n c l).p R h)(hn:n≠0):a.isSome=true:=bY.some (ai H.2) (by omega)
theorem PL.lit x l(hb:l.length<=1000){R h}(H:(aj (HP.one x (.cells (l.flatMap K.aJ).toArray K.e (0,0))) (cw (l.map K.bV))).p R h):(PL K (some ⟨x,0,none⟩) l.length l.length l).p R h:=by
 refine⟨rfl,ae H (λy hy=>⟨jq K.aJ K.n K.len l,.inr ⟨x,_,rfl,hy,Nat.le_refl _,by unfold maxLen;omega,?_,?_⟩⟩) λ_ h=>h⟩
 ·rw[List.size_toArray];exact jq K.aJ K.n K.len l
 ·show(l.flatMap K.aJ).take _=_;rw[<-jq K.aJ K.n K.len l,List.take_length]
theorem PL.app t ty{i}{z}(ht:prog.underlying t=some (.slice K.e))(hi:prog.info? K.e=some i)(hz:i.zero=some z)(hzs:z.cells.size=i.size)(hs:i.size=K.n)(hby:i.bytes<=1000)
 (a:aG)  n c  l  b  x  Q (hb:n<=1000000000):
 aR prog (o4 t ty (.slice a n c) (.slice (some ⟨b,0,none⟩) 1 1)) (aj (PL K a n c l) (aj (HP.one b (.cells (K.aJ x).toArray K.e (0,0))) (aj (K.bV x) Q)))
  (λv=>aE λa'=>aE λc'=>aA (v=.slice a' (n+1) c') (aj (PL K a' (n+1) c' (l++[x])) Q)):=by
 have hr:=eQ b (K.aJ x).toArray K.e
 have hbn:(n+1)*i.bytes<=140737488355328:=by
  have:=Nat.mul_le_mul (show n+1<=1000000001 by omega) hby;omega
 have:=fy t ty K.e i z ht hi hz hzs (by rw[hs];exact K.pos) a n c (l.flatMap K.aJ) (HP.one b (.cells (K.aJ x).toArray K.e (0,0))) ⟨b,0,none⟩ 1 1 (K.aJ x) (by simpa using hr) (by rw[K.len,hs,Nat.one_mul]) (K.one x) (by unfold maxLen;omega) hbn;rw[hs]at this;refine aR.cM (φ:=l.length=n) (λR h H=>(ai H).1) λhl=>?_;refine(this.frame (aj (cw (l.map K.bV)) (aj (K.bV x) Q))).aK (λR h H=>?_) ?_
 ·have H1:=au (ae H (λ_ h=>h.2) λ_ h=>h);exact aC (HP.pick [_,_,_,_,_] [0,2,1,3,4] (by decide) rfl H1)
 ·rintro v R h ⟨h1,h2,d,l1,l2,⟨a',c',rfl,H⟩,HU⟩;refine⟨a',c',rfl,?_⟩;have H1:=au ⟨h1,h2,d,l1,l2,H,HU⟩;have H2:(aj (bY K.e K.n a' (n+1) c' (l.flatMap K.aJ++K.aJ x)) (aj (cw (l.map K.bV)) (aj (K.bV x) Q))).p R h:=ae H1 (λ_ h=>h) λy hy=>ah hy;have e:(l++[x]).map K.bV=l.map K.bV++[K.bV x]:=by simp
  have H3:(aj (bY K.e K.n a' (n+1) c' (l.flatMap K.aJ++K.aJ x)) (aj (cw ((l++[x]).map K.bV)) Q)).p R h:=ae H2 (λ_ h=>h) λy hy=>by
   have:=aC hy;rw[e];exact ae this (λz hz=>(gq (l:=l.map K.bV) (m:=[K.bV x])).2 hz) λ_ h=>h
  have H4:=aC H3;refine ae H4 (λy hy=>⟨by simp[hl],?_⟩) λ_ h=>h;have e2:(l++[x]).flatMap K.aJ=l.flatMap K.aJ++K.aJ x:=by simp
  rw[e2];exact hy
theorem PL.rd a n c l:Rd (PL K a n c l) a (l.flatMap K.aJ):=tN (Rd.left (B:=cw (l.map K.bV)) (bY.rd K.e K.n a n c (l.flatMap K.aJ))) λR h H=>H.2
theorem PL.jK{a}{n c}{l}{k}{x}(hk:l[k]? =some x){R h}(H:(PL K a n c l).p R h):(aj (K.bV x) (rW K a n c l k)).p R h:=by
 have H1:=ae H.2 (λ_ h=>h) λy hy=>nz (k:=k) (x:=K.bV x) (by simp[hk]) hy;exact ae (HP.swap H1) (λ_ h=>h) λy hy=>⟨H.1,hy⟩
theorem UT{f:α->List Value}{l:List α}{k}{x y}(hk:l[k]? =some x)(e:f y=f x):(l.set k y).flatMap f=l.flatMap f:=by
 have hlt:k<l.length:=(List.getElem?_eq_some_iff.1 hk).1
 have:(l.set k y).map f=l.map f:=by
  rw[List.map_set,e];refine List.ext_getElem? λj=>?_;rw[List.getElem?_set];split
  ·rename_i hj;subst hj;rw[aB (by simpa using hlt),List.getElem?_map,hk];rfl
  ·rfl
 rw[List.flatMap_def,List.flatMap_def,this]
theorem PL.join{a}{n c}{l}{k}{x y}(hk:l[k]? =some x)(e:K.aJ y=K.aJ x){R h}(H:(aj (rW K a n c l k) (K.bV y)).p R h):(PL K a n c (l.set k y)).p R h:=by
 have hlt:k<l.length:=(List.getElem?_eq_some_iff.1 hk).1;obtain⟨h1,h2,d,l1,l2,⟨hn,H⟩,HU⟩:=H;refine⟨by simp[hn],?_⟩;have H1:=au ⟨h1,h2,d,l1,l2,H,HU⟩;refine ae H1 (λz hz=>by rw[UT hk e];exact hz) λz hz=>?_;rw[List.map_set];exact kG (by simpa using hlt) (ak hz)
end
end
namespace RX
-- cH/UU.aro:ρ:=[.a ba,.n bl,.n bc,.p bP]
abbrev Ze:Hp:=[((.b 0),(.cells [(.s 1),(.bool 5)] 194)),(1,4)]
abbrev Zf:Hp:=[(.b 0,1)]
abbrev Zg:List W:=[(.ptr 0 0)]
end RX
section
open RX
def di(b:Nat)(s:ax×Bool):HP:=aE λa=>aE λc=>aA (s.1.length<=c/\s.1.length<=140737488355328) (aj (HP.one b (.cells #[.slice a s.1.length c,.bool s.2] 194)) (bE a s.1.length s.1))
theorem Ik b s:az prog 180 #[pt b] (di b s) (λv=>aA (v=cE) (di b ([],true))):=by
 refine az.ex λa=>az.ex λc=>az.pure λ_=>?_;refine be (ρ:=[.n b,.a a,.n s.1.length,.n c,.p (bE a s.1.length s.1),.c s.2]) {} Zg Ze 6 ?_;exact .of λR h H=>⟨trivial,none,0,⟨by simp,by simp⟩,ae H (λ_ h=>h) λ_ _=>bN.nil _ _ _ _⟩
def fS(s:ax×Bool)(n:Nat):ax×(ax×Bool):=if s.2 then([],s)else if s.1.length<n then([],([],true))else(s.1.take n,(s.1.drop n,false))
theorem sz8:iA prog 5=1:=by kernel_rfl
theorem Il b s(n:Nat):az prog 111 #[pt b,an n] (di b s)
 (λv=>aE λa=>aE λc=>aA (v=.slice a (fS s n).1.length c) (aj (bE a (fS s n).1.length (fS s n).1) (di b (fS s n).2))):=by
 obtain⟨l,wr⟩:=s;refine az.ex λa=>az.ex λc=>az.pure λhc=>?_;simp only at hc;refine be (ρ:=[.n b,.a a,.n l.length,.n c,.p (bE a l.length l),.c wr,.i n]) {} [(.ptr 0 0),6] Ze 7 ?_;refine⟨λh1=>.of λR h H=>?_,λh1=>⟨λh2=>?_,λh2=>?_⟩⟩
 ·subst h1;simp only[fS,if_true];exact⟨none,0,rfl,bN.join (bN.nil _ _ R h) ⟨a,c,hc,H⟩⟩
 ·have e:fS (l,wr) n=([],([],true)):=by simp only[fS];rw[aq h1,aB (by omega)]
  rw[e];refine(Ik b (l,wr)).aK (λR h H=>⟨a,c,hc,H⟩) ?_;rintro v R h ⟨rfl,a',c',rF,H⟩;refine⟨a',_,c',bE a' 0 [],true,rfl,.of λR h H=>⟨none,0,rfl,bN.join (bN.nil _ _ R h) ⟨a',c',rF,H⟩⟩,H⟩
 ·have hn:n<=l.length:=by omega
  have hw:wr=false:=by simpa using h1
  have e:fS (l,wr) n=(l.take n,(l.drop n,false)):=by simp only[fS];rw[aq h1,aq (by omega)]
  rw[e];obtain⟨i,hi,_⟩:=info_parts yY;have s1:=gp qB hi (bE a l.length l) a l.length c (some 0) (some n) (some n) (Nat.zero_le _) (Nat.le_refl _) (by simp;omega) (λ_=>rfl);have s2:=gp qB hi (bE a l.length l) a l.length c (some n) none none hn hc.1 (Nat.le_refl _) (λh=>by cases h);refine⟨_,_,_,s1,_,_,_,s2,?_⟩;simp only[Option.getD_some,Option.getD_none,Nat.sub_zero,sz8,Nat.mul_one,Nat.zero_mul];refine .of λR h H=>?_;have hro:=ah H;have r1:=bN.sub hro 0 n n (Nat.zero_le _) hn (Nat.le_refl _);have r2:=bN.sub hro n l.length c hn (Nat.le_refl _) hc.1;simp only[Nat.sub_zero,Nat.mul_one,Nat.zero_mul,List.drop_zero,<-List.map_take,<-List.map_drop]at r1 r2;rw[List.take_of_length_le (by simp)]at r2;have e1:(l.take n).length=n:=by simp[hn]
  have e2:(l.drop n).length=l.length - n:=by simp
  rw[<-e2]at r2;refine⟨if n=0 then a else Option.map (λx=>x.add 0) a,n,by rw[e1],?_⟩;rw[e1];refine bN.join r1 ⟨_,c - n,⟨by simp only[e2];omega,by simp only[e2];omega⟩,j6 r2 ?_⟩;have:=ai H;simp only[e2];rw[hw]at this;exact this
def xE(l:ax):Nat:=l.foldl (λv b=>v*256+b.toNat) 0
theorem Im l b:xE (l++[b])=xE l*256+b.toNat:=by simp[xE]
theorem UV l:xE l<256^l.length:=by
 have key:∀(l:ax) (v:Nat),l.foldl (λv (b:UInt8)=>v*256+b.toNat) v<(v+1)*256^l.length:=by
  intro l
  induction l with
  |nil=>intro v;simp
  |cons b r ih=>
   intro v;have hb:=b.toNat_lt;have h1:=ih (v*256+b.toNat);have h2:(v*256+b.toNat+1)*256^r.length<=(v+1)*256*256^r.length:=Nat.mul_le_mul_right _ (by omega);simp only[List.foldl_cons,List.length_cons,Nat.pow_succ];rw[Nat.mul_comm (256^r.length) 256,<-Nat.mul_assoc];omega
 simpa[xE]using key l 0
def bg(s:ax×Bool)(n:Nat):Nat×(ax×Bool):=(xE (fS s n).1,(fS s n).2)
theorem tf s n:(fS s n).1.length<=n:=by
 unfold fS;split
 ·simp
 ·split<;>simp;omega
theorem Zh(v:Nat)(b:UInt8)(hv:v<2^56):bits .or .u64 (IntKind.u64.wrap ((v:Int)*2^(min (8:Int).toNat IntKind.u64.bits))) (b.toNat:Int)=((v*256+b.toNat:Nat):Int):=by
 have hb:=b.toNat_lt
 have e1:IntKind.u64.wrap ((v:Int)*2^(min (8:Int).toNat IntKind.u64.bits))=((v*256:Nat):Int):=by
  have:(v:Int)*2^(min (8:Int).toNat IntKind.u64.bits)=((v*256:Nat):Int):=by
   simp[IntKind.bits]
  rw[this];exact eZ ⟨by simp[IntKind.min,IntKind.signed];omega,by simp[IntKind.max,IntKind.signed,IntKind.bits];omega⟩
 rw[e1]
 have e2:(v*256 ||| b.toNat)=v*256+b.toNat:=by
  have:=Nat.shiftLeft_add_eq_or_of_lt (a:=v) (b:=b.toNat) (i:=8) (by omega);rw[Nat.shiftLeft_eq]at this;exact this.symm
 show IntKind.u64.wrap ((BitVec.ofInt 64 ((v*256:Nat):Int) ||| BitVec.ofInt 64 (b.toNat:Int)).toNat:Int)=_;rw[BitVec.ofInt_natCast,BitVec.ofInt_natCast,BitVec.toNat_or,BitVec.toNat_ofNat,BitVec.toNat_ofNat,Nat.mod_eq_of_lt (by omega),Nat.mod_eq_of_lt (by omega),e2];exact eZ ⟨by simp[IntKind.min,IntKind.signed];omega,by simp[IntKind.max,IntKind.signed,IntKind.bits];omega⟩
theorem bh x(h1: -9223372036854775808<=x)(h2:x<=9223372036854775807):IntKind.i64.min<=x/\x<=IntKind.i64.max:=by
 simp[IntKind.min,IntKind.max,IntKind.signed,IntKind.bits];omega
theorem UW x(h1:0<=x)(h2:x<=18446744073709551615):IntKind.u64.min<=x/\x<=IntKind.u64.max:=by
 simp[IntKind.min,IntKind.max,IntKind.signed,IntKind.bits];omega
theorem Io:prog.underlying 5=some (.int .u8):=by kernel_rfl
theorem Zi:gZ prog 5=false:=by kernel_rfl
theorem ig b s(n:Nat)(hn:n<=8):az prog 110 #[pt b,an n] (di b s)
 (λv=>aA (v=.int .u64 ((bg s n).1:Nat)) (di b (bg s n).2)):=by
 refine be (ρ:=[.n b,.p (di b s),.i n]) {} [(.ptr 0 0),2] Zf 3 ?_;refine(If n tt).wk ?_;rintro r R h ⟨rfl,H⟩;refine⟨min (max n 0) 8,rfl,?_,H⟩;rw[show min (max (n:Int) 0) 8=n by omega];refine(Il b s n).wk ?_;rintro r R h ⟨a,c,rfl,H⟩;have hlen:=tf s n;have ha:0<(fS s n).1.length->a.isSome=true:=λh=>bN.some (ai H) h;refine⟨a,_,c,bE a _ (fS s n).1,di b (fS s n).2,rfl,?_,H⟩;have arp:256^(fS s n).1.length<=256^8:=Nat.pow_le_pow_right (by decide) (by omega);unfold bg;generalize (fS s n).1=l at*;generalize (fS s n).2=s' at*;refine⟨λv i=>∃k:Nat,i=k/\k<=l.length/\v=((xE (l.take k):Nat):Int),λv i=>l.length - i.toNat,⟨0,rfl,Nat.zero_le _,rfl⟩,?_⟩;rintro v i ⟨k,rfl,hk,rfl⟩;refine⟨λhlt=>⟨by omega,λ_=>?_⟩,λlH=>?_⟩
 ·have gP:k<l.length:=by omega
  have hb8:=l[k].toNat_lt;have xO:l[k]? =some l[k]:=List.getElem?_eq_getElem gP
  have hk8:xE (l.take k)<2^56:=by
   have h1:=UV (l.take k);rw[List.length_take,Nat.min_eq_left hk]at h1;have h2:256^k<=256^7:=Nat.pow_le_pow_right (by decide) (by omega);have h3:(256:Nat)^7=2^56:=by decide
   omega
  refine⟨ha (by omega),λ_=>⟨(l[k].toNat:Int),?_,UW _ (by omega) (by omega),λ_=>⟨bh _ (by omega) (by omega),λ_=>⟨⟨k+1,by omega,gP,?_⟩,by dsimp only;omega⟩⟩⟩⟩
  ·exact cU Io Zi sz8 (bN.rd 1 a _ (l.map eX)) (k:=(k:Int).toNat*1) (off:=0) (v:=eX l[k]) (by simp[xO])
  ·rw[Zh _ _ hk8,List.take_succ_eq_append_getElem gP,Im]
 ·have:k=l.length:=by omega
  subst this;rw[List.take_length];exact .of λR h H=>⟨rfl,H⟩
theorem acd(v:Nat):IntKind.u8.wrap (v:Int)=((v%256:Nat):Int):=by
 simp only[IntKind.wrap,IntKind.bits,IntKind.signed,Bool.false_and,Bool.false_eq_true,if_false];omega
theorem mj b s:az prog 60 #[pt b] (di b s) (λv=>aA (v=.int .u8 (((bg s 1).1%256:Nat):Int)) (di b (bg s 1).2)):=by
 refine be (ρ:=[.n b,.p (di b s)]) {} Zg Zf 2 ?_;refine(ig b s 1 (by omega)).wk ?_;rintro v R h ⟨rfl,H⟩;exact⟨_,_,rfl,.of λR h H=>⟨by rw[acd],H⟩,H⟩
def ct(v:Nat):Int:=IntKind.i64.wrap (v:Int)
theorem mW b s:az prog 62 #[pt b] (di b s) (λv=>aA (v=an (ct (bg s 8).1)) (di b (bg s 8).2)):=by
 refine be (ρ:=[.n b,.p (di b s)]) {} Zg Zf 2 ?_;refine(ig b s 8 (by omega)).wk ?_;rintro v R h ⟨rfl,H⟩;exact⟨_,_,rfl,.of λR h H=>⟨rfl,H⟩,H⟩
def bB(s:ax×Bool)(bC:Int):Nat×(ax×Bool):=
 if(bg s 4).2.2 then(0,(bg s 4).2)else if bC<(bg s 4).1 then(0,([],true))else((bg s 4).1,(bg s 4).2)
theorem mX s n:(bg s n).1<256^n:=
 Nat.lt_of_lt_of_le (UV _) (Nat.pow_le_pow_right (by decide) (tf s n))
theorem rX b s bC:az prog 112 #[pt b,an bC] (di b s) (λv=>aA (v=an ((bB s bC).1:Nat)) (di b (bB s bC).2)):=by
 have hlt:=mX s 4;refine az.ex λa=>az.ex λc=>az.pure λhc=>?_;refine be (ρ:=[.n b,.a a,.n s.1.length,.n c,.p (bE a s.1.length s.1),.c s.2,.i bC]) {} [(.ptr 0 0),6] Ze 7 ?_;refine(ig b s 4 (by omega)).aK (λR h H=>⟨a,c,hc,H⟩) ?_;rintro v R h ⟨rfl,a',c',rF,H⟩;unfold bB;generalize (bg s 4).1=x at*;generalize (bg s 4).2=s' at*;obtain⟨l',w'⟩:=s';refine⟨_,a',_,c',bE a' l'.length l',w',rfl,?_,H⟩;have e:IntKind.i64.wrap (x:Int)=x:=eZ (bh _ (by omega) (by omega));rw[e];refine⟨λh1=>.of λR h H=>?_,λh1=>⟨λh2=>?_,λh2=>.of λR h H=>?_⟩⟩
 ·simp only[h1,if_true];subst h1;exact⟨rfl,a',c',rF,H⟩
 ·rw[aq h1,aB h2];refine(Ik b (l',w')).aK (λR h H=>⟨a',c',rF,H⟩) ?_;rintro v R h ⟨rfl,a2,c2,QH,H⟩;exact⟨a2,_,c2,bE a2 _ [],true,rfl,.of λR h H=>⟨rfl,a2,c2,QH,H⟩,H⟩
 ·rw[aq h1,aq h2];exact⟨rfl,a',c',rF,H⟩
def cJ(s:ax×Bool)(bC:Int):ax×(ax×Bool):=fS (bB s bC).2 (bB s bC).1
theorem j7 b s bC:az prog 61 #[pt b,an bC] (di b s)
 (λv=>aE λa=>aE λc=>aA (v=.slice a (cJ s bC).1.length c) (aj (di b (cJ s bC).2) (dS a (cJ s bC).1.length c (cJ s bC).1))):=by
 refine be (ρ:=[.n b,.p (di b s),.i bC]) {} [(.ptr 0 0),2] Zf 3 ?_;refine(rX b s bC).wk ?_;rintro v R h ⟨rfl,H⟩;refine⟨_,di b (bB s bC).2,rfl,?_,H⟩;refine(Il b _ _).wk ?_;rintro v R h ⟨a,c,rfl,H⟩
 have hlen:(cJ s bC).1.length<=140737488355328:=by
  have h1:=tf (bB s bC).2 (bB s bC).1
  have h2:(bB s bC).1<256^4:=by
   have:=mX s 4;unfold bB;split
   ·simp
   ·split
    ·simp
    ·exact this
  have h3:(256:Nat)^4=4294967296:=by decide
  unfold cJ;omega
 refine⟨a,_,c,bE a _ (cJ s bC).1,di b (cJ s bC).2,rfl,?_,H⟩;refine(iC _ a _ c (cJ s bC).1 (bX.ro _ _ _ _) rfl hlen).wk ?_;rintro v R h ⟨a',c',rfl,H⟩;exact⟨a',_,c',dS a' _ c' _,bE a _ (cJ s bC).1,rfl,.of λR h H=>⟨a',c',rfl,H⟩,H⟩
theorem lV b s:az prog 63 #[pt b] (di b s) (λv=>aA (v=an (if s.2=true\/s.1≠[]then 3 else 0)) (di b s)):=by
 obtain⟨l,w⟩:=s;refine az.ex λa=>az.ex λc=>az.pure λhc=>?_;refine be (ρ:=[.n b,.a a,.n l.length,.n c,.p (bE a l.length l),.c w]) {} Zg Ze 6 ?_;refine⟨λh1=>.of λR h H=>⟨?_,a,c,hc,H⟩,λh1=>⟨λh2=>.of λR h H=>⟨?_,a,c,hc,H⟩,λh2=>.of λR h H=>⟨?_,a,c,hc,H⟩⟩⟩
 ·rw[aB (.inl h1)]
 ·rw[aB (.inr (λe=>by subst e;simp at h2))]
 ·rw[aq (λe=>e.elim h1 λe=>h2 (by have:=List.length_pos_iff.2 e;omega))]
theorem pS a n c l S(hr:bX S a n (l.map eX))(hl:l.length=n)(hb:n<=140737488355328):
 az prog 59 #[.slice a n c] S (λv=>aE λb=>aA (v=pt b) (aj S (di b (l,false)))):=by
 refine be (ρ:=[.a a,.n n,.n c,.p S]) {} [(.s 0)] [(0,3)] 4 ?_;refine(iC S a n c l hr hl hb).wk ?_;rintro v R h ⟨a',c',rfl,H⟩;refine⟨a',_,c',dS a' n c' l,S,rfl,λx=>?_,H⟩;subst hl;rintro R h d H;have hle:=bY.le (ah (ah H));refine((HP.aT.gX (HP.aT.refl S) (HP.aT.gX (HP.aT.refl _) (bY.eP 5 1 a' l.length c' (l.map eX)))).trans ?_) R h d H;refine .of λR h H=>⟨x,rfl,ae H (λ_ h=>h) λy hy=>?_⟩;exact⟨a',c',⟨hle,hb⟩,hy⟩
end
namespace RX
-- cH/amv.New:ρ:=[.i apF]
abbrev ace:Hp:=[((.b 0),(.cells [1,(.s 2),6] 113)),(2,5)]
abbrev ahy:Hp:=[((.b 0),(.cells [1,(.s 2),6] 113)),(2,5),(7,10)]
abbrev OB:List W:=[(.ptr 0 0)]
end RX
section
open RX
structure Pg where
 is:Int
 data:ax
structure kH where
 is:Int
 a:aG
 n:Nat
 c:Nat
def kH.aJ(x:kH):List Value:=[an x.is,.slice x.a x.n x.c]
def e9(xs:List kH):List Value:=xs.flatMap kH.aJ
def kw:List kH->List Pg->HP
 |[],[]=>tt
 |x::xs,p::ps=>aA (x.is=p.is/\x.n=p.data.length/\p.data.length<=140737488355328) (aj (bE x.a x.n p.data) (kw xs ps))
 |_,_=>HP.pure False
theorem kw.any{R:PH}:∀ {xs:List kH} {ps:List Pg} {h h':PH},(kw xs ps).p R h->(kw xs ps).p R h'
 |[],[],_,_,_=>trivial
 |_::_,_::_,_,h',⟨q,H⟩=>⟨q,bN.join (ai H) (kw.any (h':=h') (ah H))⟩
 |[],_::_,_,_,H=>H
 |_::_,[],_,_,H=>H
theorem kw.Dn{R h:PH}{x:kH}{p:Pg}(hx:x.is=p.is/\x.n=p.data.length/\p.data.length<=140737488355328)(hr:(bE x.a x.n p.data).p R h):∀ {xs:List kH} {ps:List Pg},(kw xs ps).p R h->(kw (xs++[x]) (ps++[p])).p R h
 |[],[],_=>⟨hx,bN.join hr (trivial:tt.p R h)⟩
 |_::_,_::_,⟨q,H⟩=>⟨q,bN.join (ai H) (kw.Dn hx hr (ah H)|>kw.any (h':=h))⟩
 |[],_::_,H=>H.elim
 |_::_,[],H=>H.elim
def QP(room:Int)(ps:List Pg)(cy:Nat):Prop:=0<=room/\room<=65536/\(ps.length:Int)<=room/\cy<=ps.length
def eE(b:Nat)(room:Int)(ps:List Pg)(cy:Nat):HP:=aE λa=>aE λc=>aE λxs=>aA (QP room ps cy/\xs.length=ps.length) (aj (HP.one b (.cells #[an room,.slice a ps.length c,an cy] 113)) (aj (bY 251 2 a ps.length c (e9 xs)) (kw xs ps)))
theorem eE.qD{f}{args:dI}{b}{room}{ps}{cy}{B}
 (t:∀a c xs,QP room ps cy->xs.length=ps.length->az prog f args (aj (HP.one b (.cells #[an room,.slice a ps.length c,an cy] 113)) (aj (bY 251 2 a ps.length c (e9 xs)) (kw xs ps))) B):
 az prog f args (eE b room ps cy) B:=az.ex λa=>az.ex λc=>az.ex λxs=>az.pure λh=>t a c xs h.1 h.2
theorem UX b(room:Int)(a:aG)(n c:Nat) S cy(h1: -100000<=room - n)(h2:room - n<=100000):
 az prog 276 #[pt b] (aj (HP.one b (.cells #[an room,.slice a n c,an cy] 113)) S)
  (λv=>aA (v=an (room - n)) (aj (HP.one b (.cells #[an room,.slice a n c,an cy] 113)) S)):=by
 refine be (ρ:=[.n b,.i room,.a a,.n n,.n c,.p S,.i cy]) {} OB ace 7 ?_;exact⟨bh _ (by omega) (by omega),λ_=>.of λ_ _ H=>⟨trivial,H⟩⟩
theorem Zj n(h1:1<=n)(h2:n<=65536):az prog 21 #[an n] tt (λv=>aE λb=>aA (v=.tuple #[pt b,an 0]) (eE b n [] 0)):=by
 refine be (ρ:=[.i n]) {} [0] [] 1 ?_;refine⟨λh=>absurd h (by omega),λ_=>⟨λh=>absurd h (by omega),λ_ x=>.of λR h H=>?_⟩⟩;exact⟨x,rfl,none,0,[],⟨⟨by omega,by omega,by simp;omega,by simp⟩,rfl⟩,ae (aD H) (λ_ h=>h) λy _=>aD (bY.nil _ _ R y)⟩
theorem Ip b room(a:aG) n c cy S:az prog 248 #[pt b] (aj (HP.one b (.cells #[an room,.slice a n c,an cy] 113)) S)
 (λv=>aA (v=cE) (aj (HP.one b (.cells #[an room,.slice a n c,an n] 113)) S)):=by
 refine be (ρ:=[.n b,.i room,.a a,.n n,.n c,.p S,.i cy]) {} OB ace 7 ?_;exact .of λR h H=>⟨trivial,H⟩
theorem UY b room ps cy:az prog 248 #[pt b] (eE b room ps cy) (λv=>aA (v=cE) (eE b room ps ps.length)):=
 eE.qD λa c xs hI hx=>(Ip b room a ps.length c cy _).wk λv R h ⟨e,H⟩=>⟨e,a,c,xs,⟨⟨hI.1,hI.2.1,hI.2.2.1,Nat.le_refl _⟩,hx⟩,H⟩
theorem ahz:(prog.info? 251).map (λi=>(i.zero,i.size,i.bytes))=some (some (.agg #[an 0,.slice none 0 0]),2,32):=by kernel_rfl
theorem amw:prog.underlying 111=some (.slice 251):=by kernel_rfl
theorem Iq xs:∀u∈e9 xs,u.oneCell'=true:=λu hu=>by
 obtain⟨x,_,hx⟩:=List.mem_flatMap.1 hu;simp only[kH.aJ,List.mem_cons,List.not_mem_nil,or_false]at hx;rcases hx with rfl|rfl<;>rfl
def mL(room:Int)(ps:List Pg)(p:Pg):Int×List Pg:=if room=ps.length then(4,ps)else(0,ps++[p])
theorem LA b room ps(cy:Nat)(a:aG)(n c:Nat)(l:ax)(S:HP)(hr:bX S a n (l.map eX))(hl:l.length=n)(hb:n<=140737488355328):
 az prog 247 #[pt b,.slice a n c] (aj (eE b room ps cy) S) (λv=>aA (v=an (mL room ps ⟨1,l⟩).1) (aj (eE b room (mL room ps ⟨1,l⟩).2 cy) S)):=by
 refine(az.ex (A:=λda=>aE λdc=>aE λxs=>aA (QP room ps cy/\xs.length=ps.length) (aj (HP.one b (.cells #[an room,.slice da ps.length dc,an cy] 113)) (aj (aj (bY 251 2 da ps.length dc (e9 xs)) (kw xs ps)) S)))
  λda=>az.ex λdc=>az.ex λxs=>az.pure λhI=>?_).aK (λR h ⟨h1,h2,d,l1,l2,⟨da,dc,xs,hI,H⟩,hS⟩=>⟨da,dc,xs,hI,au ⟨h1,h2,d,l1,l2,H,hS⟩⟩) λ_ _ _ h=>h
 obtain⟨⟨i1,i2,i3,i4⟩,lj⟩:=hI;refine be (ρ:=[.n b,.i room,.a da,.n ps.length,.n dc,.p (aj (bY 251 2 da ps.length dc (e9 xs)) (kw xs ps)),.i cy,.a a,.n n,.n c,.p S]) {aF:=[276]} [(.ptr 0 0),(.s 7)] ahy 11 ?_;refine(UX b room da ps.length dc _ cy (by omega) (by omega)).wk ?_;rintro v R h ⟨rfl,H⟩;refine⟨_,rfl,⟨λhz=>.of λR h H=>?_,λhz=>?_⟩,H⟩
 ·have e:mL room ps ⟨1,l⟩=(4,ps):=aB (by omega);rw[e];exact⟨rfl,ae (aC H) (λy hy=>⟨da,dc,xs,⟨⟨i1,i2,i3,i4⟩,lj⟩,hy⟩) λ_ h=>h⟩
 ·have e:mL room ps ⟨1,l⟩=(0,ps++[⟨1,l⟩]):=aq (by omega);rw[e];refine(gi S a n c l hr hl hb).wk ?_;rintro v R h ⟨a',c',rfl,H⟩;refine⟨a',n,c',bE a' n l,S,rfl,λy=>?_,H⟩;rw[ic (by decide)];refine uH ?_;obtain⟨i,hi,z1,z2,z3⟩:=info_parts ahz;have Be:=fy 111 111 251 i _ amw hi z1 (by rw[z2];rfl) (by omega) da ps.length dc (e9 xs) (aj (kw xs ps) (aj (HP.one y (.cells #[an 1,.slice a' n c'] 251)) (bE a' n l))) ⟨y,0,none⟩ 1 1 (kH.aJ ⟨1,a',n,c'⟩) ((eQ y _ _).left.right) (by rw[z2];rfl) (λu hu=>Iq [⟨1,a',n,c'⟩] u (by simpa[e9]using hu)) (by unfold maxLen;omega) (by rw[z3];omega);rw[z2]at Be;refine Be.aK (λR h H=>au H) ?_;rintro v R h ⟨a2,c2,rfl,H⟩;have adZ:e9 xs++kH.aJ ⟨1,a',n,c'⟩=e9 (xs++[⟨1,a',n,c'⟩]):=by simp[e9]
  rw[adZ]at H;refine⟨a2,_,c2,aj (bY 251 2 a2 (ps.length+1) c2 (e9 (xs++[⟨1,a',n,c'⟩]))) (kw (xs++[⟨1,a',n,c'⟩]) (ps++[⟨1,l⟩])),rfl,.of λR h H=>⟨trivial,?_⟩,?_⟩
  ·have hlen:ps.length+1=(ps++[(⟨1,l⟩:Pg)]).length:=by simp
   rw[hlen]at H;refine ae (aC H) (λy hy=>⟨a2,c2,_,⟨⟨i1,i2,by simp;omega,by simp;omega⟩,by simp[lj]⟩,hy⟩) λ_ h=>h
  ·have hall:=ai (ah H);have hro:=ah (ah (ah H));have lp:∀z,(kw (xs++[⟨1,a',n,c'⟩]) (ps++[⟨1,l⟩])).p R z:=λz=>kw.any (kw.Dn (x:=⟨1,a',n,c'⟩) (p:=⟨1,l⟩) ⟨rfl,hl.symm,by simp only;omega⟩ hro hall);refine ae H (λz hz=>ae (aD hz) (λ_ h=>h) λz _=>lp z) λz hz=>ah hz
theorem Ir xs:∀(j:Nat) (x:kH),xs[j]? =some x->(e9 xs)[j*2]? =some (an x.is)/\(e9 xs)[j*2+1]? =some (.slice x.a x.n x.c):=by
 induction xs with
 |nil=>intro j x h;simp at h
 |cons y r ih=>
  intro j x h;cases j with
  |zero=>simp at h;subst h;simp[e9,kH.aJ]
  |succ j=>
   obtain⟨h1,h2⟩:=ih j x (by simpa using h);simp only[e9,List.flatMap_cons]at h1 h2⊢;have e1:(j+1)*2=j*2+2:=by omega
   rw[e1];exact⟨by simpa[kH.aJ]using h1,by simpa[kH.aJ]using h2⟩
theorem ad0{R h}:∀ {xs:List kH} {ps:List Pg} (i:Nat) {p:Pg},(kw xs ps).p R h->ps[i]? =some p->∃x,xs[i]? =some x/\x.is=p.is/\x.n=p.data.length/\p.data.length<=140737488355328/\(bE x.a x.n p.data).p R h
 |[],[],i,p,_,hp=>by simp at hp
 |x::xs,q::ps,0,p,⟨h1,H⟩,hp=>by simp at hp;subst hp;exact⟨x,rfl,h1.1,h1.2.1,h1.2.2,ai H⟩
 |x::xs,q::ps,i+1,p,⟨h1,H⟩,hp=>by
  obtain⟨y,q1,q2,q3,q4⟩:=ad0 (h:=h) i (kw.any (ah H)) (by simpa using hp);exact⟨y,by simpa using q1,q2,q3,q4⟩
 |[],_::_,_,_,H,_=>H.elim
 |_::_,[],_,_,H,_=>H.elim
abbrev FF:=aG×Nat×Nat
def LB(x:FF):Value:=.slice x.1 x.2.1 x.2.2
def lI:List FF->List ax->HP
 |[],[]=>tt
 |x::xs,l::ls=>aA (x.2.1=l.length/\l.length<=140737488355328) (aj (bE x.1 x.2.1 l) (lI xs ls))
 |_,_=>HP.pure False
theorem lI.any{R:PH}:∀ {xs:List FF} {ps:List ax} {h h':PH},(lI xs ps).p R h->(lI xs ps).p R h'
 |[],[],_,_,_=>trivial
 |_::_,_::_,_,h',⟨q,H⟩=>⟨q,bN.join (ai H) (lI.any (h':=h') (ah H))⟩
 |[],_::_,_,_,H=>H
 |_::_,[],_,_,H=>H
theorem lI.Dn{R h:PH}{x:FF}{p:ax}(hx:x.2.1=p.length/\p.length<=140737488355328)(hr:(bE x.1 x.2.1 p).p R h):∀ {xs:List FF} {ps:List ax},(lI xs ps).p R h->(lI (xs++[x]) (ps++[p])).p R h
 |[],[],_=>⟨hx,bN.join hr (trivial:tt.p R h)⟩
 |_::_,_::_,⟨q,H⟩=>⟨q,bN.join (ai H) (lI.Dn hx hr (ah H)|>lI.any (h':=h))⟩
 |[],_::_,H=>H.elim
 |_::_,[],H=>H.elim
theorem lI.get{R h}:∀ {xs:List FF} {ps:List ax} (i:Nat) {p:ax},(lI xs ps).p R h->ps[i]? =some p->∃x,xs[i]? =some x/\x.2.1=p.length/\p.length<=140737488355328/\(bE x.1 x.2.1 p).p R h
 |[],[],i,p,_,hp=>by simp at hp
 |x::xs,q::ps,0,p,⟨h1,H⟩,hp=>by simp at hp;subst hp;exact⟨x,rfl,h1.1,h1.2,ai H⟩
 |x::xs,q::ps,i+1,p,⟨h1,H⟩,hp=>by
  obtain⟨y,q1,q2,q3,q4⟩:=lI.get (h:=h) i (lI.any (ah H)) (by simpa using hp);exact⟨y,by simpa using q1,q2,q3,q4⟩
 |[],_::_,_,_,H,_=>H.elim
 |_::_,[],_,_,H,_=>H.elim
def LL(a:aG)(n c:Nat)(ls:List ax):HP:=aE λxs=>aA (xs.length=ls.length/\n=ls.length) (aj (bY 37 1 a n c (xs.map LB)) (lI xs ls))
theorem ad1:(prog.info? 37).map (λi=>(i.zero,i.size,i.bytes))=some (some (.slice none 0 0),1,24):=by kernel_rfl
theorem ahA:prog.underlying 118=some (.slice 37):=by kernel_rfl
theorem Zk(xs:List FF):∀u∈xs.map LB,u.oneCell'=true:=λu hu=>by
 obtain⟨x,_,rfl⟩:=List.mem_map.1 hu;rfl
def cR(ps:List Pg):List ax:=ps.filterMap λp=>if p.is=1 then some p.data else none
theorem y0(ps:List Pg) k p(h:ps[k]? =some p):cR (ps.take (k+1))=cR (ps.take k)++(if p.is=1 then[p.data]else[]):=by
 obtain⟨hk,rfl⟩:=List.getElem?_eq_some_iff.1 h;rw[List.take_succ_eq_append_getElem hk,cR,List.filterMap_append];congr 1;simp only[List.filterMap_cons,List.filterMap_nil]
 by_cases e:ps[k].is=1<;>simp[e]
theorem LC ps k:cR (ps.take k)<+:cR ps:=by
 have:cR ps=cR (ps.take k)++cR (ps.drop k):=by
  rw[cR,cR,cR,<-List.filterMap_append,List.take_append_drop]
 rw[this];exact List.prefix_append _ _
def UZ(bx b:Nat):HP:=HP.one bx (.cells #[pt b] 69)
theorem QQ b D:az prog 97 #[pt b] D
 (λv=>aE λbx=>aA (v=.func (.func 177) #[] #[pt bx]) (aj (UZ bx b) D)):=by
 refine be (ρ:=[.n b,.p D]) {} OB [(.b 0,1)] 2 ?_;exact λx=>.of λR h H=>⟨x,rfl,ak H⟩
def ad2(ps:List Pg)(ys:List ax)(args:dI)(Tn:List ax):Prop:=∃a n c l,args= #[.slice a n c]/\Tn=ys++[l]/\Tn<+:cR ps
def prW(ps:List Pg)(ys:List ax)(args:dI):HP:=aE λz:FF×ax=>aA (args= #[LB z.1]/\z.2.length=z.1.2.1/\z.1.2.1<=140737488355328/\ys++[z.2]<+:cR ps) (bE z.1.1 z.1.2.1 z.2)
theorem LD:xC prog 177:=⟨_,Tryz.func177,by kernel_rfl,by kernel_rfl⟩
theorem Zl{α:Type}{ys W}{x y:α}(h:ys++[x]<+:W)(h':ys++[y]<+:W):x=y:=by
 obtain⟨t,ht⟩:=h;obtain⟨t',ht'⟩:=h';rw[<-ht,List.append_assoc,List.append_assoc]at ht';have:=List.append_cancel_left ht';simpa using(List.cons.inj this).1.symm
theorem LF bx b room ps(cy:Nat):xH prog (.func (.func 177) #[] #[pt bx]) (aj (UZ bx b) (eE b room ps cy)) (λ_=>tt) (prW ps) (ad2 ps) (λys=>ys=cR ps) []:=by
 refine⟨_,_,rfl,LD,λl K Jx hr=>?_⟩
 refine(az.ex (A:=λda=>aE λdc=>aE λxs=>aA (QP room ps cy/\xs.length=ps.length) (aj (aj tt (K [])) (aj (UZ bx b) (aj (HP.one b (.cells #[an room,.slice da ps.length dc,an cy] 113)) (aj (bY 251 2 da ps.length dc (e9 xs)) (kw xs ps))))))
  λda=>az.ex λdc=>az.ex λxs=>az.pure λhI=>?_).aK (λR h H=>?_) λ_ _ _ h=>h
 rotate_left
 ·obtain⟨h1,h2,d,l1,l2,hK,h3,h4,d2,l3,l4,hB,da,dc,xs,hI,H⟩:=ak H;exact⟨da,dc,xs,hI,h1,h2,d,l1,l2,hK,h3,h4,d2,l3,l4,hB,H⟩
 obtain⟨hD,lj⟩:=hI
 refine az.cM (φ:=(ps.length≠0->da.isSome=true)/\∀(k:Nat) (p:Pg),ps[k]? =some p->∃x:kH,xs[k]? =some x/\x.is=p.is/\x.n=p.data.length/\p.data.length<=140737488355328) (λR h H=>⟨λhn=>bY.some (ai (ah (ah (ah H)))) (by omega),λk p hp=>by
  obtain⟨x,q1,q2,q3,q4,_⟩:=ad0 k (ah (ah (ah (ah H)))) hp;exact⟨x,q1,q2,q3,q4⟩⟩) λ⟨U0,hall⟩=>?_
 obtain⟨pd,hpd⟩:∃d,prog.underlying 251=some d:=Option.isSome_iff_exists.1 (by kernel_rfl);refine be (ρ:=[.v (.func (.yield l) #[] #[]),.p (aj tt (K [])),.n bx,.n b,.i room,.a da,.n ps.length,.n dc,.p (aj (bY 251 2 da ps.length dc (e9 xs)) (kw xs ps)),.i cy]) {hv:=[(0,[(.a 0)])]} [(.val 0),(.ptr 2 0)] [(0,1),((.b 2),(.cells [(.ptr 3 0)] 69)),((.b 3),(.cells [4,(.s 5),9] 113)),(5,8)] 10 ?_
 have iW:∀J:HP,HP.aT J (jp (λ_=>tt) K Jx (λys=>ys=cR ps))->HP.aT (aj J (aj (HP.one bx (.cells #[pt b] 69)) (aj (HP.one b (.cells #[an room,.slice da ps.length dc,an cy] 113)) (aj (bY 251 2 da ps.length dc (e9 xs)) (kw xs ps)))))
  (aj (aj (UZ bx b) (eE b room ps cy)) (jp (λ_=>tt) K Jx (λys=>ys=cR ps))):=λJ hJ=>
  (hJ.aj _).trans (.of λR h H=>ak (ae H (λ_ h=>h) λy hy=>ae hy (λ_ h=>h) λz hz=>⟨da,dc,xs,⟨hD,lj⟩,hz⟩))
 refine⟨λi P=>∃k:Nat,i=k/\k<=ps.length/\HP.aT P (aj tt (K (cR (ps.take k)))),λi P=>ps.length - i.toNat,⟨0,rfl,Nat.zero_le _,HP.aT.refl _⟩,?_⟩;rintro _ P ⟨k,rfl,hk,hP⟩;refine⟨λhlt=>⟨by omega,λ_=>⟨U0 (by omega),λ_=>?_⟩⟩,λlH=>?_⟩
 ·have gP:k<ps.length:=by omega
  have hg:ps[k]? =some ps[k]:=List.getElem?_eq_getElem gP;have ahB:IntKind.i64.min<=(k:Int)+1/\(k:Int)+1<=IntKind.i64.max:=bh _ (by omega) (by have:=hD.2.1;have:=hD.2.2.1;omega);obtain⟨x,hx,x1,x2,x3⟩:=hall k _ hg;have tY:ps[k].is≠1->cR (ps.take (k+1))=cR (ps.take k):=λh=>by rw[y0 ps k _ hg,aq h,List.append_nil]
  have U1:ps[k].is=1->cR (ps.take (k+1))=cR (ps.take k)++[ps[k].data]:=λh=>by rw[y0 ps k _ hg,aB h]
  refine⟨x.is,x.a,x.n,x.c,?_,λy=>?_⟩
  ·rw[uI];refine uH ?_;rw[Int.toNat_natCast];obtain⟨g1,g2⟩:=Ir xs k _ hx;refine pN (vs:=[an x.is,.slice x.a x.n x.c]) hpd (by kernel_rfl) ((bY.rd 251 2 da ps.length dc (e9 xs)).left (B:=kw xs ps)) (by kernel_rfl) (by simp) λj v hj=>?_
   match j with
   |0=>simp at hj;subst hj;simpa using g1
   |1=>simp at hj;subst hj;simpa using g2
   |j+2=>simp at hj
  ·rw[x1];refine⟨λh1=>?_,λh1=>⟨ahB,λ_=>⟨⟨k+1,by omega,by omega,by rw[tY h1];exact hP⟩,by dsimp only;omega⟩⟩⟩;have hpre:cR (ps.take k)++[ps[k].data]<+:cR ps:=by rw[<-U1 h1];exact LC ps _
   refine(hr (cR (ps.take k)) #[.slice x.a x.n x.c] ⟨_,x.a,x.n,x.c,ps[k].data,rfl,rfl,hpre⟩).bv (K:=aj (bY 251 2 da ps.length dc (e9 xs)) (kw xs ps)) ?_ ?_
   ·refine(hP.aj _).trans (.of λR h H=>?_);have hA:=ah (ah H);obtain⟨x',q1,_,_,_,q5⟩:=ad0 k hA hg;rw[hx]at q1;cases q1;refine ae H (λy hy=>?_) λ_ h=>h;exact ae (bN.join (B:=aj tt (K (cR (ps.take k)))) q5 hy) (λz hz=>⟨((x.a,x.n,x.c),ps[k].data),⟨rfl,x2.symm,by dsimp only;omega,hpre⟩,hz⟩) λ_ h=>h
   ·refine λv=>.of λR h ⟨mK,h2,dj,l1,l2,⟨b',hv,hb⟩,hC⟩=>?_;cases b' with
    |true=>
     refine⟨true,aE λg'=>aA (ad2 ps (cR (ps.take k)) #[.slice x.a x.n x.c] g') (aj tt (K g')),hv,⟨λh=>absurd rfl h,λ_=>⟨ahB,λ_=>⟨⟨k+1,by omega,by omega,?_⟩,by dsimp only;omega⟩⟩⟩,mK,h2,dj,l1,l2,hb,hC⟩;refine .of λR h ⟨g',⟨_,_,_,l',_,hg1,hg2⟩,H⟩=>?_;subst hg1;rw[U1 h1,Zl hpre hg2];exact H
    |false=>
     exact⟨false,Jx,hv,⟨λ_=>iW Jx (.of λR h H=>⟨none,H⟩),λh=>absurd h (by simp)⟩,mK,h2,dj,l1,l2,hb,hC⟩
 ·have LG:k=ps.length:=by omega
  subst LG;rw[List.take_length]at hP;exact iW P (hP.trans (.of λR h H=>⟨some (cR ps),rfl,H⟩))
theorem QR b room ps cy:az prog 47 #[pt b] (eE b room ps cy)
 (λv=>aE λa=>aE λc=>aA (v=.slice a (cR ps).length c/\QP room ps cy) (aj (eE b room ps cy) (LL a (cR ps).length c (cR ps)))):=by
 refine az.cM (φ:=QP room ps cy) (λR h ⟨_,_,_,hI,_⟩=>hI.1) λhD=>?_;refine be (ρ:=[.n b,.p (eE b room ps cy)]) {hv:=[(0,[(.b 2)])],aF:=[97],link:=[(97,0)],YA:=[(0,[37])]} OB [(.b 0,1)] 2 ?_;intro ob;refine(QQ b (eE b room ps cy)).wk ?_;rintro v R h ⟨bx,rfl,H⟩;refine⟨.func (.func 177) #[] #[pt bx],UZ bx b,rfl,λdb=>?_,H⟩
 have hw:(cR ps).length<=65536:=by
  have h1:(cR ps).length<=ps.length:=List.length_filterMap_le _ _;have:=hD.2.1;have:=hD.2.2.1;omega
 refine⟨List ax,λ_=>tt,prW ps,ad2 ps,λys=>ys=cR ps,[],λys a n c P=>n=ys.length/\ys<+:cR ps/\HP.aT P (LL a n c ys),LF bx b room ps cy,?_,?_,?_,?_⟩
 ·exact⟨rfl,List.nil_prefix,.of λR h _=>⟨[],⟨rfl,rfl⟩,bY.nil _ _ R h|>aD⟩⟩
 ·intro ys a n c P _;rfl
 ·rintro ys args ⟨g',a0,n0,c0,l0,rfl,rfl,hpre⟩ a n c P ⟨rfl,QG,hP⟩;refine⟨a0,n0,c0,prW ps ys #[.slice a0 n0 c0],rfl,HP.aT.refl _,?_⟩;refine az.ex (A:=λz:FF×ax=>aA (#[Value.slice a0 n0 c0]= #[LB z.1]/\z.2.length=z.1.2.1/\z.1.2.1<=140737488355328/\ys++[z.2]<+:cR ps) (bE z.1.1 z.1.2.1 z.2)) λz=>az.pure λhz=>?_;obtain⟨⟨a1,n1,c1⟩,d1⟩:=z;obtain⟨To,KS,Tp,Zm⟩:=hz;simp only[LB,Array.mk.injEq,List.cons.injEq,Value.slice.injEq,and_true]at To;obtain⟨rfl,rfl,rfl⟩:=To;simp only at KS Tp Zm;refine(gi (bE a0 n0 d1) a0 n0 c0 d1 (bX.ro _ _ _ _) KS Tp).wk ?_;rintro v R h ⟨a',c',rfl,H⟩;refine⟨a',n0,c',bE a' n0 d1,bE a0 n0 d1,rfl,λeb=>?_,H⟩;clear H;rw[ic (by decide)];refine uH ?_;obtain⟨i,hi,z1,z2,z3⟩:=info_parts ad1
  have tg:ys.length+1<=65536:=by
   have:=Zm.length_le;simp at this;omega
  refine(aR.bv (A:=aE λxs=>aA (xs.length=ys.length) (aj (bY 37 1 a ys.length c (xs.map LB)) (aj (lI xs ys) (aj (HP.one eb (.cells #[.slice a' n0 c'] 37)) (bE a' n0 d1))))) (K:=tt) (Lx λxs=>yZ λhx=>?_) ((hP.aj _).trans (.of λR h ⟨h1,h2,d,l1,l2,⟨xs,hx,H⟩,H2⟩=>aD ⟨xs,hx.1,au ⟨h1,h2,d,l1,l2,H,H2⟩⟩)) λv=>.of λ_ _ H=>ai H);have Be:=fy 118 118 37 i _ ahA hi z1 (by rw[z2];rfl) (by omega) a ys.length c (xs.map LB) (aj (lI xs ys) (aj (HP.one eb (.cells #[.slice a' n0 c'] 37)) (bE a' n0 d1))) ⟨eb,0,none⟩ 1 1 [LB (a',n0,c')] ((eQ eb _ _).left.right) (by rw[z2];rfl) (λu hu=>Zk [(a',n0,c')] u (by simpa using hu)) (by unfold maxLen;omega) (by rw[z3];omega);rw[z2]at Be;refine Be.wk ?_;rintro v R h ⟨a2,c2,rfl,H⟩;have hro:=ah (ah (ah H));have hall:=ai (ah H);refine⟨a2,ys.length+1,c2,LL a2 (ys.length+1) c2 (ys++[d1]),rfl,⟨ys++[d1],⟨a0,n0,c0,d1,rfl,rfl,Zm⟩,by simp,Zm,HP.aT.refl _⟩,?_⟩;refine ae H (λy hy=>⟨xs++[(a',n0,c')],⟨by simp[hx],by simp⟩,?_⟩) λy hy=>ah hy;refine ak (ae (aW hy) (λq _=>lI.any (lI.Dn (x:=(a',n0,c')) (p:=d1) ⟨KS.symm,by omega⟩ hro hall)) λq hq=>?_);rw[List.map_append];exact hq
 ·rintro _ rfl a n c P ⟨rfl,_,hP⟩;refine((HP.aT.refl (eE b room ps cy)).gX hP).trans (.of λR h H=>⟨a,c,⟨rfl,hD⟩,H⟩)
end
section
open Go.RowKit
theorem Zn(w:World)(g:Nat):w.drew.heap[g]? =w.heap[g]? :=rfl
section
variable {P:Program}{ops:Array Oper}{rest:List Oper}{o:Oper}{a:Act}{w:World}{Q:Exit->Act->World->Prop}
end
theorem t6 x j(hj:j<=62):bits .and .i64 x (2^j - 1)=x%2^j:=by
 have hp:(2:Int)^j - 1=((2^j - 1:Nat):Int):=by
  have:=Nat.one_le_two_pow (n:=j);rw[Int.ofNat_sub this];simp
 have hlt:(2:Nat)^j<=2^62:=Nat.pow_le_pow_right (by decide) hj
 have h1:(BitVec.ofInt 64 ((2:Int)^j - 1)).toNat=2^j - 1:=by
  rw[hp,BitVec.ofInt_natCast,BitVec.toNat_ofNat,Nat.mod_eq_of_lt (by omega)]
 have h2:(BitVec.ofInt 64 x &&& BitVec.ofInt 64 ((2:Int)^j - 1)).toNat=(BitVec.ofInt 64 x).toNat%2^j:=by
  rw[BitVec.toNat_and,h1,Nat.and_two_pow_sub_one_eq_mod]
 have h3:((BitVec.ofInt 64 x).toNat:Int)=x%2^64:=by
  rw[BitVec.toNat_ofInt];have:(0:Int)<=x%2^64:=Int.emod_nonneg _ (by decide);omega
 have h4:(((BitVec.ofInt 64 x).toNat%2^j:Nat):Int)=x%2^j:=by
  rw[Int.natCast_emod,h3,Int.natCast_pow]
  exact Int.emod_emod_of_dvd x (by
   refine⟨2^(64 - j),?_⟩;have e:(64:Nat)=j+(64 - j):=by omega
   have:=Int.pow_add (2:Int) j (64 - j);rw[<-e]at this;exact this)
 have h5:bits .and .i64 x (2^j - 1)=IntKind.i64.wrap ((BitVec.ofInt 64 x &&& BitVec.ofInt 64 ((2:Int)^j - 1)).toNat:Int):=rfl;rw[h5,h2,h4,IntKind.wrap_i64];have e1:(0:Int)<=x%2^j:=Int.emod_nonneg _ (by have:=Int.pow_pos (n:=2) (m:=j) (by decide);omega);have e2:x%2^j<2^j:=Int.emod_lt_of_pos _ (Int.pow_pos (by decide))
 have e3:((2:Int)^j)<=2^62:=by
  have:=Int.ofNat_le.2 hlt;simpa using this
 omega
theorem amA x:bits .and .i64 x 3=x%4:=t6 x 2 (by decide)
theorem OC x:bits .and .i64 x 65535=x%65536:=t6 x 16 (by decide)
def World.setObj(w:World)(r:Nat)(o:Obj):World:={w with heap:=w.heap.setIfInBounds r o}
theorem D9 w r g o(h:r<w.heap.size):(World.setObj w r o).heap[g]? =if r=g then some o else w.heap[g]? :=by
 simp only[World.setObj,Array.getElem?_setIfInBounds];split
 ·rename_i e;subst e;simp
 ·rfl
theorem Is w r o:(World.setObj w r o).heap.size=w.heap.size:=by simp[World.setObj]
section
variable {κ:Type}[DecidableEq κ]
abbrev AL(κ:Type):=List (κ×Value×Nat)
def vR(enc:κ->Value)(x:κ×Value×Nat):MapEntry:={key:=enc x.1,val:=x.2.1,born:=x.2.2}
def aX(enc:κ->Value)(l:AL κ)(c:Nat):Obj:=.map (l.map (vR enc)).toArray c
def kI(k:κ):AL κ->Nat->Option (Nat×Value)
 |[],_=>none
 |x::l,i=>if k=x.1 then some (i,x.2.1)else kI k l (i+1)
def aY(k:κ):AL κ->Option Value
 |[]=>none
 |x::l=>if k=x.1 then some x.2.1 else aY k l
def iq(k:κ)(v:Value)(c:Nat):AL κ->AL κ
 |[]=>[(k,v,c)]
 |x::l=>if k=x.1 then(k,v,x.2.2)::l else x::iq k v c l
def hU(k:κ):AL κ->AL κ
 |[]=>[]
 |x::l=>if k=x.1 then l else x::hU k l
def mY(k:κ)(l:AL κ)(c:Nat):Nat:=if(aY k l).isSome then c else c+1
theorem uK(k:κ):∀(l:AL κ) (i:Nat),(kI k l i).map (·.2)=aY k l
 |[],_=>rfl
 |x::l,i=>by unfold kI aY;split;rfl;exact uK k l (i+1)
theorem uM k:∀(l:AL κ) (i j:Nat) (v:Value),kI k l i=some (j,v)->∃m b,j=i+m/\l[m]? =some (k,v,b)/\∀(u:Value) (c:Nat),iq k u c l=l.set m (k,u,b)/\hU k l=l.eraseIdx m
 |[],_,_,_,h=>by cases h
 |x::l,i,j,v,h=>by
  unfold kI at h;split at h
  ·rename_i e;obtain⟨k',v',b⟩:=x;simp only at e;subst e;injection h with h;injection h with h1 h2;subst h1;subst h2;exact⟨0,b,rfl,rfl,λu c=>by simp[iq,hU]⟩
  ·rename_i e;obtain⟨m,b,h1,h2,h3⟩:=uM k l _ _ _ h;refine⟨m+1,b,by omega,by simpa using h2,λu c=>?_⟩;unfold iq hU;rw[aq e,aq e,(h3 u c).1,(h3 u c).2];exact⟨rfl,rfl⟩
theorem qE(k:κ):∀(l:AL κ) (i:Nat),kI k l i=none->∀(u:Value) (c:Nat),iq k u c l=l++[(k,u,c)]/\hU k l=l
 |[],_,_,_,_=>⟨rfl,rfl⟩
 |x::l,i,h,u,c=>by
  unfold kI at h;split at h
  ·cases h
  ·rename_i e;unfold iq hU;rw[aq e,aq e,(qE k l _ h u c).1,(qE k l _ h u c).2];exact⟨rfl,rfl⟩
theorem i7 k k' v c:∀l:AL κ,aY k' (iq k v c l)=if k'=k then some v else aY k' l
 |[]=>by simp[iq,aY]
 |x::l=>by
  unfold iq;split
  ·rename_i e;subst e
   by_cases h:k'=x.1<;>simp[aY,h]
  ·rename_i e;unfold aY;rw[i7 k k' v c l]
   by_cases h:k'=x.1
   ·have:k'≠k:=λh'=>e (h'.symm.trans h);simp[h,Ne.symm e]
   ·simp[h]
theorem rY(k:κ):∀l:AL κ,(∀x∈l,x.1≠k)->aY k l=none
 |[],_=>rfl
 |x::l,h=>by
  unfold aY;rw[aq (λe=>h x (by simp) e.symm),rY k l (λy hy=>h y (by simp[hy]))]
theorem mB k:∀(l:AL κ) (v:Value),aY k l=some v->∃b,(k,v,b)∈l
 |[],_,h=>by cases h
 |x::l,v,h=>by
  unfold aY at h;split at h
  ·rename_i e;obtain⟨k',v',b⟩:=x;simp only at e;subst e;injection h with h;subst h;exact⟨b,by simp⟩
  ·obtain⟨b,hb⟩:=mB k l v h;exact⟨b,by simp[hb]⟩
theorem i9 k v b:∀(l:AL κ),(l.map (·.1)).Nodup->(k,v,b)∈l->aY k l=some v
 |[],_,h=>by cases h
 |x::l,hn,h=>by
  unfold aY;rw[List.map_cons,List.nodup_cons]at hn;rcases List.mem_cons.1 h with h|h
  ·subst h;simp
  ·have:k≠x.1:=λe=>hn.1 (by rw[<-e];exact List.mem_map.2 ⟨_,h,rfl⟩);rw[aq this,i9 k v b l hn.2 h]
theorem Bf(k:κ)(v:Value)(c:Nat):∀l:AL κ,(iq k v c l).map (·.1)=if(aY k l).isSome then l.map (·.1)else l.map (·.1)++[k]
 |[]=>by simp[iq,aY]
 |x::l=>by
  unfold iq aY
  by_cases h:k=x.1
  ·simp[h]
  ·rw[aq h,aq h,List.map_cons,Bf k v c l];split<;>simp
theorem gH(k:κ):∀l:AL κ,(aY k l).isSome=true↔k∈l.map (·.1)
 |[]=>by simp[aY]
 |x::l=>by
  unfold aY
  by_cases h:k=x.1
  ·simp[h]
  ·rw[aq h,gH k l];simp[h]
theorem It k v c(l:AL κ)(h:(l.map (·.1)).Nodup):((iq k v c l).map (·.1)).Nodup:=by
 rw[Bf];split
 ·exact h
 ·rename_i hn;rw[gH]at hn;rw[List.nodup_append];exact⟨h,by simp,λa ha b hb=>by simp at hb;subst hb;exact λe=>hn (e▸ha)⟩
structure jA(P:Program)(kt:TypeId)(enc:κ->Value):Prop where
 check:∀(em:Bool) (k:κ) (w:World),(Instr.checkKey em 10000 kt (enc k)).run P w=.ok () w
 find:∀(k:κ) (l:AL κ) (w:World),(Instr.findKey kt (enc k) (l.map (vR enc))).run P w=.ok (kI k l 0) w
 bits:∀k,Instr.sameBits 10000 (enc k) (enc k)=true
theorem run_getObj_map{P}{w}{r}{es}{c}(h:w.heap[r]? =some (.map es c)):(getObj r).run P w=.ok (.map es c) w:=by
 simp[getObj,Sem.run,h]
theorem run_setObj_map{P}{w}{r}{es}{c} o(h:w.heap[r]? =some (.map es c)):(setObj r o).run P w=.ok () (World.setObj w r o):=by
 simp[Go.setObj,Sem.run,h,World.setObj]
theorem vS{P}{w}{kt et t}{enc}(K:jA P kt enc)(ht:P.underlying t=some (.map kt et)){r}{l}{c}
 (hb:w.heap[r]? =some (aX enc l c)) (k:κ)  v:
 (Instr.mapUpdate t (.map (some r)) (enc k) v).run P w=.ok () (World.setObj w r (aX enc (iq k v c l) (mY k l c))):=by
 unfold aX at hb;unfold Instr.mapUpdate;simp only[Sem.run_bind,run_underlying ht,Result.andThen,run_getObj_map hb,K.check,K.find];have hf:=uK k l 0;cases hi:kI k l 0 with
 |none=>
  rw[hi]at hf;simp only[run_setObj_map _ hb,mY,<-hf,(qE k l 0 hi v c).1];simp[aX,vR]
 |some p=>
  obtain⟨j,u⟩:=p;rw[hi]at hf;obtain⟨m,b,h1,h2,h3⟩:=uM k l 0 j u hi;obtain rfl:j=m:=by omega
  have hm:((l.map (vR enc)).toArray[j]?.map (·.key)).getD (enc k)=enc k:=by
   simp[h2,vR]
  simp only[hm,Instr.keyThatStays,K.bits,if_true,Sem.run_bind,Sem.run_pure,Result.andThen,run_setObj_map _ hb,mY,<-hf,(h3 v c).1];simp only[aX,Option.map_some,Option.isSome_some,if_true];congr 3;apply Array.ext_getElem?;intro i
  have hj:j<l.length:=by
   rcases Nat.lt_or_ge j l.length with h|h
   ·exact h
   ·rw[List.getElem?_eq_none h]at h2;cases h2
  simp only[Array.getElem?_modify,List.getElem?_toArray,List.getElem?_map,List.getElem?_set]
  by_cases e:j=i
  ·subst e;rw[aB rfl,aB hj,h2];simp[vR]
  ·simp[e]
theorem Bg{P}{w}{kt et t}{enc}(K:jA P kt enc)(ht:P.underlying t=some (.map kt et)){r}{l}{c}
 (hb:w.heap[r]? =some (aX enc l c)) (k:κ)  z (hz:(zeroValue et).run P w=.ok z w)  ok:
 (Instr.lookup t (.map (some r)) (enc k) ok).run P w=.ok (if ok then .tuple #[(aY k l).getD z,.bool (aY k l).isSome]else(aY k l).getD z) w:=by
 unfold aX at hb;unfold Instr.lookup;simp only[Sem.run_bind,run_underlying ht,Result.andThen,run_getObj_map hb,Sem.run_pure,K.check,K.find];have hf:=uK k l 0;cases hi:kI k l 0 with
 |none=>rw[hi]at hf;simp[<-hf,hz,Result.andThen]
 |some p=>rw[hi]at hf;simp[<-hf]
theorem t7{α β:Type}(f:α->β):∀(l:List α) (i:Nat),(l.map f).eraseIdx i=(l.eraseIdx i).map f
 |[],_=>by simp
 |_::_,0=>rfl
 |x::l,i+1=>by simp[t7 f l i]
theorem Bh{P}{w}{kt et t}{enc}(K:jA P kt enc)(ht:P.underlying t=some (.map kt et)){r}{l}{c}
 (hb:w.heap[r]? =some (aX enc l c)) (k:κ)  ts  ty (h0:ts[0]? =some t):
 (Builtin.delete_ ts ty #[.map (some r),enc k]).run P w=.ok (cE) (World.setObj w r (aX enc (hU k l) c)):=by
 unfold aX at hb;unfold Builtin.delete_;simp only[h0,List.getElem?_toArray,List.getElem?_cons_zero,List.getElem?_cons_succ,Sem.run_bind,run_underlying ht,Result.andThen,run_getObj_map hb,K.check,K.find];cases hi:kI k l 0 with
 |none=>
  simp only[(qE k l 0 hi .nilFunc 0).2];rw[Sem.run_bind,run_setObj_map _ hb];rfl
 |some p=>
  obtain⟨j,u⟩:=p;obtain⟨m,b,h1,h2,h3⟩:=uM k l 0 j u hi;obtain rfl:j=m:=by omega
  simp only[(h3 .nilFunc 0).2];rw[Sem.run_bind,run_setObj_map _ hb];simp only[aX,Result.andThen_ok,Sem.run_pure];congr 3
  have hj:j<l.length:=by
   rcases Nat.lt_or_ge j l.length with h|h
   ·exact h
   ·rw[List.getElem?_eq_none h]at h2;cases h2
  simp[Array.eraseIdxIfInBounds,hj,t7]
end
theorem OE{P}{kt}{ik}(h:P.underlying kt=some (.int ik)):jA P kt (λn:Int=>Value.int ik n) where
 check em k w:=by
  unfold Instr.checkKey;simp[run_underlying h]
 find k l w:=by
  unfold Instr.findKey
  have hn:∀(l:AL Int) (i:Nat),Instr.findNow (.int ik) (.int ik k) (l.map (vR λn:Int=>Value.int ik n)) i=some (kI k l i):=by
   intro l
   induction l with
   |nil=>intro i;rfl
   |cons x l ih=>
    intro i;simp only[List.map_cons,Instr.findNow,vR,Instr.sameNow,if_true,kI]
    by_cases e:k=x.1
    ·simp[e]
    ·have:(k==x.1)=false:=by simpa using e
     simp only[this,aq e];exact ih (i+1)
  simp only[Sem.run_bind,run_underlying h,Result.andThen,hn,Sem.run_pure]
 bits k:=by simp[Instr.sameBits]
section
variable {P:Program}{ops:Array Oper}{rest:List Oper}{o:Oper}{a:Act}{w:World}{Q:Exit->Act->World->Prop}{κ:Type}[DecidableEq κ]
end
end
section
open Go.RowKit
set_option linter.unusedSectionVars false
section
variable {P:Program}{κ:Type}[DecidableEq κ]{enc:κ->Value}
structure ja(l:AL κ)(c:Nat):Prop where
 low:∀x∈l,x.2.2<c
 nodup:(l.map (·.2.2)).Nodup
theorem ja.nil c:ja ([]:AL κ) c:=⟨(λx h=>by cases h),List.nodup_nil⟩
theorem ja.Dn{l}{c}(h:ja l c)(k:κ) v:ja (l++[(k,v,c)]) (c+1):=by
 refine⟨λx hx=>?_,?_⟩
 ·rcases List.mem_append.1 hx with hx|hx
  ·have:=h.low x hx;omega
  ·simp at hx;subst hx;simp
 ·rw[List.map_append,List.nodup_append];refine⟨h.nodup,by simp,λa ha b hb=>?_⟩;simp at hb;subst hb;obtain⟨x,hx,rfl⟩:=List.mem_map.1 ha;have:=h.low x hx;omega
theorem vT{w}{it m c}{S}{l} ty(hit:w.heap[it]? =some (.mapIter (some m) c S c))(hm:w.heap[m]? =some (aX enc l c))(hs:ja l c):
 ((∀x∈l,x.2.2∈S)/\(Instr.next (pt it) false ty).run P w=.ok (.tuple #[.bool false]) w)\/
 ∃x∈l,x.2.2∉S/\∃w1,(w1=w\/w1=w.drew)/\(Instr.next (pt it) false ty).run P w=.ok (.tuple #[.bool true,enc x.1,x.2.1]) (World.setObj w1 it (.mapIter (some m) c (S.push x.2.2) c)):=by
 unfold aX at hm
 have hold:∀x∈(l.map (vR enc)).toArray.toList,x.born<c:=λx hx=>by
  simp only at hx;obtain⟨y,hy,rfl⟩:=List.mem_map.1 hx;exact hs.low y hy
 have ahC:=next_test_false S (l.map (vR enc)).toArray c c hold (Nat.le_refl _)
 have uN:∀(w1:World) (o:Obj),(w1=w\/w1=w.drew)->(setObj it o).run P w1=.ok () (World.setObj w1 it o):=λw1 o hw=>by
  rcases hw with rfl|rfl<;>simp[Go.setObj,Sem.run,hit,World.setObj,Zn]
 have acf:∀x∈(Array.filter (λe=> !S.contains e.born) (l.map (vR enc)).toArray).toList,∃y∈l,x=vR enc y/\y.2.2∉S:=λx hx=>by
  simp at hx;obtain⟨⟨a,b,d,hy,rfl⟩,h2⟩:=hx;exact⟨(a,b,d),hy,rfl,by simpa[vR]using h2⟩
 have acg:(Array.filter (λe=> !S.contains e.born) (l.map (vR enc)).toArray).size=0->∀y∈l,y.2.2∈S:=λh0 y hy=>by
  have h1:=Array.eq_empty_of_size_eq_zero h0;rw[Array.filter_eq_empty_iff]at h1;have:=h1 (a:=vR enc y) (by simp;exact⟨_,_,_,hy,rfl⟩);simpa[vR]using this
 simp only[Instr.next,getObj,Sem.run_bind,Sem.run,hit,hm,Result.andThen,ahC,Bool.false_eq_true,if_false];have Ib:∀x∈(Array.filter (λe=> !S.contains e.born) (l.map (vR enc)).toArray).toList,x.born<c:=λx hx=>hold x (by simp at hx⊢;exact hx.1);generalize Array.filter (λe=> !S.contains e.born) (l.map (vR enc)).toArray=L at Ib acf acg⊢;have e1:L.filter (λx=>decide (x.born<c))=L:=Array.filter_eq_self.2 (λx hx=>by simpa using Ib x (by simpa using hx))
 have e2:L.filter (λx=>decide (x.born≥c))= #[]:=by
  rw[Array.filter_eq_empty_iff];intro x hx;have:=Ib x (by simpa using hx);simp;omega
 simp only[e1,e2,Array.append_empty]
 by_cases h0:L.size=0
 ·left;refine⟨acg h0,?_⟩;have:L= #[]:=Array.eq_empty_of_size_eq_zero h0;subst this;simp[choose,Sem.run,Question.forced]
 ·right;have hne:L.isEmpty=false:=by simp[Array.isEmpty,h0]
  simp only[hne,Bool.false_eq_true,if_false,Array.empty_append,Array.size_map]
  have hch:∃(j:Nat) (w1:World),j<L.size/\(w1=w\/w1=w.drew)/\(choose (Question.mapNext L.size)).run P w=.ok j w1:=by
   by_cases hf:L.size<=1
   ·exact⟨0,w,by omega,.inl rfl,by simp[choose,Sem.run,Question.forced,hf]⟩
   ·exact⟨_,w.drew,Nat.mod_lt _ (by omega),.inr rfl,by
     simp only[choose,Sem.run,Question.forced,decide_eq_true_eq,hf,if_false,Question.cut];rfl⟩
  obtain⟨j,w1,hj,hal,fg⟩:=hch;obtain⟨y,hy,hLj,FG⟩:=acf L[j] (by simp);refine⟨y,hy,FG,w1,hal,?_⟩;simp only[fg,Array.getElem?_map,Array.getElem?_eq_getElem hj,Option.map_some,Sem.run_bind,hLj,vR];rw[uN w1 _ hal];rfl
theorem Do{w}{it m c}{S:Array Nat}{l}{x}(hit:w.heap[it]? =some (.mapIter (some m) c (S.push x.2.2) c))(hm:w.heap[m]? =some (aX enc l c))(hs:ja l c)(hx:x∈l):
 (Instr.entry (pt it)).run P w=.ok (.tuple #[enc x.1,x.2.1]) w:=by
 unfold aX at hm
 have hf:(l.map (vR enc)).toArray.find? (·.born==x.2.2)=some (vR enc x):=by
  rw[<-Array.find?_toList];exact find_born (vR enc x) (l.map (vR enc)) (by rw[List.map_map];exact hs.nodup) (List.mem_map.2 ⟨x,hx,rfl⟩)
 simp only[Instr.entry,getObj,Sem.run_bind,Sem.run,hit,hm,Result.andThen,Array.back?_push,bne_self_eq_false,Bool.false_eq_true,if_false,hf];rfl
theorem t8{w}{t k e}{m c}{l}(ht:P.underlying t=some (.map k e))(hb:w.heap[m]? =some (aX enc l c)):
 (Instr.range t (.map (some m))).run P w=.ok (pt w.heap.size) (w.alloc (.mapIter (some m) c #[] c)):=
 run_range_map w t k e m _ c ht hb
end
def kJ{κ:Type}(l:AL κ)(S:Array Nat):Nat:=(l.filter λx=> !S.contains x.2.2).length
theorem jU{κ:Type}{l}{S}{x:κ×Value×Nat}(hx:x∈l)(hS:x.2.2∉S):kJ l (S.push x.2.2)<kJ l S:=by
 unfold kJ;refine filter_lt (λy:κ×Value×Nat=> !S.contains y.2.2) (λy=> !(S.push x.2.2).contains y.2.2) ?_ x ?_ ?_ l hx
 ·intro y hy;simp only[Array.contains_push,Bool.not_or,Bool.and_eq_true]at hy;exact hy.1
 ·simpa using hS
 ·simp
section
variable {P:Program}{ops:Array Oper}{rest:List Oper}{o:Oper}{a:Act}{w:World}{Q:Exit->Act->World->Prop}{κ:Type}[DecidableEq κ]{enc:κ->Value}
end
end
section
open RX
section
variable {κ:Type}[DecidableEq κ]{enc:κ->Value}{kt et t ty:TypeId}{r m it c:Nat}{l:AL κ}{S:Array Nat}
def fC(l:AL κ)(c:Nat):Prop:=(l.map (·.1)).Nodup/\ja l c
def mM(t:TypeId)(m k:Value)(ok:Bool):Sem Next:=do pure (.value (<-Instr.lookup t m k ok))
theorem FH{ρ:cd}{i j:Nat}{u v}{ok}(h:i≠j):fp ρ (.lookup t (.tmp i) (.tmp j) ok) ty [(i,u),(j,v)]=mM t (u.den ρ) (v.den ρ) ok:=by
 have h':(i==j)=false:=by simpa using h
 simp[fp,execOp,ib,h',mM]
theorem Ea{w}{i}{z}(hi:prog.info? et=some i)(hz:i.zero=some z):(zeroValue et).run prog w=.ok z w:=by
 unfold zeroValue;simp only[Sem.run_bind,RX.run_typeInfo hi,Result.andThen_ok,hz];rfl
theorem iO(K:jA prog kt enc)(ht:prog.underlying t=some (.map kt et)){i}{z}(hi:prog.info? et=some i)(hz:i.zero=some z) k ok{A}(hA:∀R h,A.p R h->h r=some (aX enc l c)):
 aM prog (mM t (.map (some r)) (enc k) ok) A (if ok then .tuple #[(aY k l).getD z,.bool (aY k l).isSome]else(aY k l).getD z):=λw R h F s a=>by
 unfold mM;rw[Sem.run_bind,Bg K ht (s.oh _ _ (hA R h a)) k z (Ea hi hz) ok];rfl
theorem Sat.setObj{w}{R h F}(s:Sat w R h F){b}{x y}(hb:h b=some x):Sat (World.setObj w b y) R (λk=>if k=b then some y else h k) F:=
 s.bU hb (λk hk=>by rw[D9 _ _ _ _ (s.oh.lt hb),aq (λe=>hk e.symm)]) (by rw[D9 _ _ _ _ (s.oh.lt hb),aB rfl])
theorem Same.setObj w b y:Same w (World.setObj w b y):=⟨rfl,rfl,rfl,by rw[Is];omega⟩
def kK(t:TypeId)(m k v:Value):Sem Next:=do Instr.mapUpdate t m k v;pure .skip
theorem qF{ρ:cd}{i j q:Nat}{u v x}(h:i≠j)(h2:i≠q)(h3:j≠q):fp ρ (.mapUpdate t (.tmp i) (.tmp j) (.tmp q)) ty [(i,u),(j,v),(q,x)]=kK t (u.den ρ) (v.den ρ) (x.den ρ):=by
 have h':(i==j)=false:=by simpa using h
 have Zo:(i==q)=false:=by simpa using h2
 have h3':(j==q)=false:=by simpa using h3
 simp[fp,execOp,ib,h',Zo,h3',kK]
theorem o6(K:jA prog kt enc)(ht:prog.underlying t=some (.map kt et)) k v:
 aR prog (kK t (.map (some r)) (enc k) v) (HP.one r (aX enc l c)) (λx=>aA (x=cE) (HP.one r (aX enc (iq k v c l) (mY k l c)))):=λw R h F s a=>by
 refine⟨.skip,_,_,by unfold kK;rw[Sem.run_bind,vS K ht (s.oh _ _ a) k v];rfl,rfl,Same.setObj _ _ _,R,_,PH.le.refl _,s.setObj a,rfl,aB rfl⟩
def xR(ts:Array TypeId)(ty:TypeId)(u v:Value):Sem Next:=do pure (.value (<-Builtin.delete_ ts ty #[u,v]))
theorem FJ{ρ:cd}{i j:Nat}{u v}{ts}(h:i≠j):fp ρ (.call ⟨.builtin .delete,#[.tmp i,.tmp j],ts⟩) ty [(i,u),(j,v)]=xR ts ty (u.den ρ) (v.den ρ):=by
 have h':(i==j)=false:=by simpa using h
 simp[fp,execOp,resolve,ib,invoke,builtin,h',xR]
theorem LH(K:jA prog kt enc)(ht:prog.underlying t=some (.map kt et)) k ts(h0:ts[0]? =some t):
 aR prog (xR ts ty (.map (some r)) (enc k)) (HP.one r (aX enc l c)) (λx=>aA (x=cE) (HP.one r (aX enc (hU k l) c))):=λw R h F s a=>by
 refine⟨.value _,_,_,by unfold xR;rw[Sem.run_bind,Bh K ht (s.oh _ _ a) k ts ty h0];rfl,rfl,Same.setObj _ _ _,R,_,PH.le.refl _,s.setObj a,rfl,aB rfl⟩
def q9(t:TypeId)(m:Value):Sem Next:=do pure (.value (<-Instr.range t m))
theorem Iu{ρ:cd}{i:Nat}{u}:fp ρ (.range t (.tmp i)) ty [(i,u)]=q9 t (u.den ρ):=by
 simp[fp,execOp,ib,q9]
theorem rU{k e}(ht:prog.underlying t=some (.map k e)):
 aR prog (q9 t (.map (some m))) (HP.one m (aX enc l c)) (λv=>aE λit=>aA (v=pt it) (aj (HP.one it (.mapIter (some m) c #[] c)) (HP.one m (aX enc l c)))):=λw R h F s a=>by
 obtain⟨s2,d2⟩:=s.alloc (.mapIter (some m) c #[] c);refine⟨.value _,_,_,by unfold q9;rw[Sem.run_bind,t8 ht (s.oh _ _ a)];rfl,rfl,Same.alloc _ _,R,_,PH.le.refl _,s2,w.heap.size,rfl,_,h,d2,PH.dC _ _,PH.cP d2,PH.cX _ _,a⟩
def oD(x:Value)(ty:TypeId):Sem Next:=do pure (.value (<-Instr.next x false ty))
theorem LI{ρ:cd}{i:Nat}{u}:fp ρ (.next (.tmp i) false) ty [(i,u)]=oD (u.den ρ) ty:=by
 simp[fp,execOp,ib,oD]
def Iv(enc:κ->Value)(l:AL κ)(S:Array Nat)(v:Value):Option (κ×Value×Nat)->Prop
 |none=>v=.tuple #[.bool false]/\∀x∈l,x.2.2∈S
 |some x=>v=.tuple #[.bool true,enc x.1,x.2.1]/\x∈l/\x.2.2∉S
def gR(S:Array Nat):Option (κ×Value×Nat)->Array Nat
 |none=>S
 |some x=>S.push x.2.2
theorem th(hs:ja l c):aR prog (oD (pt it) ty) (aj (HP.one it (.mapIter (some m) c S c)) (HP.one m (aX enc l c)))
 (λv=>aE λe=>aA (Iv enc l S v e) (aj (HP.one it (.mapIter (some m) c (gR S e) c)) (HP.one m (aX enc l c)))):=λw R h F s a=>by
 have a1:=ai a;have a2:=ah a
 have hne:m≠it:=by
  obtain⟨h1,h2,d,_,_,b1,b2⟩:=a;intro e;subst e;rcases d m with e|e
  ·rw[show h1 m=some _ from b1]at e;cases e
  ·rw[show h2 m=some _ from b2]at e;cases e
 rcases vT (P:=prog) ty (s.oh _ _ a1) (s.oh _ _ a2) hs with⟨hall,fg⟩|⟨x,hx,hS,w1,Tq,fg⟩
 ·exact⟨.value _,_,w,by unfold oD;rw[Sem.run_bind,fg];rfl,rfl,Same.refl _,R,h,PH.le.refl _,s,none,⟨rfl,hall⟩,a⟩
 ·have s1:Sat w1 R h F/\Same w w1:=by
   rcases Tq with rfl|rfl
   ·exact⟨s,Same.refl _⟩
   ·exact⟨s.drew _,Same.drew w _⟩
  refine⟨.value _,_,_,by unfold oD;rw[Sem.run_bind,fg];rfl,rfl,s1.2.trans (Same.setObj _ _ _),R,_,PH.le.refl _,s1.1.setObj a1,some x,⟨rfl,hx,hS⟩,PH.one it _,PH.one m (aX enc l c),λk=>?_,PH.oT (aB rfl),PH.oT ?_,PH.cX _ _,PH.cX _ _⟩
  ·by_cases e:k=it
   ·subst e;exact .inr (aq (λe=>hne e.symm))
   ·exact .inl (aq e)
  ·exact(aq hne).trans a2
def Zp(x:Value):Sem Next:=do pure (.value (<-Instr.entry x))
theorem nA{x}(hs:ja l c)(hx:x∈l){A}(h1:∀R h,A.p R h->h it=some (.mapIter (some m) c (S.push x.2.2) c))(h2:∀R h,A.p R h->h m=some (aX enc l c)):
 aM prog (Zp (pt it)) A (.tuple #[enc x.1,x.2.1]):=λw R h F s a=>by
 unfold Zp;rw[Sem.run_bind,Do (P:=prog) (s.oh _ _ (h1 R h a)) (s.oh _ _ (h2 R h a)) hs hx];rfl
end
section
variable {κ:Type}[DecidableEq κ]{enc:κ->Value}{r c:Nat}{l:AL κ}
theorem uO(k:κ)(v:Value)(c:Nat):∀l:AL κ,aY k l=none->iq k v c l=l++[(k,v,c)]
 |[],_=>rfl
 |x::l,h=>by
  simp only[aY]at h;split at h
  ·cases h
  ·rename_i hk;simp[iq,hk,uO k v c l h]
theorem Bi(k:κ)(v:Value)(c:Nat):∀l:AL κ,(aY k l).isSome=true->(iq k v c l).map (·.2.2)=l.map (·.2.2)
 |[],h=>by cases h
 |x::l,h=>by
  simp only[aY]at h;simp only[iq];split at h
  ·rename_i hk;simp[hk]
  ·rename_i hk;simp[hk,Bi k v c l h]
theorem fC.nil c:fC ([]:AL κ) c:=⟨List.nodup_nil,ja.nil c⟩
theorem fC.put(h:fC l c) k v:fC (iq k v c l) (mY k l c):=by
 refine⟨It k v c l h.1,?_⟩;unfold mY;cases hf:aY k l with
 |none=>
  rw[uO k v c l hf];exact h.2.Dn k v
 |some u=>
  have hb:=Bi k v c l (by rw[hf];rfl);refine⟨λx hx=>?_,by rw[hb];exact h.2.nodup⟩;have:x.2.2∈(iq k v c l).map (·.2.2):=List.mem_map.2 ⟨x,hx,rfl⟩;rw[hb]at this;obtain⟨y,hy,e⟩:=List.mem_map.1 this;rw[<-e];exact h.2.low y hy
theorem j9(k:κ):∀l:AL κ,(hU k l).Sublist l
 |[]=>List.Sublist.refl _
 |x::l=>by
  simp only[hU];split
  ·exact List.sublist_cons_self _ _
  ·exact(j9 k l).cons_cons _
theorem fC.OF(h:fC l c) k:fC (hU k l) c:=
 ⟨List.Nodup.sublist ((j9 k l).map _) h.1,λx hx=>h.2.low x ((j9 k l).subset hx),List.Nodup.sublist ((j9 k l).map _) h.2.nodup⟩
theorem lJ(k k':κ):∀l:AL κ,(l.map (·.1)).Nodup->aY k' (hU k l)=if k'=k then none else aY k' l
 |[],_=>by simp[hU,aY]
 |x::l,h=>by
  simp only[List.map_cons,List.nodup_cons]at h;simp only[hU];split
  ·rename_i hk;subst hk;split
   ·rename_i e;subst e;exact rY _ l λy hy e=>h.1 (List.mem_map.2 ⟨y,hy,e⟩)
   ·rename_i e;simp[aY,e]
  ·rename_i hk;simp only[aY];rw[lJ k k' l h.2]
   by_cases e:k'=x.1
   ·rw[aB e,aB e,aq (λe2=>hk (by rw[<-e2,e]))]
   ·rw[aq e,aq e]
def Iw{α:Type}(V:Value->α->HP):Prop:=∀v x R h h',(V v x).p R h->(V v x).p R h'
def o7{α:Type}(V:Value->α->HP)(l:AL κ)(f:κ->Option α):HP:=
 ⟨λR h=>∀k,match aY k l,f k with
   |none,none=>True
   |some v,some x=>(V v x).p R h
   |_,_=>False,
  λlR lh H k=>by
   have:=H k;revert this;cases aY k l<;>cases f k<;>simp only[imp_self];exact λp=>(V _ _).mono lR lh p⟩
variable {α:Type}{V:Value->α->HP}{f:κ->Option α}
def g7(f:κ->Option α)(k:κ)(x:Option α):κ->Option α:=λk'=>if k'=k then x else f k'
theorem o7.nil{R h}:(o7 V ([]:AL κ) (λ_=>none)).p R h:=λ_=>trivial
theorem o7.put{R h}(H:(o7 V l f).p R h) k v c x(hv:(V v x).p R h):(o7 V (iq k v c l) (g7 f k (some x))).p R h:=λk'=>by
 rw[i7,g7]
 by_cases e:k'=k
 ·rw[aB e,aB e];exact hv
 ·rw[aq e,aq e];exact H k'
theorem o7.OF{R h}(H:(o7 V l f).p R h)(hn:(l.map (·.1)).Nodup) k:(o7 V (hU k l) (g7 f k none)).p R h:=λk'=>by
 rw[lJ _ _ _ hn,g7]
 by_cases e:k'=k
 ·rw[aB e,aB e];trivial
 ·rw[aq e,aq e];exact H k'
def aH(V:Value->α->HP)(enc:κ->Value)(r:Nat)(f:κ->Option α)(l:AL κ)(c:Nat):HP:=aA (fC l c) (aj (HP.one r (aX enc l c)) (o7 V l f))
def gI(V:Value->α->HP)(enc:κ->Value)(r:Nat)(f:κ->Option α):HP:=aE λl=>aE λc=>aH V enc r f l c
theorem gI.new(V:Value->α->HP)(enc:κ->Value) r{R h}(H:(HP.one r (.map #[] 0)).p R h):(gI V enc r (λ_=>none)).p R h:=
 ⟨[],0,fC.nil 0,ae (aD H) (λ_ h=>h) λ_ _=>o7.nil⟩
theorem aH.at{R h}(H:(aH V enc r f l c).p R h):h r=some (aX enc l c):=ai H.2
theorem aH.Dp{R h}(H:(aH V enc r f l c).p R h)(hV:Iw V){k}{x}(e:f k=some x) h':∃v,aY k l=some v/\(V v x).p R h':=by
 have:=ah H.2 k;rw[e]at this;revert this;cases aY k l with
 |none=>exact λh=>h.elim
 |some v=>exact λh=>⟨v,rfl,hV _ _ _ _ _ h⟩
theorem aH.no{R h}(H:(aH V enc r f l c).p R h){k}(e:f k=none):aY k l=none:=by
 have:=ah H.2 k;rw[e]at this;revert this;cases aY k l with
 |none=>exact λ_=>rfl
 |some v=>exact λh=>h.elim
theorem aH.put{kt et t}(K:jA prog kt enc)(ht:prog.underlying t=some (.map kt et))(hV:Iw V) k v x{A}(hv:∀R h,A.p R h->(V v x).p R h):
 aR prog (kK t (.map (some r)) (enc k) v) (aj (aH V enc r f l c) A) (λz=>aA (z=cE) (aj (gI V enc r (g7 f k (some x))) A)):=by
 refine aR.cM (φ:=fC l c) (λR h H=>(ai H).1) λhI=>?_;refine((o6 (r:=r) (l:=l) (c:=c) K ht k v).frame (aj (o7 V l f) A)).aK (λR h ⟨h1,h2,d,l1,l2,⟨_,H⟩,hA⟩=>au ⟨h1,h2,d,l1,l2,H,hA⟩) ?_;rintro z R h ⟨h1,h2,d,l1,l2,⟨rfl,A5⟩,iY⟩;have hx:=hv _ _ (ah iY);refine⟨rfl,ae (aC ⟨h1,h2,d,l1,l2,A5,iY⟩) (λy hy=>⟨_,_,hI.put k v,ae hy (λ_ h=>h) λq hq=>o7.put hq k v c x (hV _ _ _ _ _ hx)⟩) λ_ h=>h⟩
theorem aH.OF{kt et t}(K:jA prog kt enc)(ht:prog.underlying t=some (.map kt et)) k ts ty(h0:ts[0]? =some t):
 aR prog (xR ts ty (.map (some r)) (enc k)) (aH V enc r f l c) (λz=>aA (z=cE) (aH V enc r (g7 f k none) (hU k l) c)):=by
 refine aR.cM (φ:=fC l c) (λR h H=>H.1) λhI=>?_;refine((LH (r:=r) (l:=l) (c:=c) (ty:=ty) K ht k ts h0).frame (o7 V l f)).aK (λR h ⟨_,H⟩=>H) ?_;rintro z R h ⟨h1,h2,d,l1,l2,⟨rfl,A5⟩,iY⟩;exact⟨rfl,hI.OF k,h1,h2,d,l1,l2,A5,o7.OF iY hI.1 k⟩
end
theorem Bj{κ α:Type}[DecidableEq κ]{enc}{m it c}{l}{V}{f:κ->Option α}{S}{ty}(hs:ja l c):
 aR prog (oD (pt it) ty) (aj (HP.one it (.mapIter (some m) c S c)) (aH V enc m f l c))
 (λv=>aE λe=>aA (Iv enc l S v e) (aj (HP.one it (.mapIter (some m) c (gR S e) c)) (aH V enc m f l c))):=by
 refine aR.cM (φ:=fC l c) (λR h H=>(ah H).1) λhI=>?_;refine((th (m:=m) (it:=it) (S:=S) (ty:=ty) (enc:=enc) hs).frame (o7 V l f)).aK (λR h ⟨h1,h2,d,l1,l2,H1,⟨_,H2⟩⟩=>aC ⟨h1,h2,d,l1,l2,H1,H2⟩) ?_;rintro v R h ⟨h1,h2,d,l1,l2,⟨e,he,H⟩,HV⟩;exact⟨e,he,ae (au ⟨h1,h2,d,l1,l2,H,HV⟩) (λ_ h=>h) λy hy=>⟨hI,hy⟩⟩
def lW(ar:List (Nat×Value)):Operand->Value
 | .tmp t=>match ar.find? (·.1==t)with
   |some x=>x.2
   |none=>undef
 | .const v=>v
 | .global g=>pt g
 | .func f=>.func (.func f) #[] #[]
def bZ(o:Op)(ty:TypeId)(ar:List (Nat×Value)):Sem Next:=execOp (lW ar) {dst:=none,op:=o,type:=ty,pos:= "",after:= #[],guard:=none}
theorem Ix(ρ:cd)(t:Nat):∀ar:List (Nat×V),(ar.map λx=>(x.1,x.2.den ρ)).find? (·.1==t)=(ar.find? (·.1==t)).map λx=>(x.1,x.2.den ρ)
 |[]=>rfl
 |x::r=>by
  simp only[List.map_cons,List.find?_cons];cases x.1==t<;>simp[Ix ρ t r]
theorem vU{ρ:cd}{o}{ty}{ar}:fp ρ o ty ar=bZ o ty (ar.map λx=>(x.1,x.2.den ρ)):=by
 have h:ib ρ ar=lW (ar.map λx=>(x.1,x.2.den ρ)):=by
  funext x;cases x with
  |tmp t=>
   simp only[ib,lW,Ix];cases ar.find? (·.1==t)<;>rfl
  |const v=>rfl
  |global g=>rfl
  |func f=>rfl
 unfold fp bZ;rw[h]
section
variable {t ty:TypeId}{i j q:Nat}{u v x:Value}
theorem Eb:bZ (.load t (.tmp i)) ty [(i,u)]=bO t u:=by simp[bZ,execOp,lW,bO]
theorem Bk(h:i≠j):bZ (.store t (.tmp i) (.tmp j)) ty [(i,u),(j,v)]=cv t u v:=by
 have h':(i==j)=false:=by simpa using h
 simp[bZ,execOp,lW,h',cv]
theorem y9:bZ (.store t (.tmp i) (.const v)) ty [(i,u)]=cv t u v:=by simp[bZ,execOp,lW,cv]
theorem zb(h:i≠j):bZ (.call ⟨.builtin .append,#[.tmp i,.tmp j],#[t,t]⟩) ty [(i,u),(j,v)]=o4 t ty u v:=by
 have h':(i==j)=false:=by simpa using h
 simp[bZ,execOp,resolve,lW,invoke,builtin,h',o4]
theorem zd{ok}(h:i≠j):bZ (.lookup t (.tmp i) (.tmp j) ok) ty [(i,u),(j,v)]=mM t u v ok:=by
 have h':(i==j)=false:=by simpa using h
 simp[bZ,execOp,lW,h',mM]
theorem vV{ok}{k}:bZ (.lookup t (.tmp i) (.const k) ok) ty [(i,u)]=mM t u k ok:=by
 simp[bZ,execOp,lW,mM]
theorem ze(h:i≠j)(h2:i≠q)(h3:j≠q):bZ (.mapUpdate t (.tmp i) (.tmp j) (.tmp q)) ty [(i,u),(j,v),(q,x)]=kK t u v x:=by
 have h':(i==j)=false:=by simpa using h
 have Zo:(i==q)=false:=by simpa using h2
 have h3':(j==q)=false:=by simpa using h3
 simp[bZ,execOp,lW,h',Zo,h3',kK]
theorem vW{k}(h:i≠j):bZ (.mapUpdate t (.tmp i) (.tmp j) (.const k)) ty [(i,u),(j,v)]=kK t u v k:=by
 have h':(i==j)=false:=by simpa using h
 simp[bZ,execOp,lW,h',kK]
theorem vX{k}(h:i≠j):bZ (.mapUpdate t (.tmp i) (.const k) (.tmp j)) ty [(i,u),(j,v)]=kK t u k v:=by
 have h':(i==j)=false:=by simpa using h
 simp[bZ,execOp,lW,h',kK]
theorem zf{ts}(h:i≠j):bZ (.call ⟨.builtin .delete,#[.tmp i,.tmp j],ts⟩) ty [(i,u),(j,v)]=xR ts ty u v:=by
 have h':(i==j)=false:=by simpa using h
 simp[bZ,execOp,resolve,lW,invoke,builtin,h',xR]
theorem Bl:bZ (.range t (.tmp i)) ty [(i,u)]=q9 t u:=by simp[bZ,execOp,lW,q9]
theorem Ec:bZ (.next (.tmp i) false) ty [(i,u)]=oD u ty:=by simp[bZ,execOp,lW,oD]
theorem Bm:bZ (.entry (.tmp i)) ty [(i,u)]=Zp u:=by simp[bZ,execOp,lW,Zp]
theorem jc{lo hi mx}{y}{ar}:bZ (.slice t y lo hi mx) ty ar=i6 t (lW ar y) (lo.map (lW ar)) (hi.map (lW ar)) (mx.map (lW ar)):=rfl
def QS(u:Value):Sem Next:=bZ (.nilCheck (.tmp 0)) 0 [(0,u)]
theorem Iy:bZ (.nilCheck (.tmp i)) ty [(i,u)]=QS u:=by simp[QS,bZ,execOp,lW]
end
theorem ao{P}{post}{f}{ρ:cd} bt args h0 n{Y}(y:Y)
 (e:T.den P post (tree P bt (QK P f) args h0 n) [] ρ=Y:=by(conv=>lhs;(conv=>(arg 3;reduce));simp(maxSteps:=3000000) only[T.den,E.prop,E.den,RX.look,F1.app,F2.app,pG,rH,lE,DP,Hf,N2,TF,cT,jH,V.den,W.den,A.den,BR.den,SA.den,FV.den,K0,KR,N3,rv,pE.app,List.map_cons,List.map_nil,List.cons_append,List.nil_append,List.drop_succ_cons,List.drop_zero,List.length_cons,List.length_nil,Nat.zero_add,Nat.reduceAdd,Int.neg_neg,Bool.not_not,List.append_nil,Nat.add_zero,List.getElem?_cons_zero,List.getElem?_cons_succ,Decidable.not_not,vU,Eb,Bk,y9,zb,zd,vV,ze,vW,vX,zf,Bl,Ec,Bm,Iy,ne_eq,Nat.reduceEqDiff,not_false_eq_true,TI,UInt8.reduceOfNat,Int.reduceNegSucc,Int.reduceOfNat])) (hn:ρ.length=n:=by rfl) (hm:P.follows .mixedOrders=true/\NG P:=by exact mixed):
 az P f (args.map (W.den ρ)).toArray (cT ρ h0) post:=be bt args h0 n y e hn hm
theorem Iz{X Y:Prop}(y:Y)(e:X=Y:=by(conv=>lhs;simp(maxSteps:=3000000) only[T.den,E.prop,E.den,RX.look,F1.app,F2.app,pG,rH,lE,DP,Hf,N2,TF,cT,jH,V.den,W.den,A.den,BR.den,SA.den,FV.den,K0,KR,N3,rv,pE.app,List.map_cons,List.map_nil,List.cons_append,List.nil_append,List.drop_succ_cons,List.drop_zero,List.length_cons,List.length_nil,Nat.zero_add,Nat.reduceAdd,Int.neg_neg,Bool.not_not,List.append_nil,Nat.add_zero,List.getElem?_cons_zero,List.getElem?_cons_succ,Decidable.not_not,vU,Eb,Bk,y9,zb,zd,vV,ze,vW,vX,zf,Bl,Ec,Bm,Iy,ne_eq,Nat.reduceEqDiff,not_false_eq_true])):X:=e▸y
def iE(n:Int):Value:=an n
theorem iK:jA prog 3 iE:=OE (by kernel_rfl)
structure fF where
 what:Int
 data:ax
def zC:fF:=⟨0,[]⟩
structure MR where
 fr:Int
 to:Int
 num:Int
 bV:Bool
 kind:Int
 ep:Int
 at':Int
 what:Int
 ca:aG
 cn:Nat
 cc:Nat
 br:Int
 bw:Int
 va:aG
 vn:Nat
 vc:Nat
 err:Int
 tail:Int
 low:Int
 back:Int
abbrev MR.aJ(m:MR):dI:= #[an m.fr,an m.to,an m.num,.bool m.bV,an m.kind,an m.ep,an m.at',an m.what,.slice m.ca m.cn m.cc,an m.br,an m.bw,.slice m.va m.vn m.vc,an m.err,an m.tail,an m.low,an m.back]
abbrev dO(b:Nat)(m:MR):HP:=HP.one b (.cells m.aJ 64)
structure MS where
 fr:Int
 to:Int
 num:Int
 bV:Bool
 kind:Int
 ep:Int
 at':Int
 cell:fF
 br:Int
 bw:Int
 val:ax
 err:Int
 tail:Int
 low:Int
 back:Int
abbrev MS.ee(m:MS)(ca:aG)(cc:Nat)(va:aG)(vc:Nat):MR:=⟨m.fr,m.to,m.num,m.bV,m.kind,m.ep,m.at',m.cell.what,ca,m.cell.data.length,cc,m.br,m.bw,va,m.val.length,vc,m.err,m.tail,m.low,m.back⟩
abbrev MS.cW(m:MS)(ca:aG):HP:=bE ca m.cell.data.length m.cell.data
abbrev MS.cI(m:MS)(va:aG):HP:=bE va m.val.length m.val
def cN(m:MS):MS:=⟨m.to,m.fr,m.num,true,m.kind,m.ep,m.at',zC,0,0,[],0,0,0,0⟩
def gS:MS:=⟨0,0,0,false,0,0,0,zC,0,0,[],0,0,0,0⟩
theorem ach{w}{t}(ht:prog.underlying t=some (.int .i64))(cs:dI) off v(h:cs[off]? =some v):(part t cs off).run prog w=.ok v w:=by
 have ha:gZ prog t=false:=by unfold gZ;rw[ht]
 simp only[part,Sem.run_bind,RX.iB ht,Result.andThen_ok,ha,Bool.false_eq_true,if_false,h];rfl
theorem ud{w}{t}(ht:prog.underlying t=some (.int .i64)) n a b:(Op.equalIn (n+1) t (an a) (an b)).run prog w=.ok (decide (a=b)) w:=by
 simp only[Op.equalIn,Sem.run_bind,RX.run_underlying ht,Result.andThen_ok,if_true,Sem.run_pure];rfl
theorem ue{w} r q r' q':(Op.equal 62 (.agg #[an r,an q]) (.agg #[an r',an q'])).run prog w=.ok (decide (r=r')&&decide (q=q')) w:=by
 have hs:prog.stoodInHeld 62=false:=by kernel_rfl
 have hi:prog.underlying 3=some (.int .i64):=by kernel_rfl
 have e2:∀n,(Op.equalIn (n+2) 62 (.agg #[an r,an q]) (.agg #[an r',an q'])).run prog w=.ok (decide (r=r')&&decide (q=q')) w:=λn=>by
  rw[Op.equalIn];simp only[Sem.run_bind,RX.run_underlying Tryz.underlying62,Result.andThen_ok];simp[program,Sem.run,hs,Result.andThen];have p0:∀a b:Int,Sem.run prog (part 3 #[Value.int IntKind.i64 a,Value.int IntKind.i64 b] 0) w=.ok (an a) w:=λa b=>ach hi _ _ _ rfl;have p1:∀a b:Int,Sem.run prog (part 3 #[Value.int IntKind.i64 a,Value.int IntKind.i64 b] 1) w=.ok (an b) w:=λa b=>ach hi _ _ _ rfl;simp only[p0,ud hi]
  by_cases h1:r=r'
  ·simp[h1,Sem.run_bind,p1,ud hi]
   by_cases h2:q=q'
   ·simp[h2]
   ·simp[h2]
  ·simp[h1]
 exact e2 9998
theorem QT{ρ:cd}{i j:Nat}{ty u}{x y}(h:i≠j){r q r' q'}(hx:x.den ρ=.agg #[an r,an q])(hy:y.den ρ=.agg #[an r',an q']){A}:
 aM prog (fp ρ (.binOp .eql 62 (.tmp i) (.tmp j) u) ty [(i,x),(j,y)]) A (.bool (decide (r=r')&&decide (q=q'))):=λw R hh F s _=>by
 have h':(i==j)=false:=by simpa using h
 have hg:prog.eqGuardType prog.depth 62=false:=by kernel_rfl
 simp only[fp,execOp,ib,List.find?_cons,beq_self_eq_true,h',hx,hy];simp[eqGuard,binOp,hg,program,Sem.run_bind,Sem.run,Result.andThen,ue]
theorem ad4{i j:Nat}{ty u}(h:i≠j){r q r' q'}{A}:
 aM prog (bZ (.binOp .eql 62 (.tmp i) (.tmp j) u) ty [(i,.agg #[an r,an q]),(j,.agg #[an r',an q'])]) A (.bool (decide (r=r')&&decide (q=q'))):=by
 have:=QT (ρ:=[.i r,.i q,.i r',.i q']) (i:=i) (j:=j) (ty:=ty) (u:=u) (x:=.w (.agg [.int .i64 (.v 0),.int .i64 (.v 1)])) (y:=.w (.agg [.int .i64 (.v 2),.int .i64 (.v 3)])) h (A:=A) rfl rfl;rw[vU]at this;exact this
theorem rZ a{R h}:(bE a 0 []).p R h:=bN.nil 1 a R h
theorem Bn{ρ:cd}{i j:Nat}{ty u}{x y}(h:i≠j){r q r' q'}(hx:x.den ρ=.agg #[an r,an q])(hy:y.den ρ=.agg #[an r',an q']){A}:
 aM prog (fp ρ (.binOp .neq 62 (.tmp i) (.tmp j) u) ty [(i,x),(j,y)]) A (.bool (!(decide (r=r')&&decide (q=q')))):=λw R hh F s _=>by
 have h':(i==j)=false:=by simpa using h
 have hg:prog.eqGuardType prog.depth 62=false:=by kernel_rfl
 simp only[fp,execOp,ib,List.find?_cons,beq_self_eq_true,h',hx,hy];simp[eqGuard,binOp,hg,program,Sem.run_bind,Sem.run,Result.andThen,ue]
theorem ahD{i j:Nat}{ty u}(h:i≠j){r q r' q'}{A}:
 aM prog (bZ (.binOp .neq 62 (.tmp i) (.tmp j) u) ty [(i,.agg #[an r,an q]),(j,.agg #[an r',an q'])]) A (.bool (!(decide (r=r')&&decide (q=q')))):=by
 have:=Bn (ρ:=[.i r,.i q,.i r',.i q']) (i:=i) (j:=j) (ty:=ty) (u:=u) (x:=.w (.agg [.int .i64 (.v 0),.int .i64 (.v 1)])) (y:=.w (.agg [.int .i64 (.v 2),.int .i64 (.v 3)])) h (A:=A) rfl rfl;rw[vU]at this;exact this
end
namespace RX
def eF:=(({aF:=[99,101,102,210,205,204,206,77,76,136,106]}:jo).aF)
abbrev nB:Hp:=[((.b 0),(.cells [(.ptr 1 0),3,4,5,(.map 6),(.map 8)] 117)),(.b 1,2),(.b 6,7),(.b 8,9)]
abbrev LJ:List A:=[(.ptr 1 0),3,4,5,(.map 6),(.map 8)]
abbrev LK:Hp:=[((.b 0),(.cells LJ 117)),(.b 1,2),(.b 6,7),(.b 8,9),(13,16)]
abbrev ad5:Hp:=[(2,5),((.b 6),(.cells [(.ptr 7 0)] 72)),((.b 7),(.cells [(.ptr 8 0),10,11,12,(.map 13),(.map 15)] 117)),(.b 8,9),(.b 13,14),(.b 15,16)]
abbrev FK:List W:=[(.ptr 0 0),10,11]
abbrev OG:List W:=[(.ptr 0 0),10,(.agg [11,12]),(.s 13)]
abbrev OH:Hp:=[((.b 0),(.cells LJ 117)),(.b 1,2),(.b 6,7),(.b 8,9),(10,13)]
abbrev OJ:List W:=[(.ptr 0 0),10,(.agg [11,12])]
abbrev vY:List W:=[(.ptr 0 0)]
abbrev Zq:List A:=[12,(.s 13)]
end RX
section
open RX
def zg(n:Int):Bool:=decide (0<=n)&&decide (n<=2147483647)
def nC(n r w:Int):Bool:=decide (1<=n)&&decide (n<=2147483647)&&zg r&&zg w
def vZ(r w r' w':Int):Bool:=decide (r<r')||(decide (r=r')&&decide (w<w'))
def nD(n:Int):Bool:=decide (0<=n)&&decide (n<=4294967296)
theorem FL n:az prog 101 #[an n] tt (λv=>aA (v=.bool (zg n)) tt):=by
 refine be (ρ:=[.i n]) {iS:=[130,194],aF:=eF,bU:=[(105,[0])]} [0] [] 1 ?_;refine⟨λh=>.of λR h' _=>⟨?_,trivial⟩,λh=>.of λR h' _=>⟨?_,trivial⟩⟩
 ·simp[zg,h];congr
 ·simp[zg,h]
theorem v6 n r w:az prog 102 #[an n,.agg #[an r,an w]] tt (λv=>aA (v=.bool (nC n r w)) tt):=by
 refine be (ρ:=[.i n,.i r,.i w]) {iS:=[130,194],aF:=eF,bU:=[(105,[0])]} [0,(.agg [1,2])] [] 3 ?_;refine λx=>⟨λh1=>⟨λh2=>?_,λh2=>.of λR h' _=>⟨?_,trivial⟩⟩,λh1=>.of λR h' _=>⟨?_,trivial⟩⟩
 ·refine(FL r).wk ?_;rintro v R h ⟨rfl,H⟩;refine⟨_,rfl,⟨λh3=>?_,λh3=>.of λR h' _=>⟨?_,trivial⟩⟩,H⟩
  ·refine(FL w).wk ?_;rintro v R h ⟨rfl,H⟩;refine⟨_,rfl,.of λR h' _=>⟨?_,trivial⟩,H⟩;simp[nC,h1,h2,h3]
  ·simp only[Bool.not_eq_true]at h3;simp[nC,h3]
 ·simp[nC,h2]
 ·simp[nC,h1]
theorem IA r w r' w':az prog 210 #[.agg #[an r,an w],.agg #[an r',an w']] tt (λv=>aA (v=.bool (vZ r w r' w')) tt):=by
 refine be (ρ:=[.i r,.i w,.i r',.i w']) {iS:=[130,194],aF:=eF,bU:=[(105,[0])]} [(.agg [0,1]),(.agg [2,3])] [] 4 ?_;refine λx y=>⟨λh1=>.of λR h' _=>⟨?_,trivial⟩,λh1=>⟨λh2=>.of λR h' _=>⟨?_,trivial⟩,λh2=>.of λR h' _=>⟨?_,trivial⟩⟩⟩
 ·simp[vZ,h1]
 ·simp[vZ,h1,h2]
 ·simp[vZ,h1,h2]
theorem v7 n:az prog 99 #[an n] tt (λv=>aA (v=.bool (nD n)) tt):=by
 refine be (ρ:=[.i n]) {iS:=[130,194],aF:=eF,bU:=[(105,[0])]} [0] [] 1 ?_;refine⟨λh=>.of λR h' _=>⟨?_,trivial⟩,λh=>.of λR h' _=>⟨?_,trivial⟩⟩
 ·simp[nD,h];congr
 ·simp[nD,h]
def uP(what:Int)(n:Nat):Bool:=if what=1 then decide ((n:Int)<=65536)else if what=2 then decide ((n:Int)=0)else false
theorem QU what(a:aG) n c S:az prog 205 #[.agg #[an what,.slice a n c]] S (λv=>aA (v=.bool (uP what n)) S):=by
 refine be (ρ:=[.i what,.a a,.n n,.n c,.p S]) {iS:=[130,194],aF:=eF,bU:=[(105,[0])]} [(.agg [0,(.s 1)])] [(1,4)] 5 ?_;refine λx=>⟨λh1=>.of λR h' H=>⟨?_,H⟩,λh1=>⟨λh2=>.of λR h' H=>⟨?_,H⟩,λh2=>.of λR h' H=>⟨?_,H⟩⟩⟩
 ·simp[uP,h1]
 ·simp[uP,h2]
 ·simp[uP,h1,h2]
theorem U2 x:0<=IntKind.u64.wrap x:=by
 show(0:Int)<=x%(2^64);exact Int.emod_nonneg _ (by decide)
theorem az.pre{P}{f}{args:dI}{A A'}{B}(t:az P f args A B)(e:HP.aT A' A):az P f args A' B:=
 t.bv (K:=tt) (e.trans (.of λ_ _=>aD)) λ_=>.of λ_ _=>ai
def bz(k:UInt8)(ns:List Int):ax:=k::ns.flatMap λn=>eg (IntKind.u64.wrap n).toNat 8
theorem eH k ns:(bz k ns).length=1+8*ns.length:=by
 unfold bz;rw[List.length_cons]
 induction ns with
 |nil=>rfl
 |cons x r ih=>rw[List.flatMap_cons,List.length_append,bF,List.length_cons];omega
theorem pT k a n c ns S(hr:Rd S a (ns.map λx=>an x))(hl:ns.length=n)(ha:n≠0->a.isSome=true)(hn:n<=1000):
 az prog 209 #[eX k,.slice a n c] S (λv=>aE λb=>aA (v=pt b) (aj S (dE b (bz k ns)))):=by
 refine be (ρ:=[.i k.toNat,.a a,.n n,.n c,.p S]) {iS:=[130,194],hv:=[(0,[(.b 5)])],aF:=eF,bU:=[(105,[0])]} [(.a (.int .u8 0)),(.s 1)] [(1,4)] 5 ?_;intro b;refine(ny b [] k (by simp)).aK (λR h H=>⟨none,0,ae (aD H) (λ_ h=>h) λy _=>bY.nil _ _ R y⟩) ?_;rintro v R h ⟨rfl,H⟩;refine⟨dE b [k],rfl,⟨λx P=>∃j:Nat,x=j/\j<=n/\HP.aT P (dE b (bz k (ns.take j))),λx _=>n - x.toNat,⟨0,rfl,Nat.zero_le _,.refl _⟩,?_⟩,H⟩;rintro _ P ⟨j,rfl,hj,hP⟩;refine⟨λhlt=>⟨by omega,λ_=>⟨ha (by omega),λ_=>?_⟩⟩,λlH=>?_⟩
 ·have hg:ns[j]? =some (ns[j]'(by omega)):=List.getElem?_eq_getElem (by omega);refine⟨ns[j]'(by omega),?_,?_⟩
  ·have:=cU (t:=3) (d:=.int .i64) (by kernel_rfl) (by kernel_rfl) (by kernel_rfl) hr (k:=j) (off:=0) (v:=an (ns[j]'(by omega))) (by rw[Nat.add_zero,List.getElem?_map,hg];rfl);rw[uI];refine uH ?_;rw[Int.toNat_natCast,Nat.mul_one];exact this
  ·have hw:IntKind.u64.wrap (ns[j]'(by omega))=((IntKind.u64.wrap (ns[j]'(by omega))).toNat:Int):=(Int.toNat_of_nonneg (U2 _)).symm;rw[hw];refine((fB b (bz k (ns.take j)) (IntKind.u64.wrap (ns[j]'(by omega))).toNat 8 (Nat.le_refl _) (by rw[eH,List.length_take];omega)).pre hP).wk ?_;rintro v R h ⟨rfl,H⟩;refine⟨_,rfl,⟨bh _ (by omega) (by omega),λ_=>⟨⟨j+1,by omega,by omega,.refl _⟩,by dsimp only;omega⟩⟩,?_⟩
   have e:bz k (ns.take (j+1))=bz k (ns.take j)++eg (IntKind.u64.wrap (ns[j]'(by omega))).toNat 8:=by
    have:ns.take (j+1)=ns.take j++[ns[j]'(by omega)]:=by rw[List.take_add_one,hg];rfl
    rw[this];simp only[bz,List.flatMap_append,List.flatMap_cons,List.flatMap_nil,List.append_nil,List.cons_append]
   rw[e];exact H
 ·have:j=n:=by omega
  subst this;rw[List.take_of_length_le (by omega)]at hP;exact((HP.aT.refl _).gX hP).trans (.of λR h H=>⟨b,rfl,H⟩)
def jL(at':Int)(x:fF):ax:=if x.what=2 then bz 2 [at']else bz 1 [at']++eg x.data.length 4++x.data
theorem FM at' what a n c d S(hr:bX S a n (d.map eX))(hl:d.length=n)(hn:n<=100000000)(ha:n≠0->a.isSome=true):
 az prog 208 #[an at',.agg #[an what,.slice a n c]] S (λv=>aE λa'=>aE λc'=>aA (v=.slice a' (jL at' ⟨what,d⟩).length c') (aj S (dS a' (jL at' ⟨what,d⟩).length c' (jL at' ⟨what,d⟩)))):=by
 refine be (ρ:=[.i at',.i what,.a a,.n n,.n c,.p S]) {iS:=[130,194],aF:=eF,bU:=[(105,[0])]} [0,(.agg [1,(.s 2)])] [(2,5)] 6 ?_;have rd1:∀y,Rd (HP.one y (.cells #[an at'] 3)) (some ⟨y,0,none⟩) ([at'].map λx=>an x):=λy=>eQ y #[an at'] _;refine λx=>⟨λhw y=>?_,λhw y=>?_⟩
 ·refine(pT 2 (some ⟨y,0,none⟩) 1 1 [at'] _ (rd1 y) rfl (λ_=>rfl) (by omega)).wk ?_;rintro v R h ⟨b,rfl,H⟩;refine⟨b,dE b (bz 2 [at']),at',rfl,?_,ak H⟩;refine(kF b (bz 2 [at']) (by rw[eH];simp)).wk ?_;rintro v R h ⟨a',c',rfl,H⟩;have e:jL at' ⟨what,d⟩=bz 2 [at']:=aB hw;rw[e];exact⟨a',_,c',dS a' (bz 2 [at']).length c' (bz 2 [at']),_,rfl,.of λR h H=>⟨a',c',rfl,H⟩,ak H⟩
 ·refine(pT 1 (some ⟨y,0,none⟩) 1 1 [at'] _ (rd1 y) rfl (λ_=>rfl) (by omega)).wk ?_;rintro v R h ⟨b,rfl,H⟩;refine⟨b,dE b (bz 1 [at']),at',rfl,?_,ak H⟩;refine(pQ b (bz 1 [at']) a n c d S hr hl ha (by rw[eH];simp only[List.length_cons,List.length_nil];omega)).wk ?_;rintro v R h ⟨rfl,H⟩;refine⟨_,S,rfl,?_,H⟩;refine(kF b _ (by rw[List.length_append,List.length_append,eH,bF];simp only[List.length_cons,List.length_nil];omega)).wk ?_;rintro v R h ⟨a',c',rfl,H⟩;have e:jL at' ⟨what,d⟩=bz 1 [at']++eg n 4++d:=by simp only[jL];rw[aq hw,hl]
  rw[e];exact⟨a',_,c',dS a' _ c' _,_,rfl,.of λR h H=>⟨a',c',rfl,H⟩,ak H⟩
structure r6 where
 pr:Int
 pw:Int
 ar:Int
 aw:Int
 val:ax
def bJ(v:Value)(x:fF):HP:=aE λa=>aE λc=>aA (v=.agg #[an x.what,.slice a x.data.length c]/\x.data.length<=140737488355328) (bE a x.data.length x.data)
def bT(v:Value)(x:r6):HP:=aE λa=>aE λc=>aA (v=.agg #[an x.pr,an x.pw,an x.ar,an x.aw,.slice a x.val.length c]/\x.val.length<=140737488355328) (bE a x.val.length x.val)
theorem nE:Iw bJ:=λ_ _ _ _ _ ⟨a,c,e,H⟩=>⟨a,c,e,H⟩
theorem qG:Iw bT:=λ_ _ _ _ _ ⟨a,c,e,H⟩=>⟨a,c,e,H⟩
theorem OK:prog.underlying 114=some (.map 3 60):=by kernel_rfl
theorem IB:prog.underlying 115=some (.map 3 253):=by kernel_rfl
theorem ahE:(prog.info? 60).map (λi=>(i.zero,i.size,i.bytes))=some (some (.agg #[an 0,.slice none 0 0]),2,32):=by kernel_rfl
theorem U3:(prog.info? 253).map (λi=>(i.zero,i.size,i.bytes))=some (some (.agg #[an 0,an 0,an 0,an 0,.slice none 0 0]),5,56):=by kernel_rfl
structure gj where
 aI:Int
 low:Int
 top:Int
 cells:Int->Option fF
 inst:Int->Option r6
def gJ(ub bd mc mi:Nat)(s:gj):HP:=HP.one ub (.cells #[pt bd,an s.aI,an s.low,an s.top,.map (some mc),.map (some mi)] 117)
def fz(ub bd:Nat)(D:HP)(s:gj):HP:=aE λmc=>aE λmi=>aj (gJ ub bd mc mi s) (aj D (aj (gI bJ iE mc s.cells) (gI bT iE mi s.inst)))
theorem fz.qD{f}{args:dI}{ub bd}{D}{s}{B}
 (t:∀mc mi lc cc li ci,az prog f args (aj (gJ ub bd mc mi s) (aj D (aj (aH bJ iE mc s.cells lc cc) (aH bT iE mi s.inst li ci)))) B):az prog f args (fz ub bd D s) B:=by
 refine az.ex λmc=>az.ex λmi=>?_;refine(az.ex (A:=λlc=>aE λcc=>aE λli=>aE λci=>aj (gJ ub bd mc mi s) (aj D (aj (aH bJ iE mc s.cells lc cc) (aH bT iE mi s.inst li ci)))) λlc=>az.ex λcc=>az.ex λli=>az.ex λci=>t mc mi lc cc li ci).aK ?_ λ_ _ _ h=>h;rintro R h ⟨h1,h2,d,l1,l2,H1,h3,h4,d2,l3,l4,H2,h5,h6,d3,l5,l6,⟨lc,cc,H3⟩,⟨li,ci,H4⟩⟩;exact⟨lc,cc,li,ci,h1,h2,d,l1,l2,H1,h3,h4,d2,l3,l4,H2,h5,h6,d3,l5,l6,H3,H4⟩
theorem ahF{f}{args:dI}{ub bd}{D S}{s}{B}
 (t:∀mc mi lc cc li ci,az prog f args (aj (gJ ub bd mc mi s) (aj D (aj (aH bJ iE mc s.cells lc cc) (aj (aH bT iE mi s.inst li ci) S)))) B):az prog f args (aj (fz ub bd D s) S) B:=by
 refine(az.ex (A:=λmc=>aE λmi=>aE λlc=>aE λcc=>aE λli=>aE λci=>aj (gJ ub bd mc mi s) (aj D (aj (aH bJ iE mc s.cells lc cc) (aj (aH bT iE mi s.inst li ci) S)))) λmc=>az.ex λmi=>az.ex λlc=>az.ex λcc=>az.ex λli=>az.ex λci=>t mc mi lc cc li ci).aK ?_ λ_ _ _ h=>h;rintro R h ⟨h1,h2,d,l1,l2,⟨mc,mi,H⟩,HS⟩;refine⟨mc,mi,?_⟩;obtain⟨k1,k2,e,m1,m2,H1,H2⟩:=au ⟨h1,h2,d,l1,l2,H,HS⟩;obtain⟨k3,k4,e2,m3,m4,H3,H4⟩:=au H2;obtain⟨k5,k6,e3,m5,m6,⟨lc,cc,H5⟩,k7,k8,e4,m7,m8,⟨li,ci,H6⟩,H7⟩:=au H4;exact⟨lc,cc,li,ci,k1,k2,e,m1,m2,H1,k3,k4,e2,m3,m4,H3,k5,k6,e3,m5,m6,H5,k7,k8,e4,m7,m8,H6,H7⟩
theorem fz.of{ub bd mc mi}{D}{s}{R h}(H:(aj (gJ ub bd mc mi s) (aj D (aj (gI bJ iE mc s.cells) (gI bT iE mi s.inst)))).p R h):(fz ub bd D s).p R h:=⟨mc,mi,H⟩
theorem fz.FN{ub bd mc mi}{D}{s}{lc}{cc}{li}{ci}{R h}(H:(aj (gJ ub bd mc mi s) (aj D (aj (aH bJ iE mc s.cells lc cc) (aH bT iE mi s.inst li ci)))).p R h):(fz ub bd D s).p R h:=by
 obtain⟨h1,h2,d,l1,l2,H1,h3,h4,d2,l3,l4,H2,h5,h6,d3,l5,l6,H3,H4⟩:=H;exact⟨mc,mi,h1,h2,d,l1,l2,H1,h3,h4,d2,l3,l4,H2,h5,h6,d3,l5,l6,⟨_,_,H3⟩,⟨_,_,H4⟩⟩
theorem fz.LM{ub bd mc mi}{D S}{s}{R h}(H:(aj (gJ ub bd mc mi s) (aj D (aj (gI bJ iE mc s.cells) (aj (gI bT iE mi s.inst) S)))).p R h):(aj (fz ub bd D s) S).p R h:=by
 have H2:=aC (ae H (λ_ h=>h) λy hy=>aC (ae hy (λ_ h=>h) λz hz=>aC hz));exact ae H2 (λy hy=>⟨mc,mi,hy⟩) λ_ h=>h
theorem pU ub bd D s:az prog 77 #[pt ub] (fz ub bd D s) (λv=>aA (v=an s.aI) (fz ub bd D s)):=by
 refine fz.qD λmc mi lc cc li ci=>?_;refine be (ρ:=[.n ub,.n bd,.p D,.i s.aI,.i s.low,.i s.top,.n mc,.p (aH bJ iE mc s.cells lc cc),.n mi,.p (aH bT iE mi s.inst li ci)]) {iS:=[130,194],aF:=eF,bU:=[(105,[0])]} vY nB 10 ?_;exact .of λR h H=>⟨trivial,fz.FN H⟩
theorem FO ub bd D s:az prog 76 #[pt ub] (fz ub bd D s) (λv=>aA (v=an s.low) (fz ub bd D s)):=by
 refine fz.qD λmc mi lc cc li ci=>?_;refine be (ρ:=[.n ub,.n bd,.p D,.i s.aI,.i s.low,.i s.top,.n mc,.p (aH bJ iE mc s.cells lc cc),.n mi,.p (aH bT iE mi s.inst li ci)]) {iS:=[130,194],aF:=eF,bU:=[(105,[0])]} vY nB 10 ?_;exact .of λR h H=>⟨trivial,fz.FN H⟩
theorem Bo ub bd D s:az prog 136 #[pt ub] (fz ub bd D s) (λv=>aA (v=an (max s.top s.low)) (fz ub bd D s)):=by
 refine fz.qD λmc mi lc cc li ci=>?_;refine be (ρ:=[.n ub,.n bd,.p D,.i s.aI,.i s.low,.i s.top,.n mc,.p (aH bJ iE mc s.cells lc cc),.n mi,.p (aH bT iE mi s.inst li ci)]) {iS:=[130,194],aF:=eF,bU:=[(105,[0])]} vY nB 10 ?_;exact .of λR h H=>⟨trivial,fz.FN H⟩
def je(s:gj)(aI at':Int):Int:=if aI=s.aI then(if nD at' then 0 else 2)else 8
theorem qH ub bd mc mi D C I s aI at':az prog 204 #[pt ub,an aI,an at'] (aj (gJ ub bd mc mi s) (aj D (aj C I)))
 (λv=>aA (v=an (je s aI at')) (aj (gJ ub bd mc mi s) (aj D (aj C I)))):=by
 refine be (ρ:=[.n ub,.n bd,.p D,.i s.aI,.i s.low,.i s.top,.n mc,.p C,.n mi,.p I,.i aI,.i at']) {iS:=[130,194],aF:=eF,bU:=[(105,[0])]} FK nB 12 ?_;refine⟨λh=>.of λR y H=>⟨by rw[je,aq h],H⟩,λh=>(v7 at').wk ?_⟩;rintro v R y ⟨rfl,H⟩;refine⟨_,rfl,⟨λh2=>.of λR y H=>⟨by rw[je,aB h,aq h2],H⟩,λh2=>.of λR y H=>⟨by rw[je,aB h,aB h2],H⟩⟩,H⟩
theorem IC ub bd mc mi room ps cy C I s a n c l(S:HP)(hr:bX S a n (l.map eX))(hl:l.length=n)(hb:n<=140737488355328):
 az prog 207 #[pt ub,.slice a n c] (aj (gJ ub bd mc mi s) (aj (eE bd room ps cy) (aj C (aj I S))))
 (λv=>aA (v=an (mL room ps ⟨1,l⟩).1) (aj (gJ ub bd mc mi s) (aj (eE bd room (mL room ps ⟨1,l⟩).2 (if(mL room ps ⟨1,l⟩).1=0 then(mL room ps ⟨1,l⟩).2.length else cy)) (aj C (aj I S))))):=by
 refine be (ρ:=[.n ub,.n bd,.p (eE bd room ps cy),.i s.aI,.i s.low,.i s.top,.n mc,.p C,.n mi,.p I,.a a,.n n,.n c,.p S]) {iS:=[130,194],aF:=eF,bU:=[(105,[0])]} [(.ptr 0 0),(.s 10)] OH 14 ?_;refine(LA bd room ps cy a n c l S hr hl hb).wk ?_;rintro v R h ⟨rfl,H⟩;refine⟨_,_,S,rfl,⟨λh0=>.of λR y H=>⟨rfl,by rw[aq h0];exact H⟩,λh0=>?_⟩,H⟩;refine(UY bd room _ cy).wk ?_;rintro v R y ⟨rfl,H⟩;exact⟨_,rfl,.of λR z H=>⟨by rw[h0],by rw[aB h0];exact H⟩,H⟩
theorem FP ub bd mc mi D I s lc(cc:Nat)(at' what:Int)(a:aG)(n c:Nat)(d:ax)(S:HP)(hr:bX S a n (d.map eX))(hl:d.length=n)(hb:n<=140737488355328)(pV:nD at'=true):
 az prog 100 #[pt ub,an at',.agg #[an what,.slice a n c]] (aj (gJ ub bd mc mi s) (aj D (aj (aH bJ iE mc s.cells lc cc) (aj I S))))
 (λv=>aA (v=cE) (aj (gJ ub bd mc mi {s with top:=max s.top (at'+1)}) (aj D (aj (gI bJ iE mc (g7 s.cells at' (some ⟨what,d⟩))) (aj I S))))):=by
 refine be (ρ:=[.n ub,.n bd,.p D,.i s.aI,.i s.low,.i s.top,.n mc,.p (aH bJ iE mc s.cells lc cc),.n mi,.p I,.i at',.i what,.a a,.n n,.n c,.p S]) {iS:=[130,194],aF:=eF,bU:=[(105,[0])]} [(.ptr 0 0),10,(.agg [11,(.s 12)])] [((.b 0),(.cells LJ 117)),(.b 1,2),(.b 6,7),(.b 8,9),(12,15)] 16 ?_;intro x;refine(gi S a n c d hr hl hb).wk ?_;rintro v R h ⟨a',c',rfl,H⟩;refine⟨a',n,c',bE a' n d,S,rfl,?_,H⟩;rw[qF (by decide) (by decide) (by decide)];refine uH ?_;refine(aH.put iK OK nE at' _ ⟨what,d⟩ (λR h H=>?_)).wk ?_
 ·subst hl;exact⟨a',c',⟨rfl,hb⟩,H⟩
 ·rintro v R h ⟨rfl,H⟩;simp only[nD,Bool.and_eq_true,decide_eq_true_eq]at pV;exact⟨_,rfl,⟨bh _ (by omega) (by omega),λ_=>.of λR h H=>⟨trivial,H⟩⟩,H⟩
theorem Rd.imp{S T}{a}{xs}(r:Rd T a xs)(h:∀R x,S.p R x->T.p R x):Rd S a xs:=λw R x F s p=>r w R x F s (h R x p)
theorem bX.imp{S}{a}{n}{l}(h:∀R x,S.p R x->(bE a n l).p R x):bX S a n (l.map eX):=
 ⟨Rd.imp (bX.ro 1 a n (l.map eX)).rd h,λR x p=>(bX.ro 1 a n (l.map eX)).none R x (h R x p)⟩
theorem ID ub bd mc mi D I s lc cc(at':Int):
 az prog 206 #[pt ub,an at'] (aj (gJ ub bd mc mi s) (aj D (aj (aH bJ iE mc s.cells lc cc) I)))
 (λv=>aE λa=>aE λc=>aA (v=.tuple #[.agg #[an ((s.cells at').getD ⟨0,[]⟩).what,.slice a ((s.cells at').getD ⟨0,[]⟩).data.length c],.bool (s.cells at').isSome]) (aj (bE a ((s.cells at').getD ⟨0,[]⟩).data.length ((s.cells at').getD ⟨0,[]⟩).data) (aj (gJ ub bd mc mi s) (aj D (aj (aH bJ iE mc s.cells lc cc) I))))):=by
 refine az.cM (φ:=∃a c,(aY at' lc).getD (.agg #[an 0,.slice none 0 0])=.agg #[an ((s.cells at').getD ⟨0,[]⟩).what,.slice a ((s.cells at').getD ⟨0,[]⟩).data.length c]/\(aY at' lc).isSome=(s.cells at').isSome/\((s.cells at').getD ⟨0,[]⟩).data.length<=140737488355328/\
  ∀R h,(aH bJ iE mc s.cells lc cc).p R h->(bE a ((s.cells at').getD ⟨0,[]⟩).data.length ((s.cells at').getD ⟨0,[]⟩).data).p R h) (λR h H=>?_) ?_
 ·have HM:=ai (ah (ah H));cases hc:s.cells at' with
  |none=>
   rw[aH.no HM hc];exact⟨none,0,rfl,rfl,by simp,λ_ _ _=>bN.nil _ _ _ _⟩
  |some x=>
   obtain⟨v,hv,a,c,⟨e,hb⟩,_⟩:=aH.Dp HM nE hc PH.cV;rw[hv];refine⟨a,c,e,rfl,hb,λR2 h2 H2=>?_⟩;obtain⟨v2,hv2,a2,c2,⟨e2,_⟩,hr⟩:=aH.Dp H2 nE hc h2;rw[hv]at hv2;cases hv2;rw[e]at e2;cases e2;exact hr
 rintro⟨a,c,v8,kL,hb,hro⟩;refine be (ρ:=[.n ub,.n bd,.p D,.i s.aI,.i s.low,.i s.top,.n mc,.p (aH bJ iE mc s.cells lc cc),.n mi,.p I,.i at']) {iS:=[130,194],aF:=eF,bU:=[(105,[0])]} [(.ptr 0 0),10] nB 11 ?_;intro x;obtain⟨i,hi,z1,_⟩:=info_parts ahE;have iP:=iO (r:=mc) (l:=lc) (c:=cc) iK OK hi z1 at' true (A:=aH bJ iE mc s.cells lc cc) (λR h H=>aH.at H);rw[aB rfl,v8,kL]at iP;refine⟨_,_,_,_,_,iP,λy=>?_⟩;refine(gi (aH bJ iE mc s.cells lc cc) a _ c ((s.cells at').getD ⟨0,[]⟩).data (bX.imp hro) rfl hb).wk ?_;rintro v R h ⟨a',c',rfl,H⟩;refine⟨a',_,c',bE a' ((s.cells at').getD ⟨0,[]⟩).data.length ((s.cells at').getD ⟨0,[]⟩).data,aH bJ iE mc s.cells lc cc,rfl,.of λR h H=>⟨a',c',rfl,?_⟩,H⟩;refine bN.join (ah (ah (ah (ah H)))) ?_;exact ae H (λ_ h=>h) λy hy=>ae hy (λ_ h=>h) λz hz=>ae hz (λ_ h=>h) λq hq=>ai hq
theorem amB{κ α:Type}[DecidableEq κ]{enc}{r c}{l}{V}{f}{kt et t}(K:jA prog kt enc)(ht:prog.underlying t=some (.map kt et))(hV:Iw V)(k:κ) v(x:α)(hv:∀R h,(aH V enc r f l c).p R h->(V v x).p R h):
 aR prog (kK t (.map (some r)) (enc k) v) (aH V enc r f l c) (λz=>aA (z=cE) (gI V enc r (g7 f k (some x)))):=
 (aH.put (r:=r) (l:=l) (c:=c) (f:=f) K ht hV k v x (A:=V v x) (λ_ _ h=>h)).aK (λR h H=>⟨h,PH.cV,PH.eC h,PH.le.refl _,PH.dB _,H,hV _ _ _ _ _ (hv R h H)⟩) (λz R h ⟨e,H⟩=>⟨e,ai H⟩)
def zI:r6:=⟨0,0,0,0,[]⟩
def bD(s:gj)(n:Int):r6:=(s.inst n).getD zI
theorem xS mi s li ci n{R h}(HM:(aH bT iE mi s.inst li ci).p R h):
 ∃a c,(aY n li).getD (.agg #[an 0,an 0,an 0,an 0,.slice none 0 0])=.agg #[an (bD s n).pr,an (bD s n).pw,an (bD s n).ar,an (bD s n).aw,.slice a (bD s n).val.length c]/\(bD s n).val.length<=140737488355328/\
  ∀R h,(aH bT iE mi s.inst li ci).p R h->(bE a (bD s n).val.length (bD s n).val).p R h:=by
 unfold bD;cases hc:s.inst n with
 |none=>
  rw[aH.no HM hc];exact⟨none,0,rfl,by simp[zI],λ_ _ _=>bN.nil _ _ _ _⟩
 |some x=>
  obtain⟨v,hv,a,c,⟨e,hb⟩,_⟩:=aH.Dp HM qG hc PH.cV;rw[hv];refine⟨a,c,e,hb,λR2 h2 H2=>?_⟩;obtain⟨v2,hv2,a2,c2,⟨e2,_⟩,hr⟩:=aH.Dp H2 qG hc h2;rw[hv]at hv2;cases hv2;rw[e]at e2;cases e2;exact hr
def r7(s:gj)(n r w:Int):gj:={s with inst:=g7 s.inst n (some {bD s n with pr:=r,pw:=w})}
theorem IE ub bd mc mi D C s li ci n r w:
 az prog 103 #[pt ub,an n,.agg #[an r,an w]] (aj (gJ ub bd mc mi s) (aj D (aj C (aH bT iE mi s.inst li ci))))
 (λv=>aA (v=cE) (aj (gJ ub bd mc mi s) (aj D (aj C (gI bT iE mi (r7 s n r w).inst))))):=by
 refine az.cM (λR h H=>xS mi s li ci n (ah (ah (ah H)))) ?_;rintro⟨a,c,v8,hb,hro⟩;refine be (ρ:=[.n ub,.n bd,.p D,.i s.aI,.i s.low,.i s.top,.n mc,.p C,.n mi,.p (aH bT iE mi s.inst li ci),.i n,.i r,.i w]) {iS:=[130,194],aF:=eF,bU:=[(105,[0])]} OJ nB 13 ?_;intro x;obtain⟨i,hi,z1,_⟩:=info_parts U3;have iP:=iO (r:=mi) (l:=li) (c:=ci) iK IB hi z1 n false (A:=aH bT iE mi s.inst li ci) (λR h H=>aH.at H);rw[aq (by decide),v8]at iP;refine⟨_,_,_,_,_,_,_,iP,λy=>?_⟩;rw[qF (by decide) (by decide) (by decide)];refine uH ?_;refine(amB iK IB qG n _ {bD s n with pr:=r,pw:=w} (λR h H=>⟨a,c,⟨rfl,hb⟩,hro R h H⟩)).wk ?_;rintro v R h ⟨rfl,H⟩;exact⟨_,rfl,.of λR h H=>⟨trivial,H⟩,H⟩
def Bp(s:gj)(n r w:Int)(l:ax):gj:={s with inst:=g7 s.inst n (some ⟨r,w,r,w,l⟩)}
theorem OL ub bd mc mi D C s li ci(n r w:Int)(a:aG)(k c:Nat)(l:ax)(S:HP)(hr:bX S a k (l.map eX))(hl:l.length=k)(hb:k<=140737488355328):
 az prog 104 #[pt ub,an n,.agg #[an r,an w],.slice a k c] (aj (gJ ub bd mc mi s) (aj D (aj C (aj (aH bT iE mi s.inst li ci) S))))
 (λv=>aA (v=cE) (aj (gJ ub bd mc mi s) (aj D (aj C (aj (gI bT iE mi (Bp s n r w l).inst) S))))):=by
 refine be (ρ:=[.n ub,.n bd,.p D,.i s.aI,.i s.low,.i s.top,.n mc,.p C,.n mi,.p (aH bT iE mi s.inst li ci),.i n,.i r,.i w,.a a,.n k,.n c,.p S]) {iS:=[130,194],aF:=eF,bU:=[(105,[0])]} OG LK 17 ?_;intro x;refine(gi S a k c l hr hl hb).wk ?_;rintro v R h ⟨a',c',rfl,H⟩;refine⟨a',k,c',bE a' k l,S,rfl,?_,H⟩;rw[qF (by decide) (by decide) (by decide)];refine uH ?_;refine(aH.put iK IB qG n _ ⟨r,w,r,w,l⟩ (λR h H=>?_)).wk ?_
 ·subst hl;exact⟨a',c',⟨rfl,hb⟩,H⟩
 ·rintro v R h ⟨rfl,H⟩;exact⟨_,rfl,.of λR h H=>⟨trivial,H⟩,H⟩
theorem U4{p:Nat->Prop}(h:∃n,p n):∃m,p m/\∀n,p n->m<=n:=by
 obtain⟨n,hn⟩:=h
 induction n using Nat.strongRecOn with
 |_ n ih=>
  by_cases hx:∃m,m<n/\p m
  ·obtain⟨m,hm,hp⟩:=hx;exact ih m hm hp
  ·exact⟨n,hn,λm hp=>Nat.le_of_not_lt λhlt=>hx ⟨m,hlt,hp⟩⟩
open Classical in
noncomputable def cY(p:Nat->Prop):Nat:=if h:∃n,p n then Classical.choose (U4 h)else 0
theorem gr{p:Nat->Prop}(h:∃n,p n):p (cY p):=by
 unfold cY;rw[dif_pos h];exact(Classical.choose_spec (U4 h)).1
theorem gm{p:Nat->Prop}{n:Nat}(h:p n):cY p<=n:=by
 unfold cY;rw[dif_pos ⟨n,h⟩];exact(Classical.choose_spec (U4 ⟨n,h⟩)).2 n h
theorem map_inj{α β:Type}(g:α->β):∀ {l:List α},(l.map g).Nodup->∀ {x y:α},x∈l->y∈l->g x=g y->x=y
 |[],_,_,_,hx,_,_=>by cases hx
 |z::l,h,x,y,hx,hy,e=>by
  simp only[List.map_cons,List.nodup_cons]at h;rcases List.mem_cons.1 hx with rfl|OM<;>rcases List.mem_cons.1 hy with rfl|U5
  ·rfl
  ·exact(h.1 (List.mem_map.2 ⟨y,U5,e.symm⟩)).elim
  ·exact(h.1 (List.mem_map.2 ⟨x,OM,e⟩)).elim
  ·exact map_inj g h.2 OM U5 e
theorem jf{κ:Type}{l:AL κ}{c:Nat}(hs:ja l c){x y:κ×Value×Nat}{S:Array Nat}(hx:x∈l)(hy:y∈l)(h:y.2.2∈S.push x.2.2):y=x\/y.2.2∈S:=by
 rcases Array.mem_push.1 h with h|h
 ·exact .inr h
 ·exact .inl (map_inj (λz:κ×Value×Nat=>z.2.2) hs.nodup hy hx h)
def Box(bx ub:Nat):HP:=HP.one bx (.cells #[pt ub] 72)
theorem U6(bx ub bd mc mi:Nat)(D C I:HP)(s:gj)(k what:Int)(a:aG)(n c:Nat):
 az prog 106 #[an k,.agg #[an what,.slice a n c],pt bx] (aj (Box bx ub) (aj (gJ ub bd mc mi s) (aj D (aj C I))))
 (λv=>aA (v=.bool (decide (k<s.low))) (aj (Box bx ub) (aj (gJ ub bd mc mi s) (aj D (aj C I))))):=by
 refine az.aK (A:=aj tt (aj (Box bx ub) (aj (gJ ub bd mc mi s) (aj D (aj C I))))) ?_ (λ_ _ h=>aW h) (λ_ _ _ h=>h);refine be (ρ:=[.i k,.i what,.a a,.n n,.n c,.p tt,.n bx,.n ub,.n bd,.p D,.i s.aI,.i s.low,.i s.top,.n mc,.p C,.n mi,.p I]) {iS:=[130,194],aF:=eF,bU:=[(105,[0])]} [0,(.agg [1,(.s 2)]),(.ptr 6 0)] ad5 17 ?_;exact λx=>.of λR h H=>⟨trivial,ah H⟩
theorem QV(bx ub bd mc mi:Nat)(D C I:HP)(s:gj)(k what:Int)(a:aG)(n c:Nat):
 az prog 106 #[an k,.agg #[an what,.slice a n c],pt bx] (aj C (aj (Box bx ub) (aj (gJ ub bd mc mi s) (aj D I))))
 (λv=>aA (v=.bool (decide (k<s.low))) (aj C (aj (Box bx ub) (aj (gJ ub bd mc mi s) (aj D I))))):=
 (U6 bx ub bd mc mi D C I s k what a n c).aK
   (λR h H=>ae (HP.swap H) (λ_ h=>h) λy hy=>ae (HP.swap hy) (λ_ h=>h) λz hz=>HP.swap hz)
   (λv R h ⟨e,H⟩=>⟨e,HP.swap (ae H (λ_ h=>h) λy hy=>HP.swap (ae hy (λ_ h=>h) λz hz=>HP.swap hz))⟩)
theorem Zr(bx ub bd mc mi:Nat)(D I:HP)(s:gj)(lc:AL Int)(cc:Nat):
 az prog 105 #[.map (some mc),.func (.func 106) #[] #[pt bx]] (aj (aH bJ iE mc s.cells lc cc) (aj (Box bx ub) (aj (gJ ub bd mc mi s) (aj D I))))
 (λv=>aA (v=cE) (aj (gI bJ iE mc (λk=>if k<s.low then none else s.cells k)) (aj (Box bx ub) (aj (gJ ub bd mc mi s) (aj D I))))):=by
 refine az.cM (φ:=fC lc cc) (λR h H=>(ai H).1) λQE=>?_;refine be (ρ:=[.n mc,.p (aH bJ iE mc s.cells lc cc),.n bx,.n ub,.n bd,.p D,.i s.aI,.i s.low,.i s.top,.n mi,.p I]) {iS:=[130,194],hv:=[(0,[(.b 11),(.b 0)])],aF:=eF,aT:=[(10,[3,60])],bU:=[(105,[0])]} [(.map 0),(.a (.func 106 [(2,0)]))] [(.b 0,1),((.b 2),(.cells [(.ptr 3 0)] 72)),((.b 3),(.cells [(.ptr 4 0),6,7,8,(.map 0),(.map 9)] 117)),(.b 4,5),(.b 9,10)] 11 ?_;rw[Iu];refine uH ?_;refine((rU (m:=mc) (l:=lc) (c:=cc) (enc:=iE) OK).frame (o7 bJ lc s.cells)).aK (λR h H=>H.2) ?_;rintro v R h ⟨h1,h2,d,l1,l2,⟨it,rfl,H⟩,HV⟩;have Hst:(aj (HP.one it (.mapIter (some mc) cc #[] cc)) (aH bJ iE mc s.cells lc cc)).p R h:=ae (au ⟨h1,h2,d,l1,l2,H,HV⟩) (λ_ h=>h) λy hy=>⟨QE,hy⟩;clear H HV d l1 l2
 let J:HP->HP->Nat->Prop:=λPi Pm N=>∃(l:AL Int) (S:Array Nat) (f:Int->Option fF),Pi=HP.one it (.mapIter (some mc) cc S cc)/\Pm=aH bJ iE mc f l cc/\fC l cc/\(∀k,f k=s.cells k\/(k<s.low/\f k=none))/\(∀x∈l,x.2.2∈S->¬x.1<s.low)/\kJ l S=N
 refine⟨it,_,_,rfl,⟨λPi Pm=>∃N,J Pi Pm N,λPi Pm=>cY (J Pi Pm),⟨_,lc,#[],s.cells,rfl,rfl,QE,λk=>.inl rfl,λx _ hx=>absurd hx (by simp),rfl⟩,?_⟩,Hst⟩;intro Pi Pm hJ;have IF:=gr hJ;generalize IG:cY (J Pi Pm)=N at IF;obtain⟨l,S,f,rfl,rfl,hI,hf,hS,hN⟩:=IF;rw[LI];refine uH ?_;refine(Bj hI.2).wk ?_;rintro v R h ⟨e,he,H⟩;rcases e with _|x
 ·refine⟨false,cE,cE,_,he.1,⟨λh=>(by cases h),λ_=>HP.aT.of λR h H=>⟨trivial,?_⟩⟩,H⟩;refine ae H (λy hy=>?_) λ_ h=>h
  have e:f=λk=>if k<s.low then none else s.cells k:=funext λk=>by
   by_cases hk:k<s.low
   ·rw[aB hk];cases YG:f k with
    |none=>rfl
    |some z=>
     obtain⟨v,hv,_⟩:=aH.Dp hy nE YG y;obtain⟨b,hb⟩:=mB k l v hv;exact absurd hk (hS _ hb (he.2 _ hb))
   ·rw[aq hk];exact(hf k).resolve_right λh=>hk h.1
  rw[<-e];exact⟨l,cc,hy⟩
 ·obtain⟨rfl,hx,hxS⟩:=he;have Hm:=ah H;have pW:aY x.1 l=some x.2.1:=i9 x.1 x.2.1 x.2.2 l hI.1 hx
  obtain⟨z,a,c,hz,_⟩:∃z a c,x.2.1=.agg #[an (fF.what z),.slice a z.data.length c]/\f x.1=some z:=by
   cases YG:f x.1 with
   |none=>rw[aH.no Hm YG]at pW;cases pW
   |some z=>
    obtain⟨v,hv,a,c,⟨e,_⟩,_⟩:=aH.Dp Hm nE YG h;rw[pW]at hv;cases hv;exact⟨z,a,c,e,rfl⟩
  refine⟨true,iE x.1,x.2.1,_,rfl,⟨λ_=>?_,λh=>by simp at h⟩,H⟩;have kE:=nA (enc:=iE) (it:=it) (m:=mc) (c:=cc) (S:=S) (x:=x) hI.2 hx (A:=aj (HP.one it (.mapIter (some mc) cc (gR S (some x)) cc)) (aH bJ iE mc f l cc)) (λR h H=>ai H) (λR h H=>aH.at (ah H));rw[hz]at kE;refine⟨x.1,_,_,_,_,kE,λy=>?_⟩;refine(QV bx ub bd mc mi D (aH bJ iE mc f l cc) I s x.1 _ _ _ _).wk ?_;rintro v R h ⟨rfl,H⟩;refine⟨_,rfl,⟨λr8=>?_,λr8=>?_⟩,H⟩
  ·rw[FJ (by decide)];refine uH ?_;refine(aH.OF (r:=mc) (l:=l) (c:=cc) (f:=f) (V:=bJ) iK OK x.1 #[114,3] 0 rfl).wk ?_;rintro v R h ⟨rfl,H⟩
   have Bq:J (HP.one it (.mapIter (some mc) cc (gR S (some x)) cc)) (aH bJ iE mc (g7 f x.1 none) (hU x.1 l) cc) (kJ (hU x.1 l) (S.push x.2.2)):=by
    refine⟨hU x.1 l,S.push x.2.2,g7 f x.1 none,rfl,rfl,hI.OF x.1,λk=>?_,λy hy FG=>?_,rfl⟩
    ·unfold g7
     by_cases e:k=x.1
     ·subst e;exact .inr ⟨by simpa using r8,aB rfl⟩
     ·rw[aq e];exact hf k
    ·have tg:=(j9 x.1 l).subset hy;rcases jf hI.2 hx tg FG with rfl|h
     ·have:=(gH y.1 (hU y.1 l)).2 (List.mem_map.2 ⟨y,hy,rfl⟩);rw[lJ _ _ _ hI.1,aB rfl]at this;cases this
     ·exact hS y tg h
   refine⟨_,rfl,⟨⟨_,Bq⟩,Nat.lt_of_le_of_lt (gm Bq) ?_⟩,H⟩;rw[IG,<-hN];exact Nat.lt_of_le_of_lt (((j9 x.1 l).filter _).length_le) (jU hx hxS)
  ·have Bq:J (HP.one it (.mapIter (some mc) cc (gR S (some x)) cc)) (aH bJ iE mc f l cc) (kJ l (S.push x.2.2)):=by
    refine⟨l,S.push x.2.2,f,rfl,rfl,hI,hf,λy hy FG=>?_,rfl⟩;rcases jf hI.2 hx hy FG with rfl|h
    ·simpa using r8
    ·exact hS y hy h
   refine⟨⟨_,Bq⟩,Nat.lt_of_le_of_lt (gm Bq) ?_⟩;rw[IG,<-hN];exact jU hx hxS
end
end Go.Proofs.YtchjlaebbhpioaaGreatDoor
