/- Texts of this claim, joined. No condition. -/
import Derived.Test.YtbkifafpjnjaiaaGreatDoorRows
import Derived.WalkKit
import Derived.Deep.RegionHeld3
import Derived.RangeFuncLeaves
import Derived.RangeFuncRecord
import Derived.TacticsIn
import Derived.IntWalk
import Derived.OrdersIn
import Derived.OwnWalkIn
set_option linter.unusedSimpArgs false
set_option linter.unusedVariables false
namespace Go.Proofs.YtbkifafpjnjaiaaGreatDoor
set_option maxRecDepth 100000
section
abbrev PH:=Nat->Option Obj
namespace PH
def cz:PH:=λ_=>none
def one(b:Nat)(o:Obj):PH:=λk=>if k=b then some o else none
def dj(h g:PH):Prop:=∀k,h k=none\/g k=none
def un(h g:PH):PH:=λk=>match h k with|some o=>some o|none=>g k
def le(h g:PH):Prop:=∀k o,h k=some o->g k=some o
def own(h:PH)(w:World):Prop:=∀k o,h k=some o->w.heap[k]? =some o
theorem le.refl(h:PH):h.le h:=λ_ _ e=>e
theorem le.trans{a b c:PH}(h:a.le b)(g:b.le c):a.le c:=λk o e=>g k o (h k o e)
theorem cT(h:PH):cz.le h:=λ_ _ e=>by cases e
theorem own.le{h g:PH}{w:World}(hg:g.own w)(hl:h.le g):h.own w:=λk o e=>hg k o (hl k o e)
theorem dj.symm{h g:PH}(d:h.dj g):g.dj h:=λk=>(d k).symm
theorem le.none{h g:PH}(l:h.le g){k:Nat}(e:g k=Option.none):h k=Option.none:=by
 cases hk:h k with
 |none=>rfl
 |some o=>rw[l k o hk]at e;cases e
theorem dj.le{h g h' g':PH}(d:h.dj g)(l:h'.le h)(l':g'.le g):h'.dj g':=λk=>(d k).imp l.none l'.none
theorem cC(h g:PH):h.le (h.un g):=λk o e=>by unfold un;rw[e]
theorem ck{h g:PH}(d:h.dj g):g.le (h.un g):=λk o e=>by
 unfold un
 rcases d k with e'|e'
 ·rw[e'];exact e
 ·rw[e']at e;cases e
theorem kJ{h g:PH}{k:Nat}{o:Obj}(e:(h.un g) k=some o):h k=some o\/g k=some o:=by
 unfold un at e
 split at e
 ·rename_i e';exact .inl (e'.trans e)
 ·exact .inr e
theorem VY{h g:PH}{k:Nat}(e:h k=Option.none)(e':g k=Option.none):(h.un g) k=Option.none:=by unfold un;rw[e];exact e'
theorem Lv{h g f:PH}(l:h.le f)(l':g.le f):(h.un g).le f:=λk o e=>(kJ e).elim (l k o) (l' k o)
theorem kK{h g f:PH}(d:h.dj f)(d':g.dj f):(h.un g).dj f:=λk=>by
 rcases d k with e|e
 ·rcases d' k with e'|e'
  ·exact .inl (VY e e')
  ·exact .inr e'
 ·exact .inr e
theorem gq(h:PH):h.dj cz:=λ_=>.inr rfl
theorem dY(h:PH):cz.dj h:=λ_=>.inl rfl
theorem cW(b:Nat)(o:Obj):one b o b=some o:=if_pos rfl
theorem lP{b k:Nat}{o x:Obj}(e:one b o k=some x):k=b/\x=o:=by
 unfold one at e
 split at e
 ·rename_i h;exact⟨h,(Option.some.inj e).symm⟩
 ·cases e
theorem sj{b:Nat}{o:Obj}{h:PH}(e:h b=some o):(one b o).le h:=λk x hx=>by
 obtain⟨rfl,rfl⟩:=lP hx;exact e
end PH
structure HP where
 p:PH->PH->Prop
 mono:∀ {R R' h h':PH},R.le R'->h.le h'->p R h->p R' h'
namespace HP
def tt:HP:=⟨λ_ _=>True,λ_ _ _=>trivial⟩
def pure(φ:Prop):HP:=⟨λ_ _=>φ,λ_ _ h=>h⟩
def ex{α:Type}(A:α->HP):HP:=⟨λR h=>∃x,(A x).p R h,λl l' ⟨x,hx⟩=>⟨x,(A x).mono l l' hx⟩⟩
def and(φ:Prop)(A:HP):HP:=⟨λR h=>φ/\A.p R h,λl l' ⟨a,b⟩=>⟨a,A.mono l l' b⟩⟩
def one(b:Nat)(o:Obj):HP:=⟨λ_ h=>h b=some o,λ_ l e=>l b o e⟩
def ro(b:Nat)(o:Obj):HP:=⟨λR _=>R b=some o,λl _ e=>l b o e⟩
def an(A B:HP):HP:=⟨λR h=>∃h1 h2,h1.dj h2/\h1.le h/\h2.le h/\A.p R h1/\B.p R h2,
 λl l' ⟨h1,h2,d,l1,l2,a,b⟩=>⟨h1,h2,d,l1.trans l',l2.trans l',A.mono l (PH.le.refl _) a,B.mono l (PH.le.refl _) b⟩⟩
def aV(A B:HP):Prop:=∀R h:PH,R.dj h->A.p R h->∃R' h':PH,R.le R'/\R'.dj h'/\h'.le h/\(∀k o,R' k=some o->R k=some o\/h k=some o)/\B.p R' h'
theorem aV.of{A B:HP}(h:∀R x,A.p R x->B.p R x):aV A B:=λR x d a=>⟨R,x,PH.le.refl _,d,PH.le.refl _,λ_ _ e=>.inl e,h R x a⟩
theorem aV.refl(A:HP):aV A A:=.of λ_ _ h=>h
theorem aV.trans{A B C:HP}(h:aV A B)(g:aV B C):aV A C:=λR x d a=>by
 obtain⟨R1,x1,l1,d1,m1,s1,b⟩:=h R x d a
 obtain⟨R2,x2,l2,d2,m2,s2,c⟩:=g R1 x1 d1 b
 exact⟨R2,x2,l1.trans l2,d2,m2.trans m1,λk o e=>(s2 k o e).elim (s1 k o) (λe=>.inr (m1 k o e)),c⟩
theorem aj{A B:HP}{R h:PH}(H:(an A B).p R h):A.p R h:=let⟨_,_,_,l1,_,a,_⟩:=H;A.mono (PH.le.refl _) l1 a
theorem ai{A B:HP}{R h:PH}(H:(an A B).p R h):B.p R h:=let⟨_,_,_,_,l2,_,b⟩:=H;B.mono (PH.le.refl _) l2 b
theorem ao{A B:HP}{R h:PH}(H:(an A B).p R h):(an B A).p R h:=let⟨h1,h2,d,l1,l2,a,b⟩:=H;⟨h2,h1,d.symm,l2,l1,b,a⟩
theorem aq{A B C:HP}{R h:PH}(H:(an (an A B) C).p R h):(an A (an B C)).p R h:=by
 obtain⟨h1,h2,d,l1,l2,⟨h3,h4,d',l3,l4,a,b⟩,c⟩:=H
 have d4:=d.le l4 (PH.le.refl h2)
 exact⟨h3,h4.un h2,(PH.kK d'.symm (d.le l3 (PH.le.refl h2)).symm).symm,l3.trans l1,PH.Lv (l4.trans l1) l2,a,h4,h2,d4,PH.cC _ _,PH.ck d4,b,c⟩
theorem ay{A B C:HP}{R h:PH}(H:(an A (an B C)).p R h):(an (an A B) C).p R h:=
 ao (aq (ao (aq (ao H))))
theorem ae{A B A' B':HP}{R h:PH}(H:(an A B).p R h)(f:∀x,A.p R x->A'.p R x)(g:∀x,B.p R x->B'.p R x):(an A' B').p R h:=
 let⟨h1,h2,d,l1,l2,a,b⟩:=H;⟨h1,h2,d,l1,l2,f _ a,g _ b⟩
theorem az{A:HP}{R h:PH}(H:A.p R h):(an A tt).p R h:=⟨h,PH.cz,PH.gq h,PH.le.refl _,PH.cT _,H,trivial⟩
theorem aM{A:HP}{R h:PH}(H:A.p R h):(an tt A).p R h:=ao (az H)
theorem Q5{A:HP}{φ:Prop}{R h:PH}(H:A.p R h)(f:φ):(an (pure φ) A).p R h:=(ao (ae (az H) (λ_ h=>h) λ_ _=>f):_)
theorem aV.an{A B:HP}(h:aV A B)(K:HP):aV (an A K) (an B K):=λR x d H=>by
 obtain⟨h1,h2,dd,l1,l2,a,k⟩:=H
 obtain⟨R1,x1,l,d1,m1,s1,b⟩:=h R h1 (d.le (PH.le.refl _) l1) a
 have dx:x1.dj h2:=dd.le m1 (PH.le.refl _)
 refine⟨R1,x1.un h2,l,(PH.kK d1.symm ?_).symm,PH.Lv (m1.trans l1) l2,λk o e=>(s1 k o e).imp id (l1 k o),x1,h2,dx,PH.cC _ _,PH.ck dx,b,K.mono l (PH.le.refl _) k⟩
 intro k
 cases hk:R1 k with
 |none=>exact .inr rfl
 |some o=>
  rcases s1 k o hk with e|e
  ·rcases d k with e'|e'
   ·rw[e]at e';cases e'
   ·exact .inl (l2.none e')
  ·rcases dd k with e'|e'
   ·rw[e]at e';cases e'
   ·exact .inl e'
theorem aV.gZ{A B A' B':HP}(h:aV A B)(g:aV A' B'):aV (HP.an A A') (HP.an B B'):=
 (h.an A').trans ((aV.of λ_ _=>ao).trans ((g.an B).trans (aV.of λ_ _=>ao)))
theorem aV.ez(b:Nat)(o:Obj):aV (HP.one b o) (HP.ro b o):=λR h d e=>by
 refine⟨R.un (PH.one b o),PH.cz,PH.cC _ _,PH.gq _,PH.cT _,λk x hx=>(PH.kJ hx).imp id λhx=>?_,?_⟩
 ·obtain⟨rfl,rfl⟩:=PH.lP hx;exact e
 ·have hb:R b=none:=(d b).resolve_right (by rw[show h b=some o from e];simp)
  show(R.un (PH.one b o)) b=some o
  unfold PH.un;rw[hb];exact PH.cW b o
end HP
def nk:List Nat:=[0,498536548,997073096,651767980,1994146192,1802195444,1303535960,1342533948,3988292384,4027552580,3604390888,3412177804,2607071920,2262029012,2685067896,3183342108]
def GR(R:PH):Prop:=∃(cur:Array Value) (ty:TypeId) (fr:Nat×Nat),R 0=some (.cells cur ty fr)/\∀(i x:Nat),nk[i]? =some x->cur[i]? =some (Value.int .u32 ((x:Nat):Int))
theorem GR.mono{R R':PH}(l:R.le R')(g:GR R):GR R':=let⟨c,t,f,e,h⟩:=g;⟨c,t,f,l _ _ e,h⟩
structure Sat(w:World)(R h F:PH):Prop where
 qL:R.dj h
 CL:R.dj F
 sn:h.dj F
 oR:R.own w
 oh:h.own w
 oF:F.own w
 gl:GR R
structure Same(w w':World):Prop where
 os:w'.os=w.os
 tape:w'.tape=w.tape
 output:w'.output=w.output
 size:w.heap.size<=w'.heap.size
theorem Same.refl(w:World):Same w w:=⟨rfl,rfl,rfl,Nat.le_refl _⟩
theorem Same.trans{a b c:World}(h:Same a b)(g:Same b c):Same a c:=⟨g.os.trans h.os,g.tape.trans h.tape,g.output.trans h.output,Nat.le_trans h.size g.size⟩
theorem Sat.aV{w:World}{R h F R' h':PH}(s:Sat w R h F)(l:R.le R')(d:R'.dj h')(m:h'.le h)(g:∀k o,R' k=some o->R k=some o\/h k=some o):Sat w R' h' F:=by
 refine⟨d,λk=>?_,s.sn.le m (PH.le.refl _),λk o e=>(g k o e).elim (s.oR k o) (s.oh k o),s.oh.le m,s.oF,s.gl.mono l⟩
 cases hk:R' k with
 |none=>exact .inl rfl
 |some o=>
  refine .inr ?_
  rcases g k o hk with e|e
  ·exact(s.CL k).resolve_left (by rw[e];simp)
  ·exact(s.sn k).resolve_left (by rw[e];simp)
theorem Sat.cut{w:World}{R h F h1 h2:PH}(s:Sat w R h F)(d:h1.dj h2)(l1:h1.le h)(l2:h2.le h):Sat w R h1 (h2.un F):=
 ⟨s.qL.le (PH.le.refl _) l1,(PH.kK (s.qL.le (PH.le.refl _) l2).symm s.CL.symm).symm,(PH.kK d.symm (s.sn.le l1 (PH.le.refl _)).symm).symm,s.oR,s.oh.le l1,λk o e=>(PH.kJ e).elim (s.oh.le l2 k o) (s.oF k o),s.gl⟩
theorem Sat.join{w:World}{R h1 h2 F:PH}(s:Sat w R h1 (h2.un F))(d:h2.dj F):Sat w R (h1.un h2) F/\h1.dj h2:=by
 have l2:h2.le (h2.un F):=PH.cC _ _
 have lF:F.le (h2.un F):=PH.ck d
 have d12:=s.sn.le (PH.le.refl _) l2
 exact⟨⟨(PH.kK s.qL.symm (s.CL.le (PH.le.refl _) l2).symm).symm,s.CL.le (PH.le.refl _) lF,PH.kK (s.sn.le (PH.le.refl _) lF) d,s.oR,λk o e=>(PH.kJ e).elim (s.oh k o) (s.oF.le l2 k o),s.oF.le lF,s.gl⟩,d12⟩
def ax(P:Program)(f:FuncId)(args:Array Value)(A:HP)(B:Value->HP):Prop:=
 ∀w R h F,Sat w R h F->A.p R h->Calls P f args w λe w'=>∃v,e=.returned v/\Same w w'/\∃R' h',R.le R'/\Sat w' R' h' F/\(B v).p R' h'
def X7:Next->Option Value
 | .value v=>some v
 | .skip=>some undef
 |_=>none
def aI(P:Program)(s:Sem Next)(A:HP)(B:Value->HP):Prop:=
 ∀w R h F,Sat w R h F->A.p R h->∃nx v w',s.run P w=.ok nx w'/\X7 nx=some v/\Same w w'/\∃R' h',R.le R'/\Sat w' R' h' F/\(B v).p R' h'
def aH(P:Program)(s:Sem Next)(A:HP)(v:Value):Prop:=
 ∀w R h F,Sat w R h F->A.p R h->s.run P w=.ok (.value v) w
def tD(P:Program)(f:FuncId):Prop:=∃fn,P.funcs[f]? =some fn/\fn.body.isNone=false/\(fn.name== "runtime.NumGoroutine")=false
def VZ(P:Program)(l:Nat)(args:Array Value)(A:HP)(B:Value->HP):Prop:=
 ∀w R h F,Sat w R h F->A.p R h->∃fn tmps assign body,(Instr.yield l args).run P w=.ok (.round l fn tmps assign body) w/\
  RoundIn Fence.wide 0 P l fn tmps assign body w λe w'=>∃v,e=.returned v/\Same w w'/\∃R' h',R.le R'/\Sat w' R' h' F/\(B v).p R' h'
def iu(P:Program)(fv:Value)(args:Array Value)(A:HP)(B:Value->HP):Prop:=
 (∃f iw,fv=.func (.func f) #[] iw/\tD P f/\ax P f (args++iw) A B)\/(∃l,fv=.func (.yield l) #[] #[]/\VZ P l args A B)
def V1(P:Program)(v:Value)(name:String)(args:Array Value)(A:HP)(B:Value->HP):Prop:=
 ∃t x f r,v=.iface t x/\(∀w,(method (P.types.size+Made.depth) t x name).run P w=.ok (f,r) w)/\tD P f/\ax P f (#[r]++args) A B
def Lw{γ:Type}(Sh K:γ->HP)(Jx:HP)(may:γ->Prop)(v:Value):HP:=
 HP.ex λb:Bool=>HP.and (v=.bool b) (if b then HP.ex λg'=>HP.and (may g') (HP.an (Sh g') (K g'))else Jx)
def iy{γ:Type}(Sh K:γ->HP)(Jx:HP)(iW:γ->Prop):HP:=
 HP.ex λo:Option γ=>match o with
  |some g=>HP.and (iW g) (HP.an (Sh g) (K g))
  |none=>Jx
def vf(P:Program)(gv:Value){γ:Type}(A:HP)(Sh:γ->HP)(Pr:γ->Array Value->HP)(may:γ->Array Value->γ->Prop)(iW:γ->Prop)(g0:γ):Prop:=
 ∃f iw,gv=.func (.func f) #[] iw/\tD P f/\∀(l:Nat) (K:γ->HP) (Jx:HP),
  (∀g args,(∃g',may g args g')->iu P (.func (.yield l) #[] #[]) args (HP.an (Pr g args) (HP.an (Sh g) (K g))) (Lw Sh K Jx (may g args)))->
  ax P f (#[.func (.yield l) #[] #[]]++iw) (HP.an A (HP.an (Sh g0) (K g0))) (λ_=>HP.an A (iy Sh K Jx iW))
theorem ax.be{P:Program}{f:FuncId}{args:Array Value}{A A' K:HP}{B B':Value->HP}(t:ax P f args A B)(pre:HP.aV A' (HP.an A K))(post:∀v,HP.aV (HP.an (B v) K) (B' v)):
 ax P f args A' B':=λw R h F s a'=>by
 obtain⟨R1,h1,l1,d1,m1,g1,x1,x2,dx,lx1,X8,a,k⟩:=pre R h s.qL a'
 have s1:=s.aV l1 d1 m1 g1
 refine(t w R1 x1 _ (s1.cut dx lx1 X8) a).mono λe w' ⟨v,he,hs,R2,h2,l2,s2,b⟩=>?_
 obtain⟨s3,d3⟩:=s2.join ((s1.sn).le X8 (PH.le.refl _))
 obtain⟨R4,h4,l4,d4,m4,g4,b'⟩:=post v R2 (h2.un x2) s3.qL ⟨h2,x2,d3,PH.cC _ _,PH.ck d3,b,K.mono l2 (PH.le.refl _) k⟩
 exact⟨v,he,hs,R4,h4,l1.trans (l2.trans l4),s3.aV l4 d4 m4 g4,b'⟩
theorem ax.post{P:Program}{f:FuncId}{args:Array Value}{A:HP}{B B':Value->HP}(t:ax P f args A B)(post:∀v,HP.aV (B v) (B' v)):ax P f args A B':=
 t.be (K:=HP.tt) (.of λ_ _=>HP.az) λv=>(HP.aV.of λ_ _=>HP.aj).trans (post v)
theorem aI.be{P:Program}{o:Sem Next}{A A' K:HP}{B B':Value->HP}(t:aI P o A B)(pre:HP.aV A' (HP.an A K))(post:∀v,HP.aV (HP.an (B v) K) (B' v)):
 aI P o A' B':=λw R h F s a'=>by
 obtain⟨R1,h1,l1,d1,m1,g1,x1,x2,dx,lx1,X8,a,k⟩:=pre R h s.qL a'
 have s1:=s.aV l1 d1 m1 g1
 obtain⟨nx,v,w',he,ho,hs,R2,h2,l2,s2,b⟩:=t w R1 x1 _ (s1.cut dx lx1 X8) a
 obtain⟨s3,d3⟩:=s2.join ((s1.sn).le X8 (PH.le.refl _))
 obtain⟨R4,h4,l4,d4,m4,g4,b'⟩:=post v R2 (h2.un x2) s3.qL ⟨h2,x2,d3,PH.cC _ _,PH.ck d3,b,K.mono l2 (PH.le.refl _) k⟩
 exact⟨nx,v,w',he,ho,hs,R4,h4,l1.trans (l2.trans l4),s3.aV l4 d4 m4 g4,b'⟩
theorem aI.post{P:Program}{o:Sem Next}{A:HP}{B B':Value->HP}(t:aI P o A B)(post:∀v,HP.aV (B v) (B' v)):aI P o A B':=
 t.be (K:=HP.tt) (.of λ_ _=>HP.az) λv=>(HP.aV.of λ_ _=>HP.aj).trans (post v)
theorem ax.ak{P:Program}{f:FuncId}{args:Array Value}{A A':HP}{B B':Value->HP}(t:ax P f args A B)(pre:∀R h,A'.p R h->A.p R h)(post:∀v R h,(B v).p R h->(B' v).p R h):ax P f args A' B':=
 t.be (K:=HP.tt) (.of λR h H=>HP.az (pre R h H)) λv=>.of λR h H=>post v R h (HP.aj H)
theorem aI.ak{P:Program}{o:Sem Next}{A A':HP}{B B':Value->HP}(t:aI P o A B)(pre:∀R h,A'.p R h->A.p R h)(post:∀v R h,(B v).p R h->(B' v).p R h):aI P o A' B':=
 t.be (K:=HP.tt) (.of λR h H=>HP.az (pre R h H)) λv=>.of λR h H=>post v R h (HP.aj H)
theorem ax.frame{P:Program}{f:FuncId}{args:Array Value}{A:HP}{B:Value->HP}(t:ax P f args A B)(K:HP):ax P f args (HP.an A K) (λv=>HP.an (B v) K):=
 t.be (HP.aV.refl _) λ_=>HP.aV.refl _
theorem aI.frame{P:Program}{o:Sem Next}{A:HP}{B:Value->HP}(t:aI P o A B)(K:HP):aI P o (HP.an A K) (λv=>HP.an (B v) K):=
 t.be (HP.aV.refl _) λ_=>HP.aV.refl _
theorem aI.bV{P:Program}{o:Sem Next}{A:HP}{B:Value->HP}{φ:Prop}(hf:∀R h,A.p R h->φ)(t:φ->aI P o A B):aI P o A B:=λw R h F s a=>t (hf R h a) w R h F s a
theorem ax.bV{P:Program}{f:FuncId}{args:Array Value}{A:HP}{B:Value->HP}{φ:Prop}(hf:∀R h,A.p R h->φ)(t:φ->ax P f args A B):ax P f args A B:=λw R h F s a=>t (hf R h a) w R h F s a
theorem aH.aV{P:Program}{s:Sem Next}{A A':HP}{v:Value}(e:HP.aV A A')(r:aH P s A' v):aH P s A v:=λw R h F st a=>by
 obtain⟨R',h',q1,q2,q3,q4,a'⟩:=e R h st.qL a
 exact r w R' h' F (st.aV q1 q2 q3 q4) a'
theorem ax.pure{P:Program}{f:FuncId}{args:Array Value}{A:HP}{B:Value->HP}{φ:Prop}(t:φ->ax P f args A B):ax P f args (HP.and φ A) B:=
 λw R h F s a=>t a.1 w R h F s a.2
theorem ax.ex{P:Program}{f:FuncId}{args:Array Value}{α:Type}{A:α->HP}{B:Value->HP}(t:∀x,ax P f args (A x) B):ax P f args (HP.ex A) B:=
 λw R h F s ⟨x,a⟩=>t x w R h F s a
theorem HP.swap{A B K:HP}{R h:PH}(H:(HP.an A (HP.an B K)).p R h):(HP.an B (HP.an A K)).p R h:=
 HP.aq (HP.ae (HP.ay H) (λ_ h=>HP.ao h) λ_ h=>h)
theorem VZ.be{P:Program}{l:Nat}{args:Array Value}{A A' K:HP}{B B':Value->HP}(t:VZ P l args A B)(pre:HP.aV A' (HP.an A K))(post:∀v,HP.aV (HP.an (B v) K) (B' v)):
 VZ P l args A' B':=λw R h F s a'=>by
 obtain⟨R1,h1,l1,d1,m1,g1,x1,x2,dx,lx1,X8,a,k⟩:=pre R h s.qL a'
 have s1:=s.aV l1 d1 m1 g1
 obtain⟨fn,tmps,HI,body,hy,hr⟩:=t w R1 x1 _ (s1.cut dx lx1 X8) a
 refine⟨fn,tmps,HI,body,hy,hr.mono λe w' ⟨v,he,hs,R2,h2,l2,s2,b⟩=>?_⟩
 obtain⟨s3,d3⟩:=s2.join ((s1.sn).le X8 (PH.le.refl _))
 obtain⟨R4,h4,l4,d4,m4,g4,b'⟩:=post v R2 (h2.un x2) s3.qL ⟨h2,x2,d3,PH.cC _ _,PH.ck d3,b,K.mono l2 (PH.le.refl _) k⟩
 exact⟨v,he,hs,R4,h4,l1.trans (l2.trans l4),s3.aV l4 d4 m4 g4,b'⟩
theorem iu.be{P:Program}{fv:Value}{args:Array Value}{A A' K:HP}{B B':Value->HP}(t:iu P fv args A B)(pre:HP.aV A' (HP.an A K))(post:∀v,HP.aV (HP.an (B v) K) (B' v)):iu P fv args A' B':=by
 rcases t with⟨f,iw,e,g,t⟩|⟨l,e,t⟩
 ·exact .inl ⟨f,iw,e,g,t.be pre post⟩
 ·exact .inr ⟨l,e,t.be pre post⟩
theorem iu.ak{P:Program}{fv:Value}{args:Array Value}{A A':HP}{B B':Value->HP}(t:iu P fv args A B)(pre:∀R h,A'.p R h->A.p R h)(post:∀v R h,(B v).p R h->(B' v).p R h):iu P fv args A' B':=
 t.be (K:=HP.tt) (.of λR h H=>HP.az (pre R h H)) λv=>.of λR h H=>post v R h (HP.aj H)
end
namespace RX
inductive aP where
 |n (x:Nat)|i (x:Int)|c (x:Bool)|s (x:List UInt8)|a (x:Option Addr)|v (x:Value)|p (x:HP)
def aP.nat:aP->Nat| .n x=>x|_=>0
def aP.int:aP->Int| .i x=>x|_=>0
def aP.bool:aP->Bool| .c x=>x|_=>false
def aP.str:aP->List UInt8| .s x=>x|_=>[]
def aP.X9:aP->Option Addr| .a x=>x|_=>none
def aP.val:aP->Value| .v x=>x|_=>undef
def aP.hp:aP->HP| .p x=>x|_=>HP.tt
@[simp] theorem aP.dP(x:Nat):(aP.n x).nat=x:=rfl
@[simp] theorem aP.dH(x:Int):(aP.i x).int=x:=rfl
@[simp] theorem aP.cr(x:Bool):(aP.c x).bool=x:=rfl
@[simp] theorem aP.eQ(x:List UInt8):(aP.s x).str=x:=rfl
@[simp] theorem aP.e9(x:Option Addr):(aP.a x).X9=x:=rfl
@[simp] theorem aP.fw(x:Value):(aP.v x).val=x:=rfl
@[simp] theorem aP.ju(x:HP):(aP.p x).hp=x:=rfl
abbrev bp:=List aP
def look:bp->Nat->aP
 |[],_=>.i 0
 |x::_,0=>x
 |_::ρ,k+1=>look ρ k
inductive F1 where
 |neg|not|toNat|ofNat|wrap (k:IntKind)|inr (k:IntKind)|size|isSome
 deriving DecidableEq
inductive F2 where
 |add|sub|mul|quo|rem|shl (k:IntKind)|shr (k:IntKind)|bit (op:BinOp) (k:IntKind)|lt|le|eq|and|or|beq|seq|slt|Q6|CM|afC|mx|mn
 deriving DecidableEq
def F1.app:F1->aP->aP
 | .neg,x=>.i (-x.int)
 | .not,x=>.c (!x.bool)
 | .toNat,x=>.n x.int.toNat
 | .ofNat,x=>.i (x.nat:Int)
 | .wrap k,x=>.i (k.wrap x.int)
 | .inr k,x=>.c (decide (k.min<=x.int)&&decide (x.int<=k.max))
 | .size,x=>.n x.str.length
 | .isSome,x=>.c x.X9.isSome
def F2.app:F2->aP->aP->aP
 | .add,x,y=>.i (x.int+y.int)
 | .sub,x,y=>.i (x.int - y.int)
 | .mul,x,y=>.i (x.int*y.int)
 | .quo,x,y=>.i (x.int.tdiv y.int)
 | .rem,x,y=>.i (x.int.tmod y.int)
 | .shl k,x,y=>.i (k.wrap (x.int*2^(min y.int.toNat k.bits)))
 | .shr k,x,y=>.i (x.int.fdiv (2^(min y.int.toNat k.bits)))
 | .bit op k,x,y=>.i (bits op k x.int y.int)
 | .lt,x,y=>.c (decide (x.int<y.int))
 | .le,x,y=>.c (decide (x.int<=y.int))
 | .eq,x,y=>.c (decide (x.int=y.int))
 | .and,x,y=>.c (x.bool&&y.bool)
 | .or,x,y=>.c (x.bool||y.bool)
 | .beq,x,y=>.c (x.bool==y.bool)
 | .seq,x,y=>.c (decide (x.str=y.str))
 | .slt,x,y=>.c (Op.bytesLess x.str y.str)
 | .Q6,x,y=>.s (x.str++y.str)
 | .CM,x,y=>.n (x.nat+y.nat)
 | .afC,x,y=>.n (x.nat - y.nat)
 | .mx,x,y=>.i (max x.int y.int)
 | .mn,x,y=>.i (min x.int y.int)
inductive E where
 |v (k:Nat)|i (x:Int)|n (x:Nat)|c (b:Bool)|s (x:List UInt8)|o1 (f:F1) (a:E)|o2 (f:F2) (a b:E)
 deriving DecidableEq
def E.den(ρ:bp):E->aP
 | .v k=>look ρ k
 | .i x=>.i x
 | .n x=>.n x
 | .c b=>.c b
 | .s x=>.s x
 | .o1 f a=>f.app (a.den ρ)
 | .o2 f a b=>f.app (a.den ρ) (b.den ρ)
def E.prop(ρ:bp):E->Prop
 | .c b=>b=true
 | .o1 .not a=>¬a.prop ρ
 | .o1 (.inr k) a=>k.min<=(a.den ρ).int/\(a.den ρ).int<=k.max
 | .o2 .lt a b=>(a.den ρ).int<(b.den ρ).int
 | .o2 .le a b=>(a.den ρ).int<=(b.den ρ).int
 | .o2 .eq a b=>(a.den ρ).int=(b.den ρ).int
 | .o2 .and a b=>a.prop ρ/\b.prop ρ
 | .o2 .or a b=>a.prop ρ\/b.prop ρ
 | .o2 .seq a b=>(a.den ρ).str=(b.den ρ).str
 |e=>(e.den ρ).bool=true
theorem E.jv(ρ:bp)(e:E):e.prop ρ↔(e.den ρ).bool=true:=by
 induction e with
 |o1 f a ih=>cases f<;>simp[E.prop,E.den,F1.app,aP.bool,ih]<;>(cases a.den ρ<;>simp)
 |o2 f a b Zg Zh=>cases f<;>simp[E.prop,E.den,F2.app,aP.bool,Zg,Zh]<;>(cases a.den ρ<;>cases b.den ρ<;>simp)
 |c b=>simp[E.prop,E.den,aP.bool]
 |v k=>exact Iff.rfl
 |i x=>exact Iff.rfl
 |n x=>exact Iff.rfl
 |s x=>exact Iff.rfl
inductive BR where
 |v (k:Nat)|g (n:Nat)
 deriving DecidableEq
def BR.den(ρ:bp):BR->Nat
 | .v k=>(look ρ k).nat
 | .g n=>n
inductive SA where
 |nil|v (k:Nat)|b (r:BR) (off:Nat)
 deriving DecidableEq
def SA.den(ρ:bp):SA->Option Addr
 | .nil=>none
 | .v k=>(look ρ k).X9
 | .b r off=>some ⟨r.den ρ,off,none⟩
inductive A where
 |int (k:IntKind) (e:E)|bool (e:E)|str (e:E)|ptr (r:BR) (off:Nat)|aW (s:Nat) (ix:E) (size off:Nat)
 |sl (s:SA) (len cap:E)|map (r:BR)|fZ|Ic|Q7|Q8|val (k:Nat)|func (f:FuncId) (iw:List (BR×Nat))
 deriving DecidableEq
def dZ:Value->Value
 | .agg _=>.nilIface
 | .tuple _=>.nilIface
 |v=>v
def iX(ρ:bp)(x:BR×Nat):Value:=.pointer (some ⟨x.1.den ρ,x.2,none⟩)
def A.den(ρ:bp):A->Value
 | .int k e=>.int k (e.den ρ).int
 | .bool e=>.bool (e.den ρ).bool
 | .str e=>.string ⟨(e.den ρ).str.toArray⟩
 | .ptr r off=>.pointer (some ⟨r.den ρ,off,none⟩)
 | .aW s ix size off=>.pointer ((look ρ s).X9.map λa=>(a.add ((ix.den ρ).int.toNat*size)).add off)
 | .sl s len cap=>.slice (s.den ρ) (len.den ρ).nat (cap.den ρ).nat
 | .map r=>.map (some (r.den ρ))
 | .fZ=>.pointer none
 | .Ic=>.map none
 | .Q7=>.nilFunc
 | .Q8=>.nilIface
 | .val k=>dZ (look ρ k).val
 | .func f iw=>.func (.func f) #[] (iw.map (iX ρ)).toArray
inductive W where
 |a (x:A)|agg (l:List A)
 deriving DecidableEq
def W.den(ρ:bp):W->Value
 | .a x=>x.den ρ
 | .agg l=>.agg (l.map (A.den ρ)).toArray
inductive V where
 |w (x:W)|au (l:List W)|nx (c k v:Nat)
 deriving DecidableEq
def V.den(ρ:bp):V->Value
 | .w x=>x.den ρ
 | .au l=>.tuple (l.map (W.den ρ)).toArray
 | .nx c k v=>if(look ρ c).bool then .tuple #[.bool true,(look ρ k).val,(look ρ v).val]else .tuple #[.bool false]
inductive Key where
 |b (r:BR)|a (k:Nat)
 deriving DecidableEq
inductive C where
 |cells (l:List A) (ty:TypeId)|kD|prop (k:Nat)|nJ
 deriving DecidableEq
abbrev Hp:=List (Key×C)
def dB(ρ:bp)(x:Key×C):HP:=
 match x.2,x.1 with
 | .cells l ty,.b r=>HP.one (r.den ρ) (.cells (l.map (A.den ρ)).toArray ty (0,0))
 | .kD,.b r=>HP.one (r.den ρ) (.map #[] 0)
 | .nJ,.b r=>HP.one (r.den ρ) (.deferred (some []))
 | .prop k,_=>(look ρ k).hp
 |_,_=>HP.pure False
def bg(ρ:bp):Hp->HP
 |[]=>HP.tt
 |x::r=>match r with
  |[]=>dB ρ x
  |_::_=>HP.an (dB ρ x) (bg ρ r)
inductive So where
 |n|i|c|s|a|v|p
 deriving DecidableEq
def nF:List So->bp->(bp->HP)->HP
 |[],ρ,f=>f ρ
 | .n::r,ρ,f=>HP.ex λx:Nat=>nF r (ρ++[.n x]) f
 | .i::r,ρ,f=>HP.ex λx:Int=>nF r (ρ++[.i x]) f
 | .c::r,ρ,f=>HP.ex λx:Bool=>nF r (ρ++[.c x]) f
 | .s::r,ρ,f=>HP.ex λx:List UInt8=>nF r (ρ++[.s x]) f
 | .a::r,ρ,f=>HP.ex λx:Option Addr=>nF r (ρ++[.a x]) f
 | .v::r,ρ,f=>HP.ex λx:Value=>nF r (ρ++[.v x]) f
 | .p::r,ρ,f=>HP.ex λx:HP=>nF r (ρ++[.p x]) f
def nK:List So->bp->(bp->Prop)->Prop
 |[],ρ,f=>f ρ
 | .n::r,ρ,f=>∃x:Nat,nK r (ρ++[.n x]) f
 | .i::r,ρ,f=>∃x:Int,nK r (ρ++[.i x]) f
 | .c::r,ρ,f=>∃x:Bool,nK r (ρ++[.c x]) f
 | .s::r,ρ,f=>∃x:List UInt8,nK r (ρ++[.s x]) f
 | .a::r,ρ,f=>∃x:Option Addr,nK r (ρ++[.a x]) f
 | .v::r,ρ,f=>∃x:Value,nK r (ρ++[.v x]) f
 | .p::r,ρ,f=>∃x:HP,nK r (ρ++[.p x]) f
def fj:List So->bp->(bp->Prop)->Prop
 |[],ρ,f=>f ρ
 | .n::r,ρ,f=>∀x:Nat,fj r (ρ++[.n x]) f
 | .i::r,ρ,f=>∀x:Int,fj r (ρ++[.i x]) f
 | .c::r,ρ,f=>∀x:Bool,fj r (ρ++[.c x]) f
 | .s::r,ρ,f=>∀x:List UInt8,fj r (ρ++[.s x]) f
 | .a::r,ρ,f=>∀x:Option Addr,fj r (ρ++[.a x]) f
 | .v::r,ρ,f=>∀x:Value,fj r (ρ++[.v x]) f
 | .p::r,ρ,f=>∀x:HP,fj r (ρ++[.p x]) f
def g5(α:Type):List So->Type
 |[]=>α
 | .n::r=>Nat->g5 α r
 | .i::r=>Int->g5 α r
 | .c::r=>Bool->g5 α r
 | .s::r=>List UInt8->g5 α r
 | .a::r=>Option Addr->g5 α r
 | .v::r=>Value->g5 α r
 | .p::r=>HP->g5 α r
def g5.app{α:Type}:(l:List So)->g5 α l->bp->α
 |[],f,_=>f
 | .n::r,f,ρ=>g5.app r (f (look ρ 0).nat) (ρ.drop 1)
 | .i::r,f,ρ=>g5.app r (f (look ρ 0).int) (ρ.drop 1)
 | .c::r,f,ρ=>g5.app r (f (look ρ 0).bool) (ρ.drop 1)
 | .s::r,f,ρ=>g5.app r (f (look ρ 0).str) (ρ.drop 1)
 | .a::r,f,ρ=>g5.app r (f (look ρ 0).X9) (ρ.drop 1)
 | .v::r,f,ρ=>g5.app r (f (look ρ 0).val) (ρ.drop 1)
 | .p::r,f,ρ=>g5.app r (f (look ρ 0).hp) (ρ.drop 1)
inductive FV where
 |n (r:BR)|e (e:E)|a (s:SA)|v (x:A)|p (h:Hp)
 deriving DecidableEq
def FV.den(ρ:bp):FV->aP
 | .n r=>.n (r.den ρ)
 | .e y=>y.den ρ
 | .a s=>.a (s.den ρ)
 | .v x=>.v (x.den ρ)
 | .p h=>.p (bg ρ h)
inductive T where
 |ret (v:V) (h:Hp)
 |br (c:E) (a b:T)
 |need (c:E) (k:T)
 |new (k:T)
 |call (f:FuncId) (args:List W) (c:Hp) (ss:List So) (r:V) (nb:Hp) (k:T)
 |op (o:Op) (ty:TypeId) (ar:List (Nat×V)) (c:Hp) (ss:List So) (r:V) (nb:Hp) (k:T)
 |read (o:Op) (ty:TypeId) (ar:List (Nat×V)) (c:Hp) (ss:List So) (r:V) (k:T)
 |loop (ss:List So) (init:List FV) (body:T)
 |again (d:Nat) (fr:List FV)
 |all (a b:T)
 |fail (why:Nat)
 |jw (v:Nat) (args:List W) (c:Hp) (ss:List So) (r:V) (nb:Hp) (k:T)
 |mF (g:A) (c sh:Hp) (ss:List So) (init:List FV) (pss:List So) (Q9:List W) (pch:Hp) (iA aft:T)
 |join (ss:List So) (reg k:T)
 |Ya (v:Nat) (name:String) (args:List W) (c:Hp) (ss:List So) (r:V) (nb:Hp) (k:T)
instance oE(n:Nat):OfNat E n:=⟨.v (@OfNat.ofNat Nat n (instOfNatNat n))⟩
instance oBR(n:Nat):OfNat BR n:=⟨.v (@OfNat.ofNat Nat n (instOfNatNat n))⟩
instance oSA(n:Nat):OfNat SA n:=⟨.v (@OfNat.ofNat Nat n (instOfNatNat n))⟩
instance oA(n:Nat):OfNat A n:=⟨.int .i64 (.v (@OfNat.ofNat Nat n (instOfNatNat n)))⟩
instance oW(n:Nat):OfNat W n:=⟨.a (.int .i64 (.v (@OfNat.ofNat Nat n (instOfNatNat n))))⟩
instance oV(n:Nat):OfNat V n:=⟨.w (.a (.int .i64 (.v (@OfNat.ofNat Nat n (instOfNatNat n)))))⟩
instance oK(n:Nat):OfNat Key n:=⟨.a (@OfNat.ofNat Nat n (instOfNatNat n))⟩
instance oC(n:Nat):OfNat C n:=⟨.prop (@OfNat.ofNat Nat n (instOfNatNat n))⟩
@[reducible] def A.k(x:Int):A:=.int .i64 (.i x)
@[reducible] def A.s(n:Nat):A:=.sl (.v n) (.v (n+1)) (.v (n+2))
@[reducible] def A.z:A:=.sl .nil (.n 0) (.n 0)
@[reducible] def W.k(x:Int):W:=.a (.k x)
@[reducible] def W.s(n:Nat):W:=.a (.s n)
@[reducible] def W.z:W:=.a .z
@[reducible] def W.sl(s:SA)(l c:E):W:=.a (.sl s l c)
@[reducible] def W.bool(e:E):W:=.a (.bool e)
@[reducible] def W.str(e:E):W:=.a (.str e)
@[reducible] def W.ptr(r:BR)(o:Nat):W:=.a (.ptr r o)
@[reducible] def W.aW(s:Nat)(x:E)(z o:Nat):W:=.a (.aW s x z o)
@[reducible] def W.map(r:BR):W:=.a (.map r)
@[reducible] def W.val(k:Nat):W:=.a (.val k)
@[reducible] def V.k(x:Int):V:=.w (.k x)
@[reducible] def V.s(n:Nat):V:=.w (.s n)
@[reducible] def V.z:V:=.w .z
@[reducible] def V.sl(s:SA)(l c:E):V:=.w (.sl s l c)
@[reducible] def V.bool(e:E):V:=.w (.bool e)
@[reducible] def V.str(e:E):V:=.w (.str e)
@[reducible] def V.ptr(r:BR)(o:Nat):V:=.w (.ptr r o)
@[reducible] def V.aW(s:Nat)(x:E)(z o:Nat):V:=.w (.aW s x z o)
@[reducible] def V.map(r:BR):V:=.w (.map r)
@[reducible] def V.val(k:Nat):V:=.w (.val k)
@[reducible] def V.agg(l:List A):V:=.w (.agg l)
@[reducible] def E.not(a:E):E:=.o1 .not a
@[reducible] def E.eq(a b:E):E:=.o2 .eq a b
@[reducible] def E.lt(a b:E):E:=.o2 .lt a b
@[reducible] def E.le(a b:E):E:=.o2 .le a b
@[reducible] def E.add(a b:E):E:=.o2 .add a b
@[reducible] def E.sub(a b:E):E:=.o2 .sub a b
@[reducible] def E.cQ(a b:E):E:=.o2 .CM a b
@[reducible] def E.of(a:E):E:=.o1 .ofNat a
@[reducible] def E.is(a:E):E:=.o1 .isSome a
@[reducible] def FV.z(a:E):FV:=.e (.o1 .neg (.o1 .neg a))
@[reducible] def T.rg(e:E)(k:T):T:=.need (.o1 (.inr .i64) e) k
@[reducible] def T.ld(ty t:Nat)(p:V)(c:Hp)(ss:List So)(r:V)(k:T):T:=.read (.load ty (.tmp t)) ty [(t,p)] c ss r k
def fl(ρ:bp)(ar:List (Nat×V)):Operand->Value
 | .tmp t=>match ar.find? (·.1==t)with
   |some x=>x.2.den ρ
   |none=>undef
 | .const v=>v
 | .global g=>.pointer (some ⟨g,0,none⟩)
 | .func f=>.func (.func f) #[] #[]
def dM(ρ:bp)(o:Op)(ty:TypeId)(ar:List (Nat×V)):Sem Next:=execOp (fl ρ ar) {dst:=none,op:=o,type:=ty,pos:= "",after:= #[],guard:=none}
def T.den(P:Program)(post:Value->HP):T->List (bp->Prop)->bp->Prop
 | .ret v h,_,ρ=>HP.aV (bg ρ h) (post (v.den ρ))
 | .br c a b,L,ρ=>(c.prop ρ->a.den P post L ρ)/\(¬c.prop ρ->b.den P post L ρ)
 | .need c k,L,ρ=>c.prop ρ/\(c.prop ρ->k.den P post L ρ)
 | .new k,L,ρ=>∀x:Nat,k.den P post L (ρ++[.n x])
 | .call f args c ss r nb k,L,ρ=>ax P f (args.map (W.den ρ)).toArray (bg ρ c) λv=>nF ss ρ λρ'=>HP.and (v=r.den ρ') (HP.and (k.den P post L ρ') (bg ρ' nb))
 | .op o ty ar c ss r nb k,L,ρ=>aI P (dM ρ o ty ar) (bg ρ c) λv=>nF ss ρ λρ'=>HP.and (v=r.den ρ') (HP.and (k.den P post L ρ') (bg ρ' nb))
 | .read o ty ar c ss r k,L,ρ=>nK ss ρ λρ'=>aH P (dM ρ o ty ar) (bg ρ c) (r.den ρ')/\k.den P post L ρ'
 | .loop ss init body,L,ρ=>∃(I:g5 Prop ss) (μ:g5 Nat ss),g5.app ss I (init.map (FV.den ρ))/\
    fj ss ρ λρ'=>g5.app ss I (ρ'.drop ρ.length)->body.den P post ((λys=>g5.app ss I ys/\g5.app ss μ ys<g5.app ss μ (ρ'.drop ρ.length))::L) ρ'
 | .again d fr,L,ρ=>match L[d]? with
   |some X=>X (fr.map (FV.den ρ))
   |none=>False
 | .all a b,L,ρ=>a.den P post L ρ/\b.den P post L ρ
 | .fail _,_,_=>False
 | .jw v args c ss r nb k,L,ρ=>iu P (look ρ v).val (args.map (W.den ρ)).toArray (bg ρ c) λv=>nF ss ρ λρ'=>HP.and (v=r.den ρ') (HP.and (k.den P post L ρ') (bg ρ' nb))
 | .mF g c sh ss init pss Q9 pch iA aft,L,ρ=>∃(γ:Type) (Sh:γ->HP) (Pr:γ->Array Value->HP) (may:γ->Array Value->γ->Prop) (iW:γ->Prop) (g0:γ) (I:γ->g5 Prop ss),
    vf P (g.den ρ) (bg ρ c) Sh Pr may iW g0/\g5.app ss (I g0) (init.map (FV.den ρ))/\
    (∀g,fj ss ρ λρ'=>g5.app ss (I g) (ρ'.drop ρ.length)->Sh g=bg ρ' sh)/\
    (∀g args,(∃g',may g args g')->fj ss ρ λρ'=>g5.app ss (I g) (ρ'.drop ρ.length)->nK pss ρ' λZi=>args=(Q9.map (W.den Zi)).toArray/\HP.aV (Pr g args) (bg Zi pch)/\
      iA.den P post ((λys=>∃g',may g args g'/\g5.app ss (I g') ys)::L) Zi)/\
    (∀g,iW g->fj ss ρ λρ'=>g5.app ss (I g) (ρ'.drop ρ.length)->aft.den P post L ρ')
 | .join ss reg k,L,ρ=>∃I:g5 Prop ss,reg.den P post ((λys=>g5.app ss I ys)::L) ρ/\fj ss ρ λρ'=>g5.app ss I (ρ'.drop ρ.length)->k.den P post L ρ'
 | .Ya v name args c ss r nb k,L,ρ=>V1 P (look ρ v).val name (args.map (W.den ρ)).toArray (bg ρ c) λv=>nF ss ρ λρ'=>HP.and (v=r.den ρ') (HP.and (k.den P post L ρ') (bg ρ' nb))
structure JH where
 ask:Bool:=false
 ss:List So:=[]
 n:Nat:=0
 tv:List (Tmp×Option V):=[]
 h:Hp:=[]
 lk:List (Nat×Key):=[]
structure gA where
 fX:List TypeId:=[]
 fx:List TypeId:=[]
 hv:List (Nat×List Key):=[]
 aB:List FuncId:=[]
 iB:List (FuncId×Nat):=[]
 aY:List (FuncId×List Nat):=[]
 aV:List (Tmp×List TypeId):=[]
 shr:List (Nat×List Key):=[]
 vt:List Key:=[]
 mkd:List Tmp:=[]
 abS:List (FuncId×Nat×Nat):=[]
 Zj:List (Nat×List TypeId):=[]
 afF:Bool:=false
 Zk:List Key:=[]
 snk:List (Nat×List Key):=[]
 jn:List ((Nat×Nat)×Option JH):=[]
 jd:Bool:=false
 bz:Bool:=false
 cf:List TypeId:=[]
 cx:Bool:=false
 cel:List (Nat×Key×List Nat):=[]
 apa:Bool:=false
 cut:List FuncId:=[]
 np:List (Nat×Nat×Key):=[]
 stc:List (Key×List Nat):=[]
 jb:Bool:=false
 nj:List Nat:=[]
 vlk:Bool:=false
structure S where
 t:List (Option V)
 h:Hp
 n:Nat
 kn:List (E×Bool)
 lk:List (Nat×Key)
 dp:Nat
 blk:Nat
 df:List BR
def E.dK(n:Nat):E->Bool
 | .v k=>Nat.blt k n
 | .o1 _ a=>a.dK n
 | .o2 _ a b=>a.dK n&&b.dK n
 |_=>true
def BR.dK(n:Nat):BR->Bool
 | .v k=>Nat.blt k n
 | .g _=>true
def SA.dK(n:Nat):SA->Bool
 | .nil=>true
 | .v k=>Nat.blt k n
 | .b r _=>r.dK n
def A.dK(n:Nat):A->Bool
 | .int _ e=>e.dK n
 | .bool e=>e.dK n
 | .str e=>e.dK n
 | .ptr r _=>r.dK n
 | .aW s ix _ _=>Nat.blt s n&&ix.dK n
 | .sl s l c=>s.dK n&&l.dK n&&c.dK n
 | .map r=>r.dK n
 | .val k=>Nat.blt k n
 | .func _ cs=>cs.all λx=>x.1.dK n
 |_=>true
def W.dK(n:Nat):W->Bool
 | .a x=>x.dK n
 | .agg l=>l.all (A.dK n)
def V.dK(n:Nat):V->Bool
 | .w x=>x.dK n
 | .au l=>l.all (W.dK n)
 | .nx c k v=>Nat.blt c n&&Nat.blt k n&&Nat.blt v n
def Key.dK(n:Nat):Key->Bool
 | .b r=>r.dK n
 | .a k=>Nat.blt k n
def C.dK(n:Nat):C->Bool
 | .cells l _=>l.all (A.dK n)
 | .kD=>true
 | .nJ=>true
 | .prop k=>Nat.blt k n
def vg(n:Nat)(h:Hp):Bool:=h.all λx=>x.1.dK n&&x.2.dK n
def S.dK(s:S):Bool:=(s.t.all λ|some v=>v.dK s.n|none=>true)&&vg s.n s.h&&s.df.all (BR.dK s.n)&&s.kn.all λx=>x.1.dK s.n
def S.put(s:S)(d:Option Tmp)(v:V):S:=match d with
 |some k=>{s with t:=s.t.set k (some v)}
 |none=>s
def mapM'{α β:Type}(f:α->Option β):List α->Option (List β)
 |[]=>some []
 |x::r=>match f x with
  |some y=>match mapM' f r with
   |some l=>some (y::l)
   |none=>none
  |none=>none
def vh:Value->Option A
 | .int k n=>some (.int k (.i n))
 | .bool b=>some (.bool (.c b))
 | .string s=>some (.str (.s s.data.toList))
 | .pointer none=>some .fZ
 | .slice none 0 0=>some (.sl .nil (.n 0) (.n 0))
 | .map none=>some .Ic
 | .nilFunc=>some .Q7
 | .nilIface=>some .Q8
 |_=>none
def CN:Value->Option W
 | .agg cs=>(mapM' vh cs.toList).map .agg
 |v=>(vh v).map .a
def ev(s:S):Operand->Option V
 | .tmp t=>match s.t[t]? with
   |some o=>o
   |none=>none
 | .const v=>(CN v).map .w
 | .global g=>some (.w (.a (.ptr (.g g) 0)))
 | .func f=>some (.w (.a (.func f [])))
def kL(s:S)(x:Operand):Option A:=match ev s x with
 |some (.w (.a y))=>some y
 |_=>none
def Lx(s:S)(x:Operand):Option W:=match ev s x with
 |some (.w y)=>some y
 |_=>none
def W.list:W->List A
 | .a x=>[x]
 | .agg l=>l
def gF(P:Program)(t:TypeId):Bool:=match P.underlying t with
 |some (.struct _)=>true
 |some (.array _ _)=>true
 |_=>false
def gr(P:Program)(t:TypeId):Nat:=match P.info? t with
 |some i=>i.size
 |none=>0
def vi(P:Program)(t:TypeId)(l:List A)(off:Nat):Option W:=match P.underlying t with
 |none=>none
 |some _=>if gF P t then(if off+gr P t<=l.length then some (.agg ((l.drop off).take (gr P t)))else none)else(l[off]?).map .a
def isLit:E->Option Bool
 | .c b=>some b
 |_=>none
def AO:List (E×Bool)->E->Option Bool
 |[],_=>none
 |(x,b)::r,e=>if x=e then some b else if x=.o1 .not e then some (!b)else if e=.o1 .not x then some (!b)else AO r e
def pz(l:List (E×Bool))(e:E):Option Bool:=match isLit e with
 |some b=>some b
 |none=>AO l e
def Lz:E->E
 | .c b=>.c (!b)
 |e=>.o1 .not e
def qM(f:F2)(a b:E):E:=match f,a,b with
 | .lt,.i x,.i y=>.c (decide (x<y))
 | .le,.i x,.i y=>.c (decide (x<=y))
 | .eq,.i x,.i y=>.c (decide (x=y))
 |_,_,_=>.o2 f a b
def pB(e:E)(l:List E):List E:=match e with
 | .c true=>l
 |_=>e::l
def rng(k:IntKind)(e:E):E:=match e with
 | .i x=>if k.min<=x/\x<=k.max then .c true else .o1 (.inr k) e
 |_=>.o1 (.inr k) e
def arith(op:BinOp)(a b:E):Option E:=match op,a,b with
 | .add,.i x,.i y=>some (.i (x+y))
 | .sub,.i x,.i y=>some (.i (x - y))
 | .mul,.i x,.i y=>some (.i (x*y))
 | .add,_,_=>some (.o2 .add a b)
 | .sub,_,_=>some (.o2 .sub a b)
 | .mul,_,_=>some (.o2 .mul a b)
 |_,_,_=>none
def AP(op:BinOp)(k:IntKind)(a b:E):Option (List E×A):=match op with
 | .add| .sub| .mul=>match arith op a b with
   |some e=>if k.signed then some (pB (rng k e) [],.int k e)else some ([],.int k (.o1 (.wrap k) e))
   |none=>none
 | .quo=>match a,b with
   | .i x,.i y=>if y≠0/\k.min<=x.tdiv y/\x.tdiv y<=k.max then some ([],.int k (.i (x.tdiv y)))else none
   |_,_=>some (pB (Lz (qM .eq b (.i 0))) (pB (rng k (.o2 .quo a b)) []),.int k (.o2 .quo a b))
 | .rem=>match a,b with
   | .i x,.i y=>if y≠0 then some ([],.int k (.i (x.tmod y)))else none
   |_,_=>some (pB (Lz (qM .eq b (.i 0))) [],.int k (.o2 .rem a b))
 | .and| .or| .xor| .andNot=>some ([],.int k (.o2 (.bit op k) a b))
 | .eql=>some ([],.bool (qM .eq a b))
 | .neq=>some ([],.bool (Lz (qM .eq a b)))
 | .lss=>some ([],.bool (qM .lt a b))
 | .leq=>some ([],.bool (qM .le a b))
 | .gtr=>some ([],.bool (qM .lt b a))
 | .geq=>some ([],.bool (qM .le b a))
 |_=>none
def Zl(a b:IntKind):Bool:=decide (b.min<=a.min)&&decide (a.max<=b.max)
def vj:A->Option E
 | .fZ=>some (.c true)
 | .Ic=>some (.c true)
 | .Q7=>some (.c true)
 | .ptr _ _=>some (.c false)
 | .map _=>some (.c false)
 | .func _ _=>some (.c false)
 | .sl .nil _ _=>some (.c true)
 | .sl (.v k) _ _=>some (Lz (.o1 .isSome (.v k)))
 | .sl (.b _ _) _ _=>some (.c false)
 |_=>none
def nL:A->Bool
 | .fZ=>true
 | .Ic=>true
 | .Q7=>true
 | .sl .nil (.n 0) (.n 0)=>true
 |_=>false
def eA(P:Program)(t:TypeId)(x:A):Bool:=match P.underlying t,x with
 |some (.pointer _),.fZ=>true
 |some (.pointer _),.ptr _ _=>true
 |some (.map _ _),.Ic=>true
 |some (.map _ _),.map _=>true
 |some (.slice _),.sl _ _ _=>true
 |some (.func _ _ _),.Q7=>true
 |some (.func _ _ _),.func _ _=>true
 |_,_=>false
def LA(P:Program)(t:TypeId):Bool:=match P.underlying t with
 |some .bool=>true
 |_=>false
def afG(P:Program)(t:TypeId):Bool:=match P.underlying t with
 |some .string=>true
 |_=>false
def Zm(P:Program)(op:BinOp)(t:TypeId)(x y:A):Option (List E×A):=match op,x,y with
 | .shl,.int k a,.int _ b=>some (pB (qM .le (.i 0) b) [],.int k (.o2 (.shl k) a b))
 | .shr,.int k a,.int _ b=>some (pB (qM .le (.i 0) b) [],.int k (.o2 (.shr k) a b))
 |_,.int k a,.int k' b=>if k=k' then AP op k a b else none
 | .eql,.bool a,.bool b=>if LA P t then some ([],.bool (.o2 .beq a b))else none
 | .neq,.bool a,.bool b=>if LA P t then some ([],.bool (Lz (.o2 .beq a b)))else none
 | .eql,.str a,.str b=>some ([],.bool (.o2 .seq a b))
 | .neq,.str a,.str b=>some ([],.bool (Lz (.o2 .seq a b)))
 | .add,.str a,.str b=>some ([.o2 .le (.o1 .ofNat (.o2 .CM (.o1 .size a) (.o1 .size b))) (.i 9223372036854775807)],.str (.o2 .Q6 a b))
 | .lss,.str a,.str b=>some ([],.bool (.o2 .slt a b))
 | .eql,a,b=>if nL b&&eA P t a&&eA P t b then(vj a).map λe=>([],.bool e)else if nL a&&eA P t a&&eA P t b then(vj b).map λe=>([],.bool e)else none
 | .neq,a,b=>if nL b&&eA P t a&&eA P t b then(vj a).map λe=>([],.bool (Lz e))else if nL a&&eA P t a&&eA P t b then(vj b).map λe=>([],.bool (Lz e))else none
 |_,_,_=>none
def Ra:V->Option (BR×Nat)
 | .w (.a (.ptr r off))=>some (r,off)
 |_=>none
def Rb(e:E)(a b:E):E:=match a,b with
 | .c true,_=>.o2 .or e b
 |_,.c false=>.o2 .and e a
 |_,_=>.o2 .or (.o2 .and e a) (.o2 .and (Lz e) b)
def natLit:E->Option Nat
 | .i x=>if 0<=x then some x.toNat else none
 |_=>none
def Zn:E->Option Nat
 | .n x=>some x
 |_=>none
def kM(h:Hp)(k:Key):Option C:=match h with
 |[]=>none
 |(x,c)::r=>if x=k then some c else kM r k
def Id(s:S)(fn:Fn)(first iw:Array Operand):Option (List E×V):=match fn,first.toList with
 | .func f,[]=>match mapM' (ev s) iw.toList with
   |some vs=>(mapM' Ra vs).map λcs=>([],.w (.a (.func f cs)))
   |none=>none
 |_,_=>none
def LB(P:Program)(s:S)(x:Operand)(t:TypeId):Option (List E×V):=match P.underlying t,kL s x with
 |some (.slice _),some (.sl _ len _)=>some ([],.w (.a (.int .i64 (match len with| .n q=>.i q|_=>.o1 .ofNat len))))
 |some .string,some (.str e)=>some ([],.w (.a (.int .i64 (match e with| .s q=>.i q.length|_=>.o1 .ofNat (.o1 .size e)))))
 |some (.map _ _),some .Ic=>some ([],.w (.a (.int .i64 (.i 0))))
 |_,_=>none
def LC(P:Program)(s:S)(x:Operand)(t:TypeId):Option (List E×V):=match P.underlying t,kL s x with
 |some (.slice _),some (.sl _ _ cap)=>some ([],.w (.a (.int .i64 (.o1 .ofNat cap))))
 |_,_=>none
def AQ(f:F2)(s:S)(x y:Operand):Option (List E×V):=match kL s x,kL s y with
 |some (.int k a),some (.int k' b)=>if k=k' then some ([],.w (.a (.int k (.o2 f a b))))else none
 |_,_=>none
def vk(P:Program)(s:S)(c:Call):Option (List E×V):=match c.callee,c.args.toList,c.argTypes.toList with
 | .builtin .len,[x],[t]=>LB P s x t
 | .builtin .cap,[x],[t]=>LC P s x t
 | .builtin .max,[x,y],_=>AQ .mx s x y
 | .builtin .min,[x,y],_=>AQ .mn s x y
 |_,_,_=>none
def Ie(P:Program)(s:S)(t:TypeId)(x ix:Operand):Option (List E×V):=match P.underlying t,kL s x,kL s ix with
 |some (.slice el),some (.sl (.v k) len _),some (.int _ e)=>if(P.info? el).isSome then some (pB (qM .le (.i 0) e) [.o2 .lt e (.o1 .ofNat len),.o1 .isSome (.v k)],.w (.a (.aW k e (gr P el) 0)))else none
 |some (.slice el),some (.sl (.b r off) len _),some (.int _ e)=>match natLit e,Zn len with
  |some i,some n=>if i<n/\(P.info? el).isSome then some ([],.w (.a (.ptr r (off+i*gr P el))))else none
  |_,_=>none
 |some (.array n el),some (.ptr r off),some (.int _ e)=>match natLit e with
  |some i=>if i<n/\(P.info? el).isSome then some ([],.w (.a (.ptr r (off+i*gr P el))))else none
  |none=>none
 |_,_,_=>none
def sp(P:Program)(s:S):Op->Option (List E×V)
 | .move x| .assign x=>(ev s x).map λv=>([],v)
 | .pick c a b=>match kL s c with
   |some (.bool e)=>match pz s.kn e with
    |some true=>(ev s a).map λv=>([],v)
    |some false=>(ev s b).map λv=>([],v)
    |none=>match kL s a,kL s b with
     |some (.bool x),some (.bool y)=>some ([],.w (.a (.bool (Rb e x y))))
     |_,_=>none
   |_=>none
 | .nilCheck x=>match ev s x with
   |some (.w (.a (.ptr r off)))=>some ([],.w (.a (.ptr r off)))
   |some (.w (.a (.func f cs)))=>some ([],.w (.a (.func f cs)))
   |some (.w (.a (.aW k ix sz off)))=>if pz s.kn (.o1 .isSome (.v k))=some true then some ([],.w (.a (.aW k ix sz off)))else none
   |_=>none
 | .fieldAddr t x f=>match P.underlying t with
   |some (.struct fs)=>match fs[f]? with
    |some fd=>if gr P fd.type=0 then none else match kL s x with
     |some (.ptr r off)=>some ([],.w (.a (.ptr r (off+fd.offset))))
     |some (.aW k ix sz off)=>if pz s.kn (.o1 .isSome (.v k))=some true then some ([],.w (.a (.aW k ix sz (off+fd.offset))))else none
     |_=>none
    |none=>none
   |_=>none
 | .field t x f=>match P.underlying t with
   |some (.struct fs)=>match fs[f]? with
    |some fd=>match Lx s x with
     |some (.agg l)=>(vi P fd.type l fd.offset).map λw=>([],.w w)
     |_=>none
    |none=>none
   |_=>none
 | .extract x i=>match ev s x with
   |some (.au l)=>(l[i]?).map λw=>([],.w w)
   |some (.nx c _ _)=>if i=0 then some ([],.w (.a (.bool (.v c))))else none
   |_=>none
 | .load t a=>match kL s a with
   |some (.ptr r off)=>match kM s.h (.b r)with
    |some (.cells l _)=>(vi P t l off).map λw=>([],.w w)
    |_=>none
   |_=>none
 | .binOp op t x y _=>match kL s x,kL s y with
   |some a,some b=>(Zm P op t a b).map λr=>(r.1,.w (.a r.2))
   |_,_=>none
 | .unOp .not _ x=>match kL s x with
   |some (.bool e)=>some ([],.w (.a (.bool (Lz e))))
   |_=>none
 | .unOp .neg _ x=>match kL s x with
   |some (.int k e)=>(AP .sub k (.i 0) e).map λr=>(r.1,.w (.a r.2))
   |_=>none
 | .convert src dst x=>match P.underlying src,P.underlying dst,kL s x with
   |some (.int sk),some (.int k),some (.int k' e)=>if sk=k' then(if Zl sk k then some (pB (rng k e) [],.w (.a (.int k e)))else some ([],.w (.a (.int k (.o1 (.wrap k) e)))))else none
   |some .string,some .string,some (.str e)=>some ([],.w (.a (.str e)))
   |_,_,_=>none
 | .makeFunc fn first iw=>Id s fn first iw
 | .indexAddr t x ix=>Ie P s t x ix
 | .call c=>vk P s c
 |_=>none
structure lQ where
 ss:List So
 l:List A
 h:Hp
 n:Nat
def Zo(n:Nat):A->lQ
 | .int k _=>⟨[.i],[.int k (.v n)],[],n+1⟩
 | .bool _=>⟨[.c],[.bool (.v n)],[],n+1⟩
 | .str _=>⟨[.s],[.str (.v n)],[],n+1⟩
 | .ptr _ _=>⟨[.n,.p],[.ptr (.v n) 0],[(.b (.v n),.prop (n+1))],n+2⟩
 | .sl _ _ _=>⟨[.a,.n,.n,.p],[.sl (.v n) (.v (n+1)) (.v (n+2))],[(.a n,.prop (n+3))],n+4⟩
 | .map _=>⟨[.n,.p],[.map (.v n)],[(.b (.v n),.prop (n+1))],n+2⟩
 | .func f cs=>⟨[],[.func f cs],[],n⟩
 |_=>⟨[.v,.p],[.val n],[(.a n,.prop (n+1))],n+2⟩
def Yb(n:Nat):List A->lQ
 |[]=>⟨[],[],[],n⟩
 |x::r=>
  let a:=Zo n x
  let b:=Yb a.n r
  ⟨a.ss++b.ss,a.l++b.l,a.h++b.h,b.n⟩
def abU(f:Nat->lQ)(n:Nat):Nat->lQ
 |0=>⟨[],[],[],n⟩
 |k+1=>
  let a:=f n
  let b:=abU f a.n k
  ⟨a.ss++b.ss,a.l++b.l,a.h++b.h,b.n⟩
def Yc(f:TypeId->Nat->lQ)(n:Nat):List TypeId->lQ
 |[]=>⟨[],[],[],n⟩
 |t::r=>
  let a:=f t n
  let b:=Yc f a.n r
  ⟨a.ss++b.ss,a.l++b.l,a.h++b.h,b.n⟩
def N5(own:Bool)(k:Key)(ss:List So)(l:List A)(n:Nat):lQ:=if own then⟨ss++[.p],l,[(k,.prop n)],n+1⟩else⟨ss,l,[],n⟩
def shT(P:Program)(aN:gA)(own:Bool):Nat->TypeId->Nat->lQ
 |0,_,n=>⟨[],[],[],n⟩
 |fuel+1,t,n=>match P.underlying t with
  |some .bool=>⟨[.c],[.bool (.v n)],[],n+1⟩
  |some (.int k)=>⟨[.i],[.int k (.v n)],[],n+1⟩
  |some .string=>⟨[.s],[.str (.v n)],[],n+1⟩
  |some (.pointer _)=>if aN.fx.contains t then N5 own (.a n) [.v] [.val n] (n+1)else N5 own (.b (.v n)) [.n] [.ptr (.v n) 0] (n+1)
  |some (.slice _)=>N5 own (.a n) [.a,.n,.n] [.sl (.v n) (.v (n+1)) (.v (n+2))] (n+3)
  |some (.map _ _)=>if aN.fx.contains t then N5 own (.a n) [.v] [.val n] (n+1)else N5 own (.b (.v n)) [.n] [.map (.v n)] (n+1)
  |some (.struct fs)=>Yc (shT P aN own fuel) n (fs.toList.map (·.type))
  |some (.array k e)=>abU (shT P aN own fuel e) n k
  |_=>N5 own (.a n) [.v] [.val n] (n+1)
def asW(P:Program)(t:TypeId)(l:List A):W:=if gF P t then .agg l else match l with
 |[x]=>.a x
 |_=>.agg l
structure sr where
 ss:List So
 v:V
 h:Hp
 n:Nat
def N6(P:Program)(aN:gA)(own:Bool)(n:Nat):List TypeId->List So×List W×Hp×Nat
 |[]=>([],[],[],n)
 |t::r=>
  let a:=shT P aN own 20 t n
  let b:=N6 P aN own a.n r
  (a.ss++b.1,asW P t a.l::b.2.1,a.h++b.2.2.1,b.2.2.2)
def shR(P:Program)(aN:gA)(own:Bool)(n:Nat):List TypeId->sr
 |[t]=>
  let a:=shT P aN own 20 t n
  ⟨a.ss,.w (asW P t a.l),a.h,a.n⟩
 |ts=>
  let b:=N6 P aN own n ts
  ⟨b.1,.au b.2.1,b.2.2.1,b.2.2.2⟩
def Yd(P:Program)(aN:gA)(own:Bool)(n:Nat)(t:TypeId):sr:=match P.underlying t with
 |some (.tuple ts)=>shR P aN own n ts.toList
 |_=>shR P aN own n [t]
def d7:A->List Key
 | .ptr r _=>[.b r]
 | .aW k _ _ _=>[.a k]
 | .sl (.v k) _ _=>[.a k]
 | .sl (.b r _) _ _=>[.b r]
 | .map r=>[.b r]
 | .func _ cs=>cs.map λx=>.b x.1
 | .val k=>[.a k]
 |_=>[]
def nM:V->List Key
 | .w x=>x.list.flatMap d7
 | .au l=>l.flatMap λx=>x.list.flatMap d7
 | .nx _ k v=>[.a k,.a v]
def ly(lk:List (Nat×Key)):Key->List Key
 | .b (.v k)=>(lk.filter λx=>x.1==k).map (·.2)
 | .a k=>(lk.filter λx=>x.1==k).map (·.2)
 |_=>[]
def gB(h:Hp)(lk:List (Nat×Key)):Nat->List Key->List Key->List Key
 |0,_,acc=>acc
 |_,[],acc=>acc
 |fuel+1,k::todo,acc=>
  if acc.contains k then gB h lk fuel todo acc
  else
   let If:=ly lk k++match kM h k with
    |some (.cells l _)=>l.flatMap d7
    |_=>[]
   gB h lk fuel (If++todo) (acc++[k])
def pC(h:Hp):List Key->Hp
 |[]=>[]
 |k::r=>match kM h k with
  |some c=>(k,c)::pC h r
  |none=>pC h r
def iC:Hp->Bool
 |[]=>true
 |x::r=> !r.contains x&&iC r
def Ig(m l:Hp):Bool:=iC m&&m.all λx=>l.contains x
structure Zp where
 ss:List So
 h:Hp
 n:Nat
def pD(aN:gA)(h:Hp)(n:Nat):List Key->Zp
 |[]=>⟨[],[],n⟩
 |k::r=>match kM h k with
  |none=>pD aN h n r
  |some (.cells l ty)=>
   if aN.fX.contains ty then
    let b:=pD aN h (n+1) r
    ⟨.p::b.ss,(k,.prop n)::b.h,b.n⟩
   else
    let a:=Yb n l
    let b:=pD aN h a.n r
    ⟨a.ss++b.ss,(k,.cells a.l ty)::a.h++b.h,b.n⟩
  |some _=>
   let b:=pD aN h (n+1) r
   ⟨.p::b.ss,(k,.prop n)::b.h,b.n⟩
def AR(ks:List Nat):Nat->Nat->List A->lQ
 |_,n,[]=>⟨[],[],[],n⟩
 |i,n,x::r=>
  if ks.contains i then
   let a:=Zo n x
   let b:=AR ks (i+1) a.n r
   ⟨a.ss++b.ss,a.l++b.l,a.h++b.h,b.n⟩
  else
   let b:=AR ks (i+1) n r
   ⟨b.ss,x::b.l,b.h,b.n⟩
def Ih(aN:gA)(h:Hp)(n:Nat):List Key->Zp
 |[]=>⟨[],[],n⟩
 |k::r=>match aN.stc.find? (·.1=k),kM h k with
  |some x,some (.cells l ty)=>
   let a:=AR x.2 0 n l
   let b:=Ih aN h a.n r
   ⟨a.ss++b.ss,(k,.cells a.l ty)::a.h++b.h,b.n⟩
  |_,_=>
   let a:=pD aN h n [k]
   let b:=Ih aN h a.n r
   ⟨a.ss++b.ss,a.h++b.h,b.n⟩
def brE(s:S)(e:E)(kt kf:S->T):T:=match pz s.kn e with
 |some true=>kt s
 |some false=>kf s
 |none=>if s.dK&&e.dK s.n then .br e (kt {s with kn:=(e,true)::s.kn}) (kf {s with kn:=(e,false)::s.kn})else .fail 1
def yJ:List E->(S->T)->S->T
 |[],K,s=>K s
 |e::r,K,s=>if pz s.kn e=some true then yJ r K s else if e.dK s.n then .need e (yJ r K {s with kn:=(e,true)::s.kn})else .fail 2
def pY(o:Op):List Tmp:=o.operands.toList.filterMap λ| .tmp t=>some t|_=>none
def N7(s:S):List Tmp->Option (List (Nat×V))
 |[]=>some []
 |t::r=>match ev s (.tmp t)with
  |some v=>(N7 s r).map λl=>(t,v)::l
  |none=>none
def CO(P:Program)(t:TypeId):Bool:=match P.underlying t with
 |some (.pointer _)=>true
 |_=>false
def Zq(P:Program)(t:TypeId):Bool:=match P.underlying t with
 |some (.func _ _ _)=>true
 |_=>false
def afH(P:Program)(t:TypeId):Bool:=CO P t||match P.underlying t with
 |some (.struct fs)=>fs.any λf=>CO P f.type
 |_=>false
def vm:Op->Bool
 | .lookup .. | .load .. | .binOp .. | .index .. | .slice .. | .field .. | .typeAssert .. =>true
 | .call {callee:=.builtin .len,..}=>true
 | .call {callee:=.builtin .max,..}=>true
 | .call {callee:=.builtin .min,..}=>true
 | .convert .. =>true
 | .entry _=>true
 | .nilCheck _=>true
 | .fieldAddr .. =>true
 | .indexAddr .. =>true
 |_=>false
def slT(P:Program)(t:TypeId):Bool:=match P.underlying t with
 |some (.slice _)=>true
 |_=>false
def Zr:Op->Bool
 | .convert .. =>true
 |_=>false
def abX(P:Program):Op->Bool
 | .convert src dst _=>afG P src||(slT P src&&slT P dst)
 | .load t _=>CO P t
 | .lookup t _ _ _=>match P.underlying t with
   |some (.map _ e)=>CO P e
   |_=>false
 |_=>false
def abY:Op->Bool
 | .store .. | .mapUpdate .. | .insert .. | .entryStore .. =>true
 |_=>false
def AS(v:V):List Nat:=(nM v).filterMap λ
 | .a k=>some k
 |_=>none
def jx:Nat:=1000000
def CP(s:S)(x:A):List Key:=(d7 x)++(d7 x).flatMap (ly s.lk)
def LD(v:V):List Nat:=(nM v).filterMap λ
 | .b (.v k)=>some k
 |_=>none
def abZ:Key->List Nat
 | .b (.v k)=>[k]
 | .a k=>[k]
 |_=>[]
def qN(o:Op)(s:S)(n:Nat)(v:V):List (Nat×Key):=match o with
 | .nilCheck x=>match kL s x,v with
   |some (.val k),.w (.a (.ptr (.v j) _))=>if s.n<=j then(CP s (.val k)).map λq=>(j,q)else[]
   |_,_=>[]
 | .fieldAddr _ x _=>match kL s x,v with
   |some y,.w (.a (.val k))=>(CP s y).map λq=>(k,q)
   |_,_=>[]
 | .indexAddr _ x _=>match kL s x,v with
   |some y,.w (.a (.val k))=>(CP s y).map λq=>(k,q)
   |_,_=>[]
 | .call c=>match c.callee,v with
   | .value (.func _),.w (.a (.val k))=>(c.args.toList.flatMap λx=>match kL s x with|some y=>CP s y|none=>[]).map λq=>(k,q)
   |_,_=>[]
 | .convert _ _ x=>match kL s x,v with
   |some a,.w (.a (.sl (.v k) _ _))=>(d7 a).map λq=>(k,q)
   |some a,.w (.a (.val k))=>(CP s a).map λq=>(k,q)
   |_,_=>[]
 | .slice _ x .. =>match kL s x,v with
   |some a,.w (.a (.sl (.v k) _ _))=>(d7 a).map λq=>(k,q)
   |_,_=>[]
 | .range _ x=>match kL s x with
   |some a=>(d7 a).map λq=>(n,q)
   |_=>[]
 | .load _ x=>match kL s x,v with
   |some (.aW k _ _ _),.w (.a (.ptr r _))=>[(k,.b r),(k+jx,.b r)]
   |some (.aW k _ _ _),.w (.agg l)=>l.flatMap λ
    | .ptr r _=>[(k,.b r),(k+jx,.b r)]
    | .val j=>[(k,.a j),(k+jx,.a j)]
    | .sl (.v j) _ _=>[(j,.a k)]
    |_=>[]
   |some y,v=>((AS v).flatMap λk=>(d7 y).map λq=>(k,q))++(LD v).flatMap λk=>(CP s y).map λq=>(k,q)
   |_,_=>[]
 | .lookup _ x _ _=>match kL s x with
   |some y=>((AS v).flatMap λk=>(CP s y).map λq=>(k,q))++(LD v).flatMap λk=>(CP s y).flatMap λq=>(abZ q).flatMap λj=>[(j,.b (.v k)),(j+jx,.b (.v k))]
   |_=>[]
 | .entry x=>match kL s x with
   |some y=>(AS v).flatMap λk=>((d7 y).flatMap (ly s.lk)).map λq=>(k,q)
   |_=>[]
 |_=>[]
def Zs(c:Call):Bool:=match c.callee with
 | .builtin .append=>true
 |_=>false
def V2(P:Program)(aN:gA):Op->List Operand×Bool
 | .mapUpdate t m _ _| .insert t m _ _=>([m],match P.underlying t with|some (.map _ e)=>CO P e||Zq P e|_=>false)
 | .mapEntry _ m _=>([m],false)
 | .entryStore t m _ _=>([m],match P.underlying t with|some (.map _ e)=>CO P e||Zq P e||slT P e|_=>false)
 | .store t ad _=>([ad],CO P t||(aN.bz&&slT P t))
 | .call c=>match c.callee with
   | .builtin _=>(c.args.toList.take 1,match c.argTypes.toList with
     |t::_=>match P.underlying t with
      |some (.slice e)=>afH P e||(aN.apa&&Zs c)
      |_=>false
     |[]=>false)
   |_=>(c.operands.toList,true)
 | .load _ x=>([x],false)
 | .lookup _ x _ _=>([x],false)
 |o=>(o.operands.toList,true)
def afI(P:Program)(aN:gA)(n:Nat)(o:Oper):sr:=if abY o.op then⟨[],.au [],[],n⟩else match o.op with
 | .next _ false=>⟨[.c,.v,.v],.nx n (n+1) (n+2),[],n+3⟩
 | .range _ _=>⟨[.n,.p],.w (.a (.ptr (.v n) 0)),[(.b (.v n),.prop (n+1))],n+2⟩
 | .entry _=>match o.dst with
   |some d=>match aN.aV.find? (·.1==d)with
    |some x=>
     let b:=N6 P aN true n x.2
     ⟨b.1,.au b.2.1,b.2.2.1,b.2.2.2⟩
    |none=>Yd P aN true n o.type
   |none=>Yd P aN true n o.type
 | .mapEntry t _ _=>match P.underlying t with
   |some (.map _ e)=>
    let b:=N6 P aN true n [e]
    ⟨b.1++[.i],.au (b.2.1++[.a (.int .i64 (.v b.2.2.2))]),b.2.2.1,b.2.2.2+1⟩
   |_=>Yd P aN true n o.type
 |_=>Yd P aN true n o.type
def ab0(P:Program)(aN:gA)(n:Nat)(o:Oper):sr:=match o.op,o.dst with
 | .entry _,some d=>match aN.aV.find? (·.1==d)with
   |some x=>
    let b:=N6 P aN false n x.2
    ⟨b.1,.au b.2.1,b.2.2.1,b.2.2.2⟩
   |none=>Yd P aN false n o.type
 |_,_=>Yd P aN false n o.type
def yK(P:Program)(aN:gA)(s:S)(o:Oper):sr:=match o.op with
 | .nilCheck x=>match ev s x with
   |some (.w (.a (.val k)))=>if aN.bz&& !Zq P o.type then⟨[.n],.w (.a (.ptr (.v s.n) 0)),[],s.n+1⟩else⟨[],.w (.a (.val k)),[],s.n⟩
   |some v=>⟨[],v,[],s.n⟩
   |none=>ab0 P aN s.n o
 | .fieldAddr .. =>⟨[.v],.w (.a (.val s.n)),[],s.n+1⟩
 | .indexAddr .. =>⟨[.v],.w (.a (.val s.n)),[],s.n+1⟩
 |_=>ab0 P aN s.n o
def Ii:Op->Bool
 | .next _ _=>true
 |_=>false
def ab1:Op->Bool
 | .call c=>match c.callee with
   | .builtin .append=>true
   |_=>false
 |_=>false
def LF:Op->Bool
 | .select _ _=>true
 |_=>false
def ab2(aN:gA)(s:S)(o:Oper)(n:Nat)(vo:List Key):Zp:=if Zr o.op then⟨[],[],n⟩else if ab1 o.op then(if aN.bz&& !aN.apa then pD aN s.h n (vo.filter λk=> !((pY o.op).flatMap λt=>match ev s (.tmp t)with|some v=>nM v|none=>[]).contains k)else⟨[],[],n⟩)else if aN.stc.isEmpty then pD aN s.h n vo else Ih aN s.h n vo
def ab3(Zk:List Key)(b:Bool)(cons:Hp)(ks:List Key):Hp:=if b then cons.filter λx=>Zk.contains x.1 else cons.filter λx=> !ks.contains x.1
def LG(s:S):Nat->Key->List Key
 |0,_=>[]
 |d+1,k=>(ly s.lk k).flatMap λq=>if(kM s.h q).isSome then[q]else q::LG s d q
def ab4(o:Op)(s:S)(k:Key):List Key:=k::(if Ii o then[]else LG s 4 k)
def ab5(o:Op)(s:S)(ks:List Key):List Key:=if Ii o then ks else gB s.h s.lk 60 ks []
def ab6(P:Program)(aN:gA):Op->Bool
 | .load t _=>aN.cf.contains t
 | .lookup t _ _ _=>match P.underlying t with
   |some (.map _ e)=>aN.cf.contains e
   |_=>false
 |_=>false
def Ij(P:Program)(aN:gA)(o:Oper):Bool:=(abX P o.op&& !ab6 P aN o.op)||match o.dst with
 |some d=>aN.mkd.contains d
 |none=>false
def vp(P:Program)(aN:gA)(s:S)(o:Oper)(K:S->T):T:=
 if LF o.op then .fail 9 else
 match N7 s (pY o.op)with
 |none=>.fail 10
 |some ar=>
  let vo:=ar.flatMap λx=>nM x.2
  let ks:=gB s.h s.lk 60 vo []
  let cons:=pC s.h ks
  if !Ig cons (s.h.filter λx=>ks.contains x.1)then .fail 13 else
  if vm o.op&& !Ij P aN o then
   let r:=yK P aN s o
   if s.dK&&decide (r.n=s.n+r.ss.length)then
    -- what is read is aiw by what it was read from:no part of its own
    let ss:=r.ss
    let s':={s with n:=r.n,lk:=qN o.op s s.n r.v++s.lk}
    .read o.op o.type ar cons ss r.v (K (s'.put o.dst r.v))
   else .fail 11
  else
   let r:=afI P aN s.n o
   let fo:=V2 P aN o.op
   let Re:=(fo.1.flatMap λx=>match ev s x with|some v=>nM v|none=>[]).flatMap (ab4 o.op s)
   let b:=ab2 aN s o r.n Re.eraseDups
   let rest:=s.h.filter λx=> !ks.contains x.1
   let V3:=ab3 aN.Zk (fo.2&& !Ii o.op) cons (ab5 o.op s Re)
   if s.dK&&decide (b.n=s.n+(r.ss++b.ss).length)then
    let rb:=r.h++b.h
    let nb:=rb++V3.filter λx=> !(rb.any λy=>decide (y.1=x.1))
    .op o.op o.type ar cons (r.ss++b.ss) r.v nb (K ({s with n:=b.n,h:=nb++rest,lk:=qN o.op s s.n r.v++s.lk}.put o.dst r.v))
   else .fail 12
def vq:List A->List Nat
 |[]=>[]
 | .ptr (.v k) _::_=>[k]
 | .val k::_=>[k]
 |_::r=>vq r
def Ye:V->List A
 | .w x=>x.list
 | .au l=>l.flatMap W.list
 | .nx _ _ _=>[]
def CQ(v:V)(i:Nat):List Key:=match v with
 | .au l=>(((l[i]?).map W.list).getD []).flatMap d7
 |_=>[]
def Zt:Key->List Nat
 | .b (.v k)=>[k]
 | .a k=>[k]
 |_=>[]
def oY(aN:gA)(f:FuncId)(args:List W)(v:V):List (Nat×Key):=
 ((aN.abS.filter λx=>x.1==f).flatMap λx=>(CQ v x.2.1).flatMap λk=>(Zt k).flatMap λn=>(CQ v x.2.2).map λq=>(n,q))++
 (aN.iB.filter λx=>x.1==f).flatMap λx=>(vq (Ye v)).flatMap λk=>match args[x.2]? with
   |some w=>(w.list.flatMap d7).map λq=>(k,q)
   |none=>[]
def V4(aN:gA)(s:S)(f:FuncId)(args:List W):List Key:=match aN.aY.find? (·.1==f)with
 |some x=>x.2.flatMap λi=>match args[i%100]? with
  |some w=>(w.list.flatMap d7).flatMap λk=>if 100<=i then k::ly s.lk k else[k]
  |none=>[]
 |none=>(args.flatMap λx=>x.list.flatMap d7).flatMap λk=>k::LG s 4 k
def Zu(aN:gA)(f:FuncId)(cons:Hp)(ks:List Key):Hp:=if(aN.aY.find? (·.1==f)).isSome then cons.filter λx=> !ks.contains x.1 else[]
def LH(P:Program)(aN:gA)(s:S)(o:Oper)(f:FuncId)(args:List W)(K:S->T):T:=
 match P.funcs[f]? with
 |none=>.fail 20
 |some fn=>
  if aN.cut.contains f then .fail 29 else
  let vo:=args.flatMap λx=>x.list.flatMap d7
  let ks:=gB s.h s.lk 60 vo []
  let cons:=pC s.h ks
  let rest:=s.h.filter λx=> !ks.contains x.1
  if !Ig cons (s.h.filter λx=>ks.contains x.1)then .fail 22 else
  let r:=shR P aN true s.n fn.resultTypes.toList
  let Rf:=V4 aN s f args
  let b:=pD aN s.h r.n (Rf.eraseDups)
  if s.dK&&fn.body.isSome&&fn.name != "runtime.NumGoroutine" &&decide (r.n=s.n+r.ss.length)&&decide (b.n=s.n+(r.ss++b.ss).length)then
   if aN.aB.contains f then .call f args cons r.ss r.v (r.h++cons) (K ({s with n:=r.n,h:=r.h++cons++rest,lk:=oY aN f args r.v++s.lk}.put o.dst r.v))else
   let nb:=r.h++b.h++Zu aN f cons Rf
   .call f args cons (r.ss++b.ss) r.v nb (K ({s with n:=b.n,h:=nb++rest,lk:=oY aN f args r.v++s.lk}.put o.dst r.v))
  else .fail 21
def CR(s:S)(d:Option Tmp)(c:C)(v:BR->A)(K:S->T):T:=
 if s.dK&&c.dK s.n then .new (K ({s with n:=s.n+1,h:=(.b (.v s.n),c)::s.h}.put d (.w (.a (v (.v s.n))))))else .fail 30
def yL(place:Nat->Option (Nat×Nat))(cells:List A):List (Nat×W)->Option (List A)
 |[]=>some cells
 |(i,w)::rest=>match place i with
  |none=>none
  |some (off,size)=>
   if w.list.length≠size||off+w.list.length>cells.length then none
   else yL place (cells.take off++w.list++cells.drop (off+w.list.length)) rest
def tE(P:Program)(t:TypeId):Option (List A):=match P.info? t with
 |some i=>match i.zero with
  |some v=>(CN v).map W.list
  |none=>none
 |none=>none
def partsOf(s:S)(l:List (Nat×Operand)):Option (List (Nat×W)):=mapM' (λx=>(Lx s x.2).map λw=>(x.1,w)) l
def ux{α:Type}:Nat->List α->List α
 |0,_=>[]
 |n+1,l=>l++ux n l
def ab7(h:Hp)(k:Key):Hp:=h.filter λx=> !decide (x.1=k)
def AT(P:Program)(aN:gA)(s:S)(o:Oper)(c:Call)(K:S->T):T:=match c.callee with
 | .value (.func f)=>match mapM' (Lx s) c.args.toList with
   |some ws=>match P.funcs[f]? with
    |some fn=>if fn.body.isSome then LH P aN s o f ws K else vp P aN s o K
    |none=>.fail 44
   |none=>.fail 45
 | .value x=>match kL s x,mapM' (Lx s) c.args.toList with
   |some (.func f cs),some ws=>LH P aN s o f (ws++cs.map λq=>.a (.ptr q.1 q.2)) K
   |_,_=>.fail 46
 |_=>vp P aN s o K
def vr(P:Program)(s:S)(o:Oper)(t:TypeId)(len:Nat)(parts:Array (Nat×Operand))(K:S->T):T:=match P.underlying t with
 |some (.slice el)=>match(if len*gr P el=0 then some []else tE P el),partsOf s parts.toList with
  |some z,some ps=>if(P.info? el).isSome/\(len*gr P el=0\/z.length=gr P el)then match yL (λi=>some (i*gr P el,gr P el)) (ux len z) ps with
    |some l=>if len*gr P el<=16777216 then CR s o.dst (.cells l el) (λr=>.sl (.b r 0) (.n len) (.n len)) K else .fail 36
    |none=>.fail 37
   else .fail 38
  |_,_=>.fail 38
 |_=>.fail 39
def vu(P:Program)(s:S)(o:Oper)(t:TypeId)(parts:Array (Nat×Operand))(K:S->T):T:=match P.underlying t with
 |some (.struct fs)=>match tE P t,partsOf s parts.toList with
  |some z,some ps=>if fs.all (λf=>(P.info? f.type).isSome)then match yL (λi=>(fs[i]?).map λf=>(f.offset,gr P f.type)) z ps with
    |some l=>K (s.put o.dst (.w (.agg l)))
    |none=>.fail 33
   else .fail 34
  |_,_=>.fail 34
 |some (.array _ el)=>match tE P t,partsOf s parts.toList with
  |some z,some ps=>if(P.info? el).isSome then match yL (λi=>some (i*gr P el,gr P el)) z ps with
    |some l=>K (s.put o.dst (.w (.agg l)))
    |none=>.fail 33
   else .fail 34
  |_,_=>.fail 34
 |_=>.fail 35
def vw(P:Program)(aN:gA)(s:S)(o:Oper)(t:TypeId)(ad x:Operand)(K:S->T):T:=match kL s ad,Lx s x with
 |some (.ptr r off),some w=>match kM s.h (.b r)with
  |some (.cells l ty)=>
   if w.list.length=gr P t/\(P.info? t).isSome/\off+w.list.length<=l.length/\(s.h.filter λx=>decide (x.1=.b r))=[(.b r,.cells l ty)]then
    K ({s with h:=(.b r,.cells (l.take off++w.list++l.drop (off+w.list.length)) ty)::ab7 s.h (.b r)}.put o.dst (.au []))
   else .fail 40
  |_=>vp P aN s o K
 |_,_=>vp P aN s o K
def AU(s:S)(o:Oper)(c a b:Operand)(K:S->T):T:=match kL s c with
 |some (.bool e)=>brE s e (λs=>match ev s a with|some v=>K (s.put o.dst v)|none=>.fail 41) (λs=>match ev s b with|some v=>K (s.put o.dst v)|none=>.fail 42)
 |_=>.fail 43
def Rh(P:Program)(aN:gA)(s:S)(o:Oper)(K:S->T):T:=match o.op with
 | .alloc e=>match tE P e with
   |some l=>CR s o.dst (.cells l e) (λr=>.ptr r 0) K
   |none=>.fail 31
 | .box e x=>match Lx s x with
   |some w=>CR s o.dst (.cells w.list e) (λr=>.ptr r 0) K
   |none=>.fail 32
 | .makeMap _ none=>CR s o.dst .kD .map K
 | .build t parts=>vu P s o t parts K
 | .buildSlice t len parts=>vr P s o t len parts K
 | .store t ad x=>vw P aN s o t ad x K
 | .pick c a b=>AU s o c a b K
 | .call c=>AT P aN s o c K
 |_=>vp P aN s o K
def Ri(P:Program)(aN:gA)(s:S)(o:Oper)(K:S->T):T:=match sp P s o.op with
 |some (es,v)=>yJ es (λs=>K (s.put o.dst v)) s
 |none=>Rh P aN s o K
def vx(ops:Array Oper)(s:S)(o:Oper)(run skip:S->T):T:=match o.guard with
 |none=>run s
 |some (j,N8)=>match(ops[j]?).bind (·.dst)with
  |none=>.fail 50
  |some d=>match s.t[d]? with
   |some (some (.au []))=>skip s
   |_=>match kL s (.tmp d)with
    |some (.bool e)=>brE s e (λs=>if N8 then run s else skip s) (λs=>if N8 then skip s else run s)
    |_=>.fail 51
def gP:Op->Bool
 | .defer _=>false
 |_=>true
def uU(s:S)(o:Oper):Option (Nat×List W):=match o.op with
 | .call c=>match c.callee with
   | .value x=>match kL s x,mapM' (Lx s) c.args.toList with
     |some (.val k),some ws=>some (k,ws)
     |_,_=>none
   |_=>none
 |_=>none
def Rj(aN:gA)(args:List W)(v:V):List (Nat×Key):=if aN.vlk then(vq (Ye v)).flatMap λk=>(args.flatMap λw=>w.list.flatMap d7).map λq=>(k,q)else[]
def gC(P:Program)(aN:gA)(s:S)(o:Oper)(v:Nat)(args:List W)(K:S->T):T:=
 let ks:=gB s.h s.lk 60 (Key.a v::aN.vt++args.flatMap λx=>x.list.flatMap d7) []
 let cons:=pC s.h ks
 let rest:=s.h.filter λx=> !ks.contains x.1
 if !Ig cons (s.h.filter λx=>ks.contains x.1)then .fail 23 else
 let r:=Yd P aN true s.n o.type
 let rt:=(Key.a v::aN.vt).eraseDups
 let b:=pD aN s.h r.n rt
 let nb:=r.h++b.h++cons.filter λx=> !rt.contains x.1
 if s.dK&&decide (b.n=s.n+(r.ss++b.ss).length)then
  .jw v args cons (r.ss++b.ss) r.v nb (K ({s with n:=b.n,h:=nb++rest,lk:=Rj aN args r.v++s.lk}.put o.dst r.v))
 else .fail 24
def uV(s:S)(o:Oper):Option (Nat×String×List W):=match o.op with
 | .call c=>match c.callee with
   | .invoke x name=>match kL s x,mapM' (Lx s) c.args.toList with
     |some (.val k),some ws=>some (k,name,ws)
     |_,_=>none
   |_=>none
 |_=>none
def Rk(P:Program)(aN:gA)(s:S)(o:Oper)(v:Nat)(name:String)(args:List W)(K:S->T):T:=
 let ks:=gB s.h s.lk 60 (Key.a v::aN.vt++args.flatMap λx=>x.list.flatMap d7) []
 let cons:=pC s.h ks
 let rest:=s.h.filter λx=> !ks.contains x.1
 if !Ig cons (s.h.filter λx=>ks.contains x.1)then .fail 25 else
 let r:=Yd P aN true s.n o.type
 let rt:=(Key.a v::aN.vt++args.flatMap λx=>x.list.flatMap d7).eraseDups
 let b:=pD aN s.h r.n rt
 let nb:=r.h++b.h++cons.filter λx=> !rt.contains x.1
 if s.dK&&decide (b.n=s.n+(r.ss++b.ss).length)then
  .Ya v name args cons (r.ss++b.ss) r.v nb (K ({s with n:=b.n,h:=nb++rest,lk:=Rj aN args r.v++s.lk}.put o.dst r.v))
 else .fail 26
def LI(P:Program)(aN:gA)(s:S)(o:Oper)(K:S->T):T:=match uU s o with
 |some (v,args)=>gC P aN s o v args K
 |none=>match uV s o with
  |some (v,name,args)=>Rk P aN s o v name args K
  |none=>Ri P aN s o K
def Rl(P:Program)(aN:gA)(ops:Array Oper):List Oper->S->(S->T)->T
 |[],s,K=>K s
 |o::r,s,K=>vx ops s o (λs=>LI P aN s o λs=>Rl P aN ops r s K) (λs=>Rl P aN ops r (s.put o.dst (.au [])) K)
def afJ(P:Program)(t:TypeId):Bool:=match P.underlying t with
 |some (.map _ _)=>true
 |_=>false
def afK:Op->Bool
 | .nilCheck _=>true
 | .fieldAddr .. =>true
 | .indexAddr .. =>true
 | .slice .. =>true
 |_=>false
def Rm(aN:gA):Op->Bool
 | .call c=>match c.callee with
   | .value (.func f)=>aN.cx&&aN.aB.contains f
   |_=>false
 |_=>false
def N9:Op->Bool
 | .call c=>match c.callee with
   | .value (.tmp _)=>true
   | .invoke _ _=>true
   |_=>false
 |_=>false
def afL:Key->W
 | .b r=>.a (.ptr r 0)
 | .a k=>.a (.val k)
def Rn(P:Program)(aN:gA)(s:S)(o:Oper):S×List Key:=match sp P s o.op with
 |some (_,v)=>(s.put o.dst v,[])
 |none=>
  let s':=match o.dst with
   |some d=>{s with t:=s.t.set d none}
   |none=>s
  if vm o.op&& !Ij P aN o then(if afJ P o.type||CO P o.type||(aN.bz&&(slT P o.type||afK o.op))then(match o.dst with
   |some d=>{s with t:=s.t.set d (some (.au ((gB s.h s.lk 60 ((pY o.op).flatMap λt=>match ev s (.tmp t)with|some v=>nM v|none=>[]) []).map afL)))}
   |none=>s)else s',[])
  else if Rm aN o.op then(s',[])else(s',gB s.h s.lk 60 (((pY o.op).flatMap λt=>match ev s (.tmp t)with|some v=>nM v|none=>[])++if N9 o.op then aN.vt else[]) [])
def LJ(P:Program)(aN:gA):List Oper->S->List (List Key)
 |[],_=>[]
 |o::r,s=>(Rn P aN s o).2::LJ P aN r (Rn P aN s o).1
def ee(ops:Array Oper)(tk:List (List Key))(h0:Hp)(listed:Array Bool):Hp:=h0.filter λx=>(List.range ops.size).all λj=> !listed.getD j false|| !(tk.getD j []).contains x.1
def kN(ops:Array Oper)(tk:List (List Key))(h0:Hp)(D:List Nat):Hp:=h0.filter λx=>(List.range ops.size).all λj=>D.contains j|| !(tk.getD j []).contains x.1
def Yf(ops:Array Oper)(i:Nat):List Oper->Nat->List Nat->List Nat
 |[],_,D=>D
 |o::r,j,D=>Yf ops i r (j+1) (if o.after.any λe=>Region.binds .any e&&(e.on==i||D.contains e.on)then j::D else D)
def CS(ops:Array Oper)(listed:Array Bool)(tk:List (List Key))(i:Nat)(D:List Nat):Bool:=
 !D.contains i&&decide (tk.getD i []=[])&&D.all λj=> !listed.getD j true&&match ops[j]? with
  |some o=>o.after.any λe=>Region.binds .any e&&(e.on==i||D.contains e.on)
  |none=>false
def V5(ops:Array Oper)(s:S)(o:Oper):Option Bool:=match o.guard with
 |none=>some true
 |some (j,N8)=>match(ops[j]?).bind (·.dst)with
  |none=>none
  |some d=>match s.t[d]? with
   |some (some (.au []))=>some false
   |_=>match kL s (.tmp d)with
    |some (.bool e)=>(pz s.kn e).map λb=>b==N8
    |_=>none
def Ro(P:Program)(aN:gA)(hs:Hp)(s:S)(o:Oper):Option (List (Nat×V)×Hp×sr):=
 if aN.cx&&vm o.op&& !Ij P aN o&& !LF o.op then match N7 s (pY o.op)with
  |none=>none
  |some ar=>
   let cons:=pC s.h (gB s.h s.lk 60 (ar.flatMap λx=>nM x.2) [])
   let r:=yK P aN s o
   if iC cons&&cons.all (λx=>hs.contains x)&&s.dK&&decide (r.n=s.n+r.ss.length)then some (ar,cons,r)else none
 else none
def CT(P:Program)(aN:gA)(ops:Array Oper)(hs:Hp)(s:S)(o:Oper):Bool:=match V5 ops s o with
 |none=>false
 |some false=>true
 |some true=>(sp P {s with h:=hs} o.op).isSome||(Ro P aN hs s o).isSome
def firstFree(P:Program)(aN:gA)(ops:Array Oper)(tk:List (List Key))(h0:Hp)(listed:Array Bool)(s:S):List Nat->Option (Nat×Oper×List Nat)
 |[]=>none
 |i::r=>match ops[i]? with
  |none=>none
  |some o=>if Region.free .any ops listed i then
    if CS ops listed tk i []&&CT P aN ops (kN ops tk h0 []) s o then some (i,o,[])
    else
     let D:=Yf ops i ops.toList 0 []
     if CS ops listed tk i D&&CT P aN ops (kN ops tk h0 D) s o then some (i,o,D)else firstFree P aN ops tk h0 listed s r
   else firstFree P aN ops tk h0 listed s r
def Zv(f:Nat->T):List Nat->T
 |[]=>.fail 64
 |[i]=>f i
 |i::r=>.all (f i) (Zv f r)
def Zw(ops:Array Oper)(s:S)(i:Nat):Option E:=match ops[i]? with
 |none=>none
 |some o=>match o.guard with
  |none=>none
  |some (j,_)=>match(ops[j]?).bind (·.dst)with
   |none=>none
   |some d=>match kL s (.tmp d)with
    |some (.bool e)=>if(pz s.kn e).isSome then none else some e
    |_=>none
def su(ops:Array Oper):List Nat->S->(S->T)->T
 |[],s,K=>K s
 |i::r,s,K=>match Zw ops s i with
  |some e=>brE s e (λs=>su ops r s K) (λs=>su ops r s K)
  |none=>su ops r s K
def LK(P:Program)(aN:gA)(ops:Array Oper)(tk:List (List Key))(h0:Hp)(listed:Array Bool)(rs:List Nat)(rec:Array Bool->S->T)(s:S):T:=
 match firstFree P aN ops tk h0 listed s rs with
 |some (i,o,D)=>vx ops s o (λs=>match sp P {s with h:=kN ops tk h0 D} o.op with
   |some (es,v)=>yJ es (λs=>rec (listed.setIfInBounds i true) (s.put o.dst v)) s
   |none=>match Ro P aN (kN ops tk h0 D) s o with
    |some (ar,cons,r)=>.read o.op o.type ar cons r.ss r.v (rec (listed.setIfInBounds i true) ({s with n:=r.n,lk:=qN o.op s s.n r.v++s.lk}.put o.dst r.v))
    |none=>.fail 61)
  (λs=>rec (listed.setIfInBounds i true) (s.put o.dst (.au [])))
 |none=>Zv (λi=>match ops[i]? with
   |none=>.fail 62
   |some o=>vx ops s o (λs=>LI P aN s o λs=>if(ee ops tk h0 (listed.setIfInBounds i true)).all (λx=>s.h.contains x)then rec (listed.setIfInBounds i true) s else .fail 63)
     (λs=>rec (listed.setIfInBounds i true) (s.put o.dst (.au [])))) rs
def Ik(P:Program)(aN:gA)(ops:Array Oper)(tk:List (List Key))(h0:Hp):Nat->Array Bool->S->(S->T)->T
 |0,listed,s,K=>if Region.ready .any ops listed=[]then K s else .fail 60
 |fuel+1,listed,s,K=>
  let rs:=Region.ready .any ops listed
  if rs=[]then K s
  else if(firstFree P aN ops tk h0 listed s rs).isSome then LK P aN ops tk h0 listed rs (λl s=>Ik P aN ops tk h0 fuel l s K) s
  else su ops rs s λs=>LK P aN ops tk h0 listed rs (λl s=>Ik P aN ops tk h0 fuel l s K) s
def gQ:Code->List Tmp
 | .region _ ops _=>ops.toList.filterMap (·.dst)
 | .seq a b=>gQ a++gQ b
 | .cond _ a b=>gQ a++gQ b
 | .block _ b=>gQ b
 | .loop b=>gQ b
 | .rangeFunc _ _ a b=>gQ a++gQ b
 | .scope b=>gQ b
 |_=>[]
def ab8(n:Nat):A->lQ
 | .ptr _ _=>⟨[.n],[.ptr (.v n) 0],[],n+1⟩
 | .sl .nil _ _=>⟨[.a,.n,.n,.p],[.sl (.v n) (.v (n+1)) (.v (n+2))],[(.a n,.prop (n+3))],n+4⟩
 | .sl _ _ _=>⟨[.a,.n,.n],[.sl (.v n) (.v (n+1)) (.v (n+2))],[],n+3⟩
 | .map _=>⟨[.n],[.map (.v n)],[],n+1⟩
 |x=>Zo n x
def Rq(n:Nat):List A->lQ
 |[]=>⟨[],[],[],n⟩
 |x::r=>
  let a:=ab8 n x
  let b:=Rq a.n r
  ⟨a.ss++b.ss,a.l++b.l,a.h++b.h,b.n⟩
def AV(ks:List Nat):Nat->Nat->List A->lQ
 |_,n,[]=>⟨[],[],[],n⟩
 |i,n,x::r=>
  if ks.contains i then
   let a:=ab8 n x
   let b:=AV ks (i+1) a.n r
   ⟨a.ss++b.ss,a.l++b.l,a.h++b.h,b.n⟩
  else
   let b:=AV ks (i+1) n r
   ⟨b.ss,x::b.l,b.h,b.n⟩
def Rs(ce:List (Key×List Nat))(k:Key)(n:Nat)(l:List A):lQ:=match ce.find? (·.1=k)with
 |some x=>AV x.2 0 n l
 |none=>Rq n l
def W.afM:W->List A->W
 | .a _,[x]=>.a x
 | .a x,_=>.a x
 | .agg _,l=>.agg l
def afN(x y:A):List (Key×Key):=match d7 x,d7 y with
 |[k],[q]=>if k=q then[]else[(k,q)]
 |_,_=>[]
def Rt:List A->List A->List (Key×Key)
 |x::r,y::q=>afN x y++Rt r q
 |_,_=>[]
structure Il where
 s:S
 ss:List So
 xW:List (Key×Key)
 ex:Hp:=[]
def LM:List Tmp->Il->Il
 |[],hd=>hd
 |t::r,hd=>match hd.s.t[t]? with
  |some (some (.w w))=>
   let f:=Rq hd.s.n w.list
   LM r ⟨{hd.s with n:=f.n,t:=hd.s.t.set t (some (.w (w.afM f.l)))},hd.ss++f.ss,hd.xW++Rt w.list f.l,hd.ex++f.h⟩
  |some (some (.au _))=>LM r {hd with s:={hd.s with t:=hd.s.t.set t none}}
  |_=>LM r hd
def Oa(xW:List (Key×Key))(k:Key):Key:=match xW.find? (·.1=k)with
 |some x=>x.2
 |none=>k
def yM(ce:List (Key×List Nat))(ab:List TypeId)(hv:List Key):Hp->Il->Hp->Il
 |[],hd,acc=>{hd with s:={hd.s with h:=acc}}
 |(k,c)::r,hd,acc=>
  if hv.contains k then match c,hd.xW.any (λx=>x.1=k&&match x.2 with| .a _=>true|_=>false)with
   | .cells l ty,false=>
     if ab.contains ty then yM ce ab hv r ⟨{hd.s with n:=hd.s.n+1},hd.ss++[.p],hd.xW,hd.ex⟩ (acc++[(k,.prop hd.s.n)])else
     let f:=Rs ce k hd.s.n l
     yM ce ab hv r ⟨{hd.s with n:=f.n},hd.ss++f.ss,hd.xW++Rt l f.l,hd.ex++f.h⟩ (acc++[(k,.cells f.l ty)])
   |_,_=>yM ce ab hv r ⟨{hd.s with n:=hd.s.n+1},hd.ss++[.p],hd.xW,hd.ex⟩ (acc++[(k,.prop hd.s.n)])
  else yM ce ab hv r hd (acc++[(k,c)])
def ab9(aN:gA)(b:Nat):List (Key×List Nat):=(aN.cel.filter (·.1==b)).map (·.2)
def Yg:List Tmp->List Tmp->List Tmp
 |[],acc=>acc
 |t::r,acc=>Yg r (if acc.contains t then acc else acc++[t])
def Zx(t:List (Option V)):List (Option V):=t.map λ
 |some (.nx ..)=>none
 |x=>x
def Yh(aN:gA)(b:Nat):List (Nat×Key):=(aN.np.filter (·.1==b)).map (·.2)
def lz(aN:gA)(body:Code)(s:S):Il:=
 let hv:=match aN.hv.find? (·.1==s.blk)with
  |some x=>x.2
  |none=>[]
 let dr:=match aN.snk.find? (·.1==s.blk)with
  |some x=>x.2
  |none=>[]
 let a:=LM (Yg (gQ body) []) ⟨s,[],[],[]⟩
 let b:=yM (ab9 aN s.blk) aN.fX hv s.h a []
 let xW:=b.xW
 let lk2:=xW.flatMap λx=>match x.2 with
  | .b (.v j)=>(ly (Yh aN s.blk++s.lk) x.1).map λq=>(j,Oa xW q)
  | .a j=>(ly (Yh aN s.blk++s.lk) x.1).map λq=>(j,Oa xW q)
  |_=>[]
 {b with s:={b.s with t:=Zx b.s.t,h:=(b.s.h.filterMap λx=>if dr.contains x.1 then none else if(xW.any (·.1=x.1))&& !hv.contains x.1 then none else some (Oa xW x.1,x.2))++b.ex,dp:=s.dp+1,lk:=lk2++s.lk}}
def afP(base:Nat):A->A->Option (List (Nat×FV))
 | .int k (.v j),.int k' e=>if base<=j/\k=k' then some [(j,.e (.o1 .neg (.o1 .neg e)))]else some []
 | .bool (.v j),.bool e=>if base<=j then some [(j,.e (.o1 .not (.o1 .not e)))]else some []
 | .str (.v j),.str e=>if base<=j then some [(j,.e (.o2 .Q6 e (.s [])))]else some []
 | .ptr (.v j) _,.ptr r _=>if base<=j then some [(j,.n r)]else some []
 | .sl (.v j) _ _,.sl s l c=>if base<=j then some [(j,.a s),(j+1,.e (.o2 .CM l (.n 0))),(j+2,.e (.o2 .CM c (.n 0)))]else some []
 | .map (.v j),.map r=>if base<=j then some [(j,.n r)]else some []
 | .val j,x=>if base<=j then some [(j,.v x)]else some []
 |_,_=>some []
def Ru(base:Nat):List A->List A->List (Nat×FV)
 |x::r,y::q=>((afP base x y).getD [])++Ru base r q
 |_,_=>[]
def LN(base:Nat):List (Option V)->List (Option V)->List (Nat×FV)
 |some (.w x)::r,some (.w y)::q=>Ru base x.list y.list++LN base r q
 |_::r,_::q=>LN base r q
 |_,_=>[]
def LO(l:List (Nat×FV))(j:Nat):Option FV:=(l.find? (·.1==j)).map (·.2)
def yN(base:Nat)(l:List (Nat×FV)):Key->Key
 | .b (.v j)=>if base<=j then match LO l j with
    |some (.n r)=>.b r
    |_=>.b (.v j)
   else .b (.v j)
 | .a j=>if base<=j then match LO l j with
    |some (.a (.v m))=>.a m
    |some (.a (.b r _))=>.b r
    |some (.v x)=>((d7 x).head?).getD (.a j)
    |_=>.a j
   else .a j
 |k=>k
def CU(base:Nat)(s:S)(l:List (Nat×FV)):Hp->List (Nat×FV)
 |[]=>l
 |(k,.cells c _)::r=>match kM s.h (yN base l k)with
  |some (.cells d _)=>CU base s (l++Ru base c d) r
  |_=>CU base s l r
 |_::r=>CU base s l r
def Rv(base:Nat)(s:S)(l:List (Nat×FV)):Hp->List (Nat×FV)
 |[]=>l
 |(k,.prop j)::r=>if base<=j then
    let ks:=gB s.h (if(kM s.h (yN base l k)).isSome then s.lk.filterMap λx=>if jx<=x.1 then some (x.1 - jx,x.2)else none else s.lk) 60 [yN base l k] []
    Rv base s (l++[(j,.p (pC s.h ks))]) r
  else Rv base s l r
 |_::r=>Rv base s l r
def vy(base:Nat)(s:S)(own:List Key)(l:List (Nat×FV)):Hp->List (Nat×FV)
 |[]=>l
 |(k,.prop j)::r=>if base<=j then
    let k':=yN base l k
    let ks:=gB s.h (if(kM s.h k').isSome then s.lk.filterMap λx=>if jx<=x.1 then some (x.1 - jx,x.2)else none else s.lk) 60 [k'] []
    vy base s own (l++[(j,.p (pC s.h (ks.filter λq=>decide (q=k')|| !own.contains q)))]) r
  else vy base s own l r
 |_::r=>vy base s own l r
def CV(base:Nat)(hd:S)(s:S):List FV:=
 let a:=LN base hd.t s.t
 let b:=CU base s a hd.h
 let c:=vy base s (hd.h.map λx=>yN base b x.1) b hd.h
 (List.range' base (hd.n - base)).map λj=>(LO c j).getD (.n (.g 0))
def V6(base:Nat)(hd:S)(s:S):List FV:=
 let a:=LN base hd.t s.t
 let b:=CU base s a hd.h
 let c:=vy base s (hd.h.map λx=>yN base b x.1) b hd.h
 (List.range' base (hd.n - base)).map λj=>(LO c j).getD (.n (.g 0))
def okA(base:Nat)(fr:List FV)(x y:A):Bool:=(decide (x=y)&&x.dK base)||match x,y with
 | .int k (.v j),.int k' e=>decide (base<=j)&&decide (k=k')&&decide (fr[j - base]? =some (.e (.o1 .neg (.o1 .neg e))))
 | .bool (.v j),.bool e=>decide (base<=j)&&decide (fr[j - base]? =some (.e (.o1 .not (.o1 .not e))))
 | .str (.v j),.str e=>decide (base<=j)&&decide (fr[j - base]? =some (.e (.o2 .Q6 e (.s []))))
 | .ptr (.v j) o,.ptr r o'=>decide (base<=j)&&decide (o=o')&&decide (fr[j - base]? =some (.n r))
 | .sl (.v j) (.v j1) (.v j2),.sl s l c=>decide (base<=j)&&decide (base<=j1)&&decide (base<=j2)&&decide (fr[j - base]? =some (.a s))&&decide (fr[j1 - base]? =some (.e (.o2 .CM l (.n 0))))&&decide (fr[j2 - base]? =some (.e (.o2 .CM c (.n 0))))
 | .map (.v j),.map r=>decide (base<=j)&&decide (fr[j - base]? =some (.n r))
 | .val j,x=>decide (base<=j)&&decide (fr[j - base]? =some (.v x))
 |_,_=>false
def Rw(base:Nat)(fr:List FV):List A->List A->Bool
 |[],[]=>true
 |x::r,y::q=>okA base fr x y&&Rw base fr r q
 |_,_=>false
def okW(base:Nat)(fr:List FV):W->W->Bool
 | .a x,.a y=>okA base fr x y
 | .agg l,.agg m=>Rw base fr l m
 |_,_=>false
def qI(base:Nat)(fr:List FV):List (Option V)->List (Option V)->Bool
 |[],[]=>true
 |none::r,_::q=>qI base fr r q
 |some (.w x)::r,some (.w y)::q=>okW base fr x y&&qI base fr r q
 |some (.au x)::r,some (.au y)::q=>decide (x=y)&&x.all (W.dK base)&&qI base fr r q
 |_,_=>false
def okK(base:Nat)(fr:List FV):Key->Key->Bool
 | .b (.v j),.b r=>if base<=j then decide (fr[j - base]? =some (.n r))else decide (r=.v j)
 | .b (.g n),.b r=>decide (r=.g n)
 | .a j,k=>if base<=j then match fr[j - base]? with
    |some (.a (.v m))=>decide (k=.a m)
    |some (.a (.b r _))=>decide (k=.b r)
    |_=>false
   else decide (k=.a j)
 |_,_=>false
def isB:Key->Bool
 | .b _=>true
 | .a _=>false
def sv(base:Nat)(fr:List FV)(h:Hp):Hp->Option Hp
 |[]=>some []
 |(k,c)::r=>match sv base fr h r with
  |none=>none
  |some l=>match c with
   | .cells x ty=>match h.find? (λy=>isB k&&okK base fr k y.1&&(match y.2 with| .cells z ty'=>Rw base fr x z&&decide (ty=ty')|_=>false))with
     |some y=>some (y::l)
     |none=>none
   | .kD=>if k.dK base&&h.contains (k,.kD)then some ((k,.kD)::l)else none
   | .nJ=>if k.dK base&&h.contains (k,.nJ)then some ((k,.nJ)::l)else none
   | .prop j=>if base<=j then match fr[j - base]? with
      |some (.p q)=>some (q++l)
      |_=>none
     else if k.dK base&&h.contains (k,.prop j)then some ((k,.prop j)::l)else none
def FV.so:FV->List So
 | .n _=>[.n]
 | .a _=>[.a]
 | .v _=>[.v]
 | .p _=>[.p]
 | .e (.o1 .neg _)=>[.i]
 | .e (.o1 .not _)=>[.c]
 | .e (.o2 .Q6 _ _)=>[.s]
 | .e (.o2 .CM _ _)=>[.n]
 | .e _=>[]
def CX(base:Nat)(ss:List So)(hd s:S)(fr:List FV):Bool:=
 qI base fr hd.t s.t&&(match sv base fr s.h hd.h with
  |some l=>iC l&&l.all (λx=>s.h.contains x)
  |none=>false)&&decide (fr.flatMap FV.so=ss)&&decide (fr.length=ss.length)&&decide (hd.n=base+ss.length)&&hd.kn.all (λx=>x.1.dK base)&&(decide (hd.df=s.df)&&hd.df.all (BR.dK base))
def aca(base:Nat)(ss:List So)(hd s:S)(fr:List FV):Nat:=
 (if qI base fr hd.t s.t then 0 else 1)+(match sv base fr s.h hd.h with
   |some l=>(if iC l then 0 else 2)+(if l.all (λx=>s.h.contains x)then 0 else 4)
   |none=>8)+(if decide (fr.flatMap FV.so=ss)then 0 else 16)+(if decide (fr.length=ss.length)then 0 else 32)+(if decide (hd.n=base+ss.length)then 0 else 64)+(if hd.kn.all (λx=>x.1.dK base)then 0 else 128)+(if decide (hd.df=s.df)&&hd.df.all (BR.dK base)then 0 else 256)+(if s.dK then 0 else 512)+(if decide (hd.kn=s.kn)then 0 else 1024)
def CY(base:Nat)(fr:List FV)(h:Hp)(m:Hp):Hp:=m.filter λx=>(sv base fr h [x]).isNone
inductive Ex where
 |lB|exit (id:Nat)|ret
structure Rg where
 s1:S
 c:Hp
 rest:Hp
 QP:List Key
 hd:Il
 fr:List FV
 pss:List So
 Q9:List W
 pch:Hp
 pn:Nat
def acb(ab:List TypeId)(hv:List Key)(rest:Hp)(s:S):Il:=
 let b:=yM [] ab hv rest ⟨{s with h:=[]},[],[],[]⟩ []
 let xW:=b.xW
 let lk2:=xW.flatMap λx=>match x.2 with
  | .b (.v j)=>(ly s.lk x.1).map λq=>(j,Oa xW q)
  | .a j=>(ly s.lk x.1).map λq=>(j,Oa xW q)
  |_=>[]
 {b with s:={b.s with t:=s.t,kn:=s.kn,h:=(b.s.h.filterMap λx=>if(xW.any (·.1=x.1))&& !hv.contains x.1 then none else some (Oa xW x.1,x.2))++b.ex,dp:=s.dp+1,lk:=lk2++s.lk,df:=[]}}
def Rx{α:Type}(l:List (Nat×List α))(b:Nat):List α:=match l.find? (·.1==b)with
 |some x=>x.2
 |none=>[]
def Rg.start(r:Rg):S:={r.s1 with h:=r.rest,df:=[]}
def pZ(P:Program)(aN:gA)(s:S)(gv:A):Rg:=
 let s1:S:={s with n:=s.n+1,h:=(.b (.v s.n),.nJ)::s.h,df:=.v s.n::s.df}
 let QP:=Rx aN.shr s.blk
 let ks:=gB s.h s.lk 60 (d7 gv) []
 let c:=s1.h.filter λx=>ks.contains x.1&& !QP.contains x.1
 let rest:=s1.h.filter λx=> !(ks.contains x.1&& !QP.contains x.1)
 let hd:=acb aN.fX (Rx aN.hv s.blk) rest s1
 let p:=N6 P aN true hd.s.n (Rx aN.Zj s.blk)
 ⟨s1,c,rest,QP,hd,CV s1.n hd.s {s1 with h:=rest,df:=[]},p.1,p.2.1,p.2.2.1,p.2.2.2⟩
def acd(t:List (Option V))(ps:List Tmp)(ws:List W):List (Option V):=(ps.zip ws).foldl (λt x=>t.set x.1 (some (.w x.2))) t
def Rg.round(r:Rg)(ps:List Tmp):S:={r.hd.s with n:=r.pn,h:=r.pch++r.hd.s.h,t:=acd r.hd.s.t ps r.Q9}
def Rg.ok(r:Rg)(gv:A)(rd:Bool)(s:S)(ps:List Tmp):Bool:=
 !rd&&(gv.dK s.n&&vg r.s1.n r.c)&&s.dK&&CX r.s1.n r.hd.ss r.hd.s r.start r.fr&&r.hd.s.dK&&decide (r.pn=r.hd.s.n+r.pss.length)&&decide (r.Q9.length=ps.length)
def Rg.V7(r:Rg)(s:S):S:={s with t:=r.hd.s.t}
def Rg.yO(r:Rg)(s:S):S:={s with t:=r.s1.t,h:=r.c++s.h,df:=r.s1.df}
def Rg.Ry(r:Rg)(s:S):S:={r.hd.s with h:=r.c++r.hd.s.h,df:=r.s1.df,dp:=s.dp}
def JH.Yi(j:JH)(s:S):S:={s with t:=j.tv.foldl (λt x=>t.set x.1 x.2) s.t,h:=j.h,n:=j.n,lk:=j.lk++s.lk}
def afQ(aN:gA)(k:Nat×Nat):Option JH:=match aN.jn.find? (·.1==k)with
 |some x=>x.2
 |none=>if(if Nat.ble 1000000 k.1 then aN.jb&& !aN.nj.contains k.1 else aN.jd)then some {ask:=true}else none
def ace(k:Nat×Nat)(base:Nat)(s:S):T:=.all (.fail 9100) (.all (.again k.1 [.n (.v k.2),.n (.v base)]) (.all (.ret (.au []) s.h) (.all (.ret (.au []) (s.lk.map λx=>(x.2,.prop x.1))) (s.t.foldr (λv r=>.all (match v with|some v=>.ret v []|none=>.fail 0) r) (.fail 1)))))
def acf(k:Nat×Nat)(j:JH)(s:S)(run:S->(S->T)->T)(K:S->T):T:=
 .join j.ss (run {s with dp:=s.dp+1} λs2=>if j.ask then ace k s.n s2 else if CX s.n j.ss (j.Yi s) s2 (V6 s.n (j.Yi s) s2)then .again (s2.dp - (s.dp+1)) (V6 s.n (j.Yi s) s2)else .all (.fail 9200) (.all (.again k.1 [.n (.v k.2),.n (.v (aca s.n j.ss (j.Yi s) s2 (V6 s.n (j.Yi s) s2)))]) (.ret (.au []) (CY s.n (V6 s.n (j.Yi s) s2) s2.h j.h)))) (if j.ask then .all (.fail 87) (.again k.1 [.n (.v k.2)])else K (j.Yi s))
def yP(aN:gA)(k:Nat×Nat)(s:S)(run:S->(S->T)->T)(K:S->T):T:=match afQ aN k with
 |some j=>acf k j s run K
 |none=>run s K
def Rz(ops:Array Oper)(s:S):Nat×Nat:=(((ops.toList.filterMap (·.dst)).head?).getD 0,s.n)
def V8:Operand->Nat
 | .tmp t=>2000000+t
 |_=>2000000
def exec(P:Program)(aN:gA)(rd:Bool):Code->S->(Ex->S->T)->T
 | .skip,s,K=>K .lB s
 | .region _ ops false,s,K=>if ops.all (λo=>gP o.op)then
    (if ops.any (λo=>o.guard.isSome)then yP aN (3000000+(Rz ops s).1,s.n) s (λs K=>Rl P aN ops ops.toList s K) (λs=>K .lB s)else Rl P aN ops ops.toList s λs=>K .lB s)
   else .fail 66
 | .region _ ops true,s,K=>
   if iC s.h&&vg s.n s.h&&Region.noSelect ops&&ops.all (λo=>gP o.op)then
    yP aN (Rz ops s) s (λs K=>Ik P aN ops (LJ P aN ops.toList s) s.h ops.size (Array.replicate ops.size false) s K) λs=>K .lB s
   else .fail 65
 | .seq a b,s,K=>exec P aN rd a s λe s=>match e with
   | .lB=>exec P aN rd b s K
   |e=>K e s
 | .cond c a b,s,K=>match kL s c with
   |some (.bool e)=>yP aN (V8 c,s.n) s (λs K2=>brE s e (λs=>exec P aN rd a s λx s=>match x with
     | .lB=>K2 s
     |x=>K x s) (λs=>exec P aN rd b s λx s=>match x with
     | .lB=>K2 s
     |x=>K x s)) λs=>K .lB s
   |_=>.fail 70
 | .block id b,s,K=>yP aN (1000000+id,s.n) s (λs K2=>exec P aN rd b {s with blk:=id} λe s=>match e with
   | .exit i=>if i=id then K2 s else K (.exit i) s
   | .lB=>K2 s
   |e=>K e s) λs=>K .lB s
 | .loop b,s,K=>
   let hd:=lz aN b s
   let fr:=CV s.n hd.s s
   if CX s.n hd.ss hd.s s fr&&s.dK&&decide (hd.s.kn=s.kn)&&decide (hd.s.dp=s.dp+1)then
    .loop hd.ss fr (exec P aN rd b hd.s λe s2=>match e with
     | .lB=>
       let RA:=CV s.n hd.s s2
       if CX s.n hd.ss hd.s s2 RA then .again (s2.dp - hd.s.dp) RA else .all (.fail (8000+s.blk)) (.ret (.au []) (CY s.n RA s2.h hd.s.h))
     |e=>K e s2)
   else .fail (81+1000*aca s.n hd.ss hd.s s fr)
 | .rangeFunc g ps HI b,s,K=>match kL s g with
   |none=>.fail 82
   |some gv=>
    let r:=pZ P aN s gv
    if r.ok gv rd s ps.toList then
     .new (.mF gv r.c (r.hd.s.h.filter λx=>r.QP.contains x.1) r.hd.ss r.fr r.pss r.Q9 r.pch
      (exec P aN true HI (r.round ps.toList) λx sA=>match x with
        | .lB=>exec P aN true b sA λx s2=>match x with
          | .lB=>
            let RA:=CV r.s1.n r.hd.s (r.V7 s2)
            if CX r.s1.n r.hd.ss r.hd.s (r.V7 s2) RA then .again (s2.dp - r.hd.s.dp) RA else .all (.fail (8000+s.blk)) (.ret (.au []) (CY r.s1.n RA s2.h r.hd.s.h))
          |x=>K x (r.yO s2)
        |_=>.fail 84)
      (K .lB (r.Ry s)))
    else .all (.fail 85) (.ret (.au []) (CY r.s1.n r.fr r.rest r.hd.s.h))
 | .exit id,s,K=>K (.exit id) s
 | .ret,s,K=>K .ret s
 | .scope b,s,K=>exec P aN rd b s K
 | .label _,s,K=>K .lB s
 |_,_,_=>.fail 90
def vz(P:Program)(s:S):ResultVar->Option W
 | .tmp t=>match ev s (.tmp t)with
   |some (.w x)=>some x
   |_=>none
 | .cell a t=>match kL s (.tmp a)with
   |some (.ptr r off)=>match kM s.h (.b r)with
    |some (.cells l _)=>vi P t l off
    |_=>none
   |_=>none
def AW(v:V)(ks:List Key)(s:S):T:=
 let h:=pC s.h (gB s.h [] 200 (ks++nM v) [])
 if Ig h s.h then .ret v h else .fail 98
def leave(P:Program)(fn:Func)(ks:List Key)(s:S):T:=match mapM' (vz P s) fn.results.toList with
 |some [x]=>AW (.w x) ks s
 |some l=>AW (.au l) ks s
 |none=>.fail 95
def Ob(df:List BR)(x:Key×C):Bool:=df.any λr=>decide (x=(.b r,.nJ))
def AX:List BR->Bool
 |[]=>true
 |x::r=> !r.contains x&&AX r
def acg(s:S):Bool:=AX s.df&&s.df.all λr=>s.h.contains (.b r,.nJ)
def RB(s:S):S:={s with h:=s.h.filter λx=> !Ob s.df x,df:=[]}
def AY(P:Program)(fn:Func)(ks:List Key)(s:S):T:=if acg s then leave P fn ks (RB s)else .fail 99
def Zy(aN:gA)(ks:List Key)(s:S):List Key:=if aN.afF then ks.flatMap (ly s.lk)else[]
def Zz(P:Program)(aN:gA)(fn:Func)(s:S):List Key:=if aN.bz then(fn.results.toList.flatMap λr=>match vz P s r with|some x=>x.list.flatMap d7|none=>[]).flatMap (LG s 4)else[]
def tree(P:Program)(aN:gA)(fn:Func)(args:List W)(h:Hp)(n:Nat):T:=match fn.body with
 |some c=>exec P aN false c ⟨args.map (λw=>some (.w w))++List.replicate (fn.ntmps - args.length) (some (.au [])),h,n,[],[],0,0,[]⟩ λe s=>match e with
  | .lB=>AY P fn (h.map (·.1)++Zy aN (h.map (·.1)) s++Zz P aN fn s) s
  | .ret=>AY P fn (h.map (·.1)++Zy aN (h.map (·.1)) s++Zz P aN fn s) s
  | .exit _=>.fail 96
 |none=>.fail 97
theorem iD(ρ x:bp){k:Nat}(h:k<ρ.length):look (ρ++x) k=look ρ k:=by
 induction ρ generalizing k with
 |nil=>simp at h
 |cons a r ih=>cases k with
  |zero=>rfl
  |succ k=>exact ih (by simpa using h)
theorem kO(ρ:bp)(u:aP)(x:bp):look (ρ++u::x) ρ.length=u:=by
 induction ρ with
 |nil=>rfl
 |cons a r ih=>exact ih
theorem E.app{ρ:bp}{e:E}(h:e.dK ρ.length=true)(x:bp):e.den (ρ++x)=e.den ρ:=by
 induction e with
 |v k=>exact iD ρ x (by simpa[E.dK]using h)
 |o1 f a ih=>simp only[E.dK]at h;simp only[E.den,ih h]
 |o2 f a b Zg Zh=>simp only[E.dK,Bool.and_eq_true]at h;simp only[E.den,Zg h.1,Zh h.2]
 |_=>rfl
theorem BR.app{ρ:bp}{r:BR}(h:r.dK ρ.length=true)(x:bp):r.den (ρ++x)=r.den ρ:=by
 cases r with
 |v k=>simp only[BR.den];rw[iD ρ x (by simpa[BR.dK]using h)]
 |g n=>rfl
theorem SA.app{ρ:bp}{r:SA}(h:r.dK ρ.length=true)(x:bp):r.den (ρ++x)=r.den ρ:=by
 cases r with
 |nil=>rfl
 |v k=>simp only[SA.den];rw[iD ρ x (by simpa[SA.dK]using h)]
 |b r o=>simp only[SA.den];rw[BR.app (by simpa[SA.dK]using h)]
theorem A.app{ρ:bp}{y:A}(h:y.dK ρ.length=true)(x:bp):y.den (ρ++x)=y.den ρ:=by
 cases y<;>simp only[A.dK,Bool.and_eq_true,decide_eq_true_eq,Nat.blt_eq]at h<;>simp only[A.den]
 case int=>rw[E.app h]
 case bool=>rw[E.app h]
 case str=>rw[E.app h]
 case ptr=>rw[BR.app h]
 case aW=>rw[iD ρ x h.1,E.app h.2]
 case sl=>rw[SA.app h.1.1,E.app h.1.2,E.app h.2]
 case map=>rw[BR.app h]
 case val=>rw[iD ρ x h]
 case func f cs=>
  congr 2
  refine List.map_congr_left λc hc=>?_
  simp only[iX]
  rw[BR.app (List.all_eq_true.1 h c hc)]
theorem As.app{ρ:bp}{l:List A}(h:l.all (A.dK ρ.length)=true)(x:bp):l.map (A.den (ρ++x))=l.map (A.den ρ):=
 List.map_congr_left λy hy=>A.app (List.all_eq_true.1 h y hy) x
theorem W.app{ρ:bp}{y:W}(h:y.dK ρ.length=true)(x:bp):y.den (ρ++x)=y.den ρ:=by
 cases y with
 |a y=>exact A.app h x
 |agg l=>simp only[W.den];rw[As.app h]
theorem V.app{ρ:bp}{y:V}(h:y.dK ρ.length=true)(x:bp):y.den (ρ++x)=y.den ρ:=by
 cases y with
 |w y=>exact W.app h x
 |au l=>
  simp only[V.den]
  congr 2
  exact List.map_congr_left λy hy=>W.app (List.all_eq_true.1 h y hy) x
 |nx c k v=>
  simp only[V.dK,Bool.and_eq_true,decide_eq_true_eq,Nat.blt_eq]at h
  simp only[V.den,iD ρ x h.1.1,iD ρ x h.1.2,iD ρ x h.2]
theorem vA{ρ:bp}{y:Key×C}(h:(y.1.dK ρ.length&&y.2.dK ρ.length)=true)(x:bp):dB (ρ++x) y=dB ρ y:=by
 obtain⟨k,c⟩:=y
 simp only[Bool.and_eq_true]at h
 obtain⟨hk,hc⟩:=h
 cases c with
 |prop j=>simp only[dB];rw[iD ρ x (by simpa[C.dK]using hc)]
 |cells l ty=>cases k with
  |b r=>simp only[dB];rw[BR.app hk,As.app hc]
  |a j=>rfl
 |kD=>cases k with
  |b r=>simp only[dB];rw[BR.app hk]
  |a j=>rfl
 |nJ=>cases k with
  |b r=>simp only[dB];rw[BR.app hk]
  |a j=>rfl
theorem nN{ρ:bp}{h:Hp}(hb:vg ρ.length h=true)(x:bp):bg (ρ++x) h=bg ρ h:=by
 induction h with
 |nil=>rfl
 |cons y r ih=>
  simp only[vg,List.all_cons,Bool.and_eq_true]at hb
  have e:=vA (ρ:=ρ) (y:=y) (by simp[hb.1]) x
  have ih':=ih (by unfold vg;exact hb.2)
  cases r with
  |nil=>exact e
  |cons z q=>simp only[bg]at ih'⊢;rw[e,ih']
theorem bA(ρ:bp)(x:Key×C)(r:Hp)(R h:PH):(bg ρ (x::r)).p R h↔(HP.an (dB ρ x) (bg ρ r)).p R h:=by
 cases r with
 |nil=>exact⟨λH=>HP.az H,λH=>HP.aj H⟩
 |cons y q=>exact Iff.rfl
theorem lS{ρ:bp}{l m:Hp}{R h:PH}:(bg ρ (l++m)).p R h↔(HP.an (bg ρ l) (bg ρ m)).p R h:=by
 induction l generalizing h with
 |nil=>exact⟨λH=>HP.aM H,λH=>HP.ai H⟩
 |cons x r ih=>
  rw[List.cons_append,bA]
  constructor
  ·intro H
   exact HP.ae (HP.ay (HP.ae H (λ_ h=>h) λ_ h=>(ih).1 h)) (λ_ h=>(bA ρ x r _ _).2 h) λ_ h=>h
  ·intro H
   exact HP.ae (HP.aq (HP.ae H (λ_ h=>(bA ρ x r _ _).1 h) λ_ h=>h)) (λ_ h=>h) λ_ h=>(ih).2 h
theorem jy{ρ:bp}(q:Key×C->Bool){l:Hp}{R h:PH}(H:(bg ρ l).p R h):(HP.an (bg ρ (l.filter q)) (bg ρ (l.filter λx=> !q x))).p R h:=by
 induction l generalizing h with
 |nil=>exact HP.az trivial
 |cons x r ih=>
  have H1:=(bA ρ x r R h).1 H
  cases hq:q x with
  |true=>
   rw[List.filter_cons,List.filter_cons]
   simp only[hq,if_true,Bool.not_true,Bool.false_eq_true,if_false]
   exact HP.ae (HP.ay (HP.ae H1 (λ_ h=>h) λ_ h=>ih h)) (λ_ h=>(bA ρ x _ _ _).2 h) λ_ h=>h
  |false=>
   rw[List.filter_cons,List.filter_cons]
   simp only[hq,if_true,Bool.not_false,Bool.false_eq_true,if_false]
   have H2:=HP.ae H1 (λ_ h=>h) λ_ h=>ih h
   have H3:=HP.ao (HP.ay (HP.ae H2 (λ_ h=>h) λ_ h=>HP.ao h))
   exact HP.ae H3 (λ_ h=>h) λ_ h=>(bA ρ x _ _ _).2 h
theorem vB{ρ:bp}{l:Hp}{x:Key×C}(hx:x∈l){R h:PH}(H:(bg ρ l).p R h):(dB ρ x).p R h:=by
 induction l generalizing h with
 |nil=>cases hx
 |cons y r ih=>
  have H1:=(bA ρ y r R h).1 H
  cases hx with
  |head=>exact HP.aj H1
  |tail _ hr=>exact ih hr (HP.ai H1)
theorem CZ{ρ:bp}{l:Hp}{x:Key×C}(hx:x∈l){R h:PH}(H:(bg ρ l).p R h):(HP.an (dB ρ x) (bg ρ (l.erase x))).p R h:=by
 induction l generalizing h with
 |nil=>cases hx
 |cons y r ih=>
  have H1:=(bA ρ y r R h).1 H
  by_cases e:y=x
  ·subst e
   rw[List.erase_cons_head]
   exact H1
  ·rw[List.erase_cons_tail (by simpa using e)]
   have hr:x∈r:=by
    cases hx with
    |head=>exact absurd rfl e
    |tail _ hr=>exact hr
   have H2:=HP.ae H1 (λ_ h=>h) λ_ h=>ih hr h
   have H3:=HP.aq (HP.ae (HP.ay H2) (λ_ h=>HP.ao h) λ_ h=>h)
   exact HP.ae H3 (λ_ h=>h) λ_ h=>(bA ρ y _ _ _).2 h
theorem lT{ρ:bp}{m:Hp}:∀ {l:Hp},iC m=true->(∀x∈m,x∈l)->∀ {R h:PH},(bg ρ l).p R h->(bg ρ m).p R h:=by
 induction m with
 |nil=>intro _ _ _ _ _ _;trivial
 |cons x r ih=>
  intro l hn hs R h H
  simp only[iC,Bool.and_eq_true,Bool.not_eq_true',List.contains_eq_mem,decide_eq_false_iff_not]at hn
  have H1:=CZ (hs x (List.mem_cons_self ..)) H
  refine(bA ρ x r R h).2 (HP.ae H1 (λ_ h=>h) λ_ h=>ih hn.2 (λy hy=>?_) h)
  exact(List.mem_erase_of_ne (λe=>hn.1 (by rw[<-e];exact hy))).2 (hs y (List.mem_cons_of_mem _ hy))
theorem yQ{h:Hp}{k:Key}{c:C}(e:kM h k=some c):(k,c)∈h:=by
 induction h with
 |nil=>cases e
 |cons x r ih=>
  obtain⟨y,d⟩:=x
  simp only[kM]at e
  split at e
  ·rename_i hy;subst hy;cases e;exact List.mem_cons_self ..
  ·exact List.mem_cons_of_mem _ (ih e)
def Tm(ρ:bp)(t:List (Option V))(a:Act):Prop:=a.tmps.size=t.length/\∀(i:Nat) (v:V),t[i]? =some (some v)->a.tmps[i]? =some (v.den ρ)
def nO(ρ:bp)(r:BR):Deferred:={target:=.collected (r.den ρ),args:= #[]}
structure Ok(ρ:bp)(s:S)(a:Act)(w0 w:World)(R h F:PH):Prop where
 nJ:a.defers=s.df.map (nO ρ)
 tm:Tm ρ s.t a
 len:ρ.length=s.n
 kn:∀x∈s.kn,(x.1.den ρ).bool=x.2
 hp:(bg ρ s.h).p R h
 nP:Sat w R h F
 same:Same w0 w
theorem Tm.put{ρ:bp}{t:List (Option V)}{a:Act}(h:Tm ρ t a)(d:Tmp)(v:V):Tm ρ (t.set d (some v)) (a.put (some d) (v.den ρ)):=by
 refine⟨by simp[Act.put,h.1],λi u hi=>?_⟩
 simp only[Act.put]
 by_cases e:d=i
 ·subst e
  have hl:d<t.length:=by
   rcases Nat.lt_or_ge d t.length with g|g
   ·exact g
   ·rw[List.set_eq_of_length_le g,List.getElem?_eq_none g]at hi;cases hi
  rw[List.getElem?_set_self hl]at hi
  simp only[Option.some.injEq]at hi
  subst hi
  rw[Array.getElem?_setIfInBounds_self_of_lt (by rw[h.1];exact hl)]
 ·rw[List.getElem?_set_ne e]at hi
  rw[Array.getElem?_setIfInBounds_ne e]
  exact h.2 i u hi
theorem Ok.put{ρ:bp}{s:S}{a:Act}{w0 w:World}{R h F:PH}(k:Ok ρ s a w0 w R h F)(d:Option Tmp)(v:V):Ok ρ (s.put d v) (a.put d (v.den ρ)) w0 w R h F:=by
 cases d with
 |none=>exact k
 |some d=>exact⟨k.nJ,k.tm.put d v,k.len,k.kn,k.hp,k.nP,k.same⟩
theorem Tm.app{ρ:bp}{t:List (Option V)}{a:Act}(h:Tm ρ t a)(hb:(t.all λ|some v=>v.dK ρ.length|none=>true)=true)(x:bp):Tm (ρ++x) t a:=
 ⟨h.1,λi v hi=>by rw[V.app (by have:=List.all_eq_true.1 hb _ (List.mem_of_getElem? hi);exact this)];exact h.2 i v hi⟩
theorem Ok.app{ρ:bp}{s:S}{a:Act}{w0 w:World}{R h F:PH}(k:Ok ρ s a w0 w R h F)(hb:s.dK=true)(x:bp)(n:Nat)(hn:n=s.n+x.length):Ok (ρ++x) {s with n:=n} a w0 w R h F:=by
 simp only[S.dK,Bool.and_eq_true]at hb
 obtain⟨⟨⟨h1,h2⟩,h4⟩,h3⟩:=hb
 rw[<-k.len]at h1 h2 h3 h4
 refine⟨?_,k.tm.app h1 x,by simp[k.len,hn],λy hy=>?_,?_,k.nP,k.same⟩
 ·rw[k.nJ]
  exact List.map_congr_left λr hr=>by unfold nO;rw[BR.app (List.all_eq_true.1 h4 r hr)]
 ·rw[E.app (List.all_eq_true.1 h3 y hy)];exact k.kn y hy
 ·show(bg (ρ++x) s.h).p R h
  rw[nN h2];exact k.hp
theorem vC{v:Value}{x:A}(h:vh v=some x)(ρ:bp):x.den ρ=v:=by
 unfold vh at h
 split at h<;>first|(cases h;done)|(cases h;rfl)
theorem vD{α β:Type}{f:α->Option β}:∀ {l:List α} {m:List β},mapM' f l=some m->l.map f=m.map some
 |[],m,h=>by cases h;rfl
 |x::r,m,h=>by
  simp only[mapM']at h
  split at h
  ·rename_i y hy
   split at h
   ·rename_i q hq;cases h;simp[hy,vD hq]
   ·cases h
  ·cases h
theorem Im{l:List Value}{m:List A}(h:mapM' vh l=some m)(ρ:bp):m.map (A.den ρ)=l:=by
 induction l generalizing m with
 |nil=>cases h;rfl
 |cons x r ih=>
  simp only[mapM']at h
  split at h
  ·rename_i y hy
   split at h
   ·rename_i q hq;cases h;simp[vC hy,ih hq]
   ·cases h
  ·cases h
theorem yR{v:Value}{x:W}(h:CN v=some x)(ρ:bp):x.den ρ=v:=by
 unfold CN at h
 split at h
 ·rename_i cs
  simp only[Option.map_eq_some_iff]at h
  obtain⟨m,hm,rfl⟩:=h
  simp only[W.den]
  rw[Im hm]
 ·simp only[Option.map_eq_some_iff]at h
  obtain⟨m,hm,rfl⟩:=h
  exact vC hm ρ
theorem gG{ρ:bp}{s:S}{a:Act}(h:Tm ρ s.t a){x:Operand}{v:V}(e:ev s x=some v):a.eval x=v.den ρ:=by
 cases x with
 |tmp t=>
  simp only[ev]at e
  split at e
  ·rename_i o ho
   subst e
   have:=h.2 t v (by assumption)
   simp[Act.eval,this]
  ·cases e
 |const c=>
  simp only[ev,Option.map_eq_some_iff]at e
  obtain⟨w,hw,rfl⟩:=e
  exact(yR hw ρ).symm
 |global g=>simp only[ev,Option.some.injEq]at e;subst e;rfl
 |func f=>simp only[ev,Option.some.injEq]at e;subst e;rfl
theorem bF{ρ:bp}{s:S}{a:Act}(h:Tm ρ s.t a){x:Operand}{v:A}(e:kL s x=some v):a.eval x=v.den ρ:=by
 unfold kL at e
 split at e
 ·rename_i y hy;cases e;exact gG h hy
 ·cases e
theorem qO{ρ:bp}{s:S}{a:Act}(h:Tm ρ s.t a){x:Operand}{v:W}(e:Lx s x=some v):a.eval x=v.den ρ:=by
 unfold Lx at e
 split at e
 ·rename_i y hy;cases e;exact gG h hy
 ·cases e
theorem Io{ρ:bp}{l:List (E×Bool)}(h:∀x∈l,(x.1.den ρ).bool=x.2){e:E}{b:Bool}(k:AO l e=some b):(e.den ρ).bool=b:=by
 induction l with
 |nil=>cases k
 |cons x r ih=>
  have hx:(x.1.den ρ).bool=x.2:=h x (List.mem_cons_self ..)
  obtain⟨y,c⟩:=x
  simp only at hx
  simp only[AO]at k
  split at k
  ·rename_i he;cases k;subst he;exact hx
  ·split at k
   ·rename_i he
    cases k
    subst he
    simp only[E.den,F1.app,aP.bool]at hx
    simp only[<-hx,Bool.not_not]
    rfl
   ·split at k
    ·rename_i he
     cases k
     subst he
     simp only[E.den,F1.app,aP.bool]
     simp only[<-hx]
     rfl
    ·exact ih (λz hz=>h z (List.mem_cons_of_mem _ hz)) k
theorem j4{ρ:bp}{l:List (E×Bool)}(h:∀x∈l,(x.1.den ρ).bool=x.2){e:E}{b:Bool}(k:pz l e=some b):(e.den ρ).bool=b:=by
 unfold pz at k
 split at k
 ·rename_i c hc
  cases k
  cases e<;>simp only[isLit]at hc<;>first|(cases hc;done)|(cases hc;rfl)
 ·exact Io h k
theorem kP(ρ:bp)(e:E):((Lz e).den ρ).bool= !(e.den ρ).bool:=by cases e<;>simp[Lz,E.den,F1.app,aP.bool]
section
variable {P:Program}{w:World}
theorem run_underlying{t:TypeId}{d:TypeDesc}(h:P.underlying t=some d):(underlying t).run P w=.ok d w:=by
 simp[underlying,program,h,Sem.run]
theorem jJ{t:TypeId}{d:TypeDesc}(h:P.underlying t=some d):∃i,P.info? t=some i:=by
 unfold Program.underlying at h
 split at h
 ·rename_i hh;exact⟨_,hh⟩
 ·rename_i hh;exact⟨_,hh⟩
 ·cases h
theorem run_typeInfo{t:TypeId}{i:TypeInfo}(h:P.info? t=some i):(typeInfo t).run P w=.ok i w:=by
 simp[typeInfo,program,h,Sem.run]
theorem run_sizeOf{t:TypeId}{i:TypeInfo}(h:P.info? t=some i):(sizeOf t).run P w=.ok (gr P t) w:=by
 simp only[sizeOf,Sem.run_bind,run_typeInfo h,Result.andThen_ok,gr,h,Sem.run_pure]
theorem hY{t:TypeId}{d:TypeDesc}(h:P.underlying t=some d):(isAgg t).run P w=.ok (gF P t) w:=by
 simp only[isAgg,Sem.run_bind,run_underlying h,Result.andThen_ok,gF,h]
 cases d<;>rfl
theorem run_load{a:Addr}{v:Value}(h:w.cell? a=some v):(load a).run P w=.ok v w:=by
 simp[load,Sem.run,h]
theorem addr_add(b off n:Nat):(⟨b,off,none⟩:Addr).add n=⟨b,off+n,none⟩:=by
 unfold Addr.add;split<;>simp_all
theorem run_loadCellsFrom{b off:Nat}(vs:List Value):∀(i:Nat) (acc:Array Value),(∀j v,vs[j]? =some v->w.cell? ⟨b,off+(i+j),none⟩=some v)->
 (loadCellsFrom ⟨b,off,none⟩ i vs.length acc).run P w=.ok (acc++vs.toArray) w:=by
 induction vs with
 |nil=>intro i acc _;simp[loadCellsFrom]
 |cons x r ih=>
  intro i acc h
  have h0:=h 0 x rfl
  rw[Nat.add_zero]at h0
  simp only[List.length_cons,loadCellsFrom,addr_add,Sem.run_bind,run_load h0,Result.andThen_ok]
  rw[ih (i+1) (acc.push x) (λj v hj=>by have:=h (j+1) v (by simpa using hj);rw[show i+1+j=i+(j+1) by omega];exact this)]
  simp
theorem run_loadCells{b off:Nat}(vs:List Value)(h:∀j v,vs[j]? =some v->w.cell? ⟨b,off+j,none⟩=some v):
 (loadCells ⟨b,off,none⟩ vs.length).run P w=.ok vs.toArray w:=by
 unfold loadCells
 rw[run_loadCellsFrom vs 0 #[] (λj v hj=>by simpa using h j v hj)]
 simp
theorem RC{ρ:bp}{t:TypeId}{l:List A}{off:Nat}{x:W}(h:vi P t l off=some x):(part t (l.map (A.den ρ)).toArray off).run P w=.ok (x.den ρ) w:=by
 unfold vi at h
 split at h
 ·cases h
 ·rename_i d hd
  obtain⟨i,hi⟩:=jJ hd
  split at h
  ·rename_i ha
   split at h
   ·cases h
    simp only[part,Sem.run_bind,hY hd,Result.andThen_ok,ha,if_true,run_sizeOf hi,Sem.run_pure,W.den]
    congr 3
    rw[List.map_take,List.map_drop]
    simp[List.extract_toArray]
   ·cases h
  ·rename_i ha
   simp only[Option.map_eq_some_iff]at h
   obtain⟨y,hy,rfl⟩:=h
   have Oc:gF P t=false:=by simpa using ha
   simp only[part,Sem.run_bind,hY hd,Result.andThen_ok,Oc,Bool.false_eq_true,if_false,List.getElem?_toArray,List.getElem?_map,hy,Option.map_some,Sem.run_pure,W.den]
end
theorem RD{w:World}{R h F:PH}(s:Sat w R h F){b:Nat}{c:Array Value}{ty:TypeId}(e:h b=some (.cells c ty (0,0)))(k:Nat):w.cell? ⟨b,k,none⟩=c[k]? :=by
 unfold World.cell?;rw[s.oh b _ e];rfl
theorem vE{ρ:bp}{r:BR}{l:List A}{ty:TypeId}{R h:PH}(H:(dB ρ (.b r,.cells l ty)).p R h):h (r.den ρ)=some (.cells (l.map (A.den ρ)).toArray ty (0,0)):=H
theorem gu{k:IntKind}{x:Int}(h:k.min<=x/\x<=k.max):k.wrap x=x:=by
 obtain⟨h1,h2⟩:=h
 cases k<;>simp[IntKind.min,IntKind.max,IntKind.signed,IntKind.bits,IntKind.wrap]at* <;>omega
theorem yS{ρ:bp}{e:E}(h:e.prop ρ):(e.den ρ).bool=true:=(E.jv ρ e).1 h
theorem vF{ρ:bp}{k:IntKind}{e:E}(h:(rng k e).prop ρ):k.min<=(e.den ρ).int/\(e.den ρ).int<=k.max:=by
 unfold rng at h
 split at h
 ·split at h
  ·rename_i hh;exact hh
  ·exact h
 ·exact h
theorem hZ{e:E}{l:List E}{ρ:bp}(h:∀y∈pB e l,y.prop ρ):e.prop ρ/\∀y∈l,y.prop ρ:=by
 unfold pB at h
 split at h
 ·exact⟨rfl,h⟩
 ·exact⟨h _ (List.mem_cons_self ..),λy hy=>h y (List.mem_cons_of_mem _ hy)⟩
theorem Od{op:BinOp}{a b e:E}(h:arith op a b=some e)(ρ:bp)(k:IntKind):Op.intArith op k (a.den ρ).int (b.den ρ).int=pure (.int k (k.wrap (e.den ρ).int)):=by
 unfold arith at h
 split at h<;>cases h<;>rfl
theorem vG(ρ:bp)(f:F2)(a b:E):((qM f a b).den ρ).bool=((E.o2 f a b).den ρ).bool:=by
 unfold qM
 split<;>rfl
theorem lU(ρ:bp)(f:F2)(a b:E):(qM f a b).prop ρ↔(E.o2 f a b).prop ρ:=by
 rw[E.jv,E.jv,vG]
theorem C0(ρ:bp)(e:E):(Lz e).prop ρ↔¬e.prop ρ:=by
 rw[E.jv,E.jv,kP];simp
theorem vH{P:Program}{w:World}{ρ:bp}{op:BinOp}{k:IntKind}{a b:E}{es:List E}{r:A}(h:AP op k a b=some (es,r))(hn:∀e∈es,e.prop ρ)(t:TypeId):
 (binOp op t (.int k (a.den ρ).int) (.int k (b.den ρ).int)).run P w=.ok (r.den ρ) w:=by
 have ht:∀x y:Int,(x==y)=decide (x=y):=λx y=>rfl
 cases op<;>simp only[AP]at h<;>try (cases h;done)
 case add|sub|mul=>
  split at h
  ·rename_i e he
   have hd:=Od he ρ k
   split at h
   ·cases h
    have:=vF (hZ hn).1
    simp[binOp,hd,A.den,gu this]
   ·cases h
    simp[binOp,hd,A.den,E.den,F1.app]
  ·cases h
 case quo=>
  split at h
  ·rename_i x y
   split at h
   ·rename_i hy
    cases h
    simp[binOp,Op.intDiv,E.den,hy.1,A.den,gu hy.2]
   ·cases h
  ·cases h
   obtain⟨h1,h2⟩:=hZ hn
   obtain⟨h3,_⟩:=hZ h2
   have h4:=vF h3
   rw[C0,lU]at h1
   have h5:¬(b.den ρ).int=0:=h1
   simp only[E.den,F2.app,aP.dH]at h4
   simp[binOp,Op.intDiv,h5,A.den,E.den,F2.app,gu h4]
 case rem=>
  split at h
  ·rename_i x y
   split at h
   ·rename_i hy
    cases h
    simp[binOp,Op.intDiv,E.den,hy,A.den]
   ·cases h
  ·cases h
   obtain⟨h1,h2⟩:=hZ hn
   rw[C0,lU]at h1
   have h5:¬(b.den ρ).int=0:=h1
   simp[binOp,Op.intDiv,h5,A.den,E.den,F2.app]
 case and|or|xor|andNot=>
  cases h
  simp[binOp,Op.intBits,A.den,E.den,F2.app,aP.int,bits]
 case eql|lss|leq|gtr|geq=>
  cases h
  simp[binOp,Op.intCmp,A.den,vG,E.den,F2.app,ht]
 case neq=>
  cases h
  simp[binOp,Op.intCmp,A.den,kP,vG,E.den,F2.app,bne,ht]
theorem jz{P:Program}{w:World}{op:BinOp}{t:TypeId}{x y:Operand}{a b:Value}(h1:¬(a=.nilIface/\b=.nilIface))(h2:∀c d,¬(a=.agg c/\b=.agg d)):
 (eqGuard op t x y a b).run P w=.ok () w:=by
 unfold eqGuard
 cases op<;>first|rfl|skip
 all_goals
  simp only[Bool.not_true,Bool.false_eq_true,if_false]
  split
  ·exact absurd ⟨rfl,rfl⟩ h1
  ·exact absurd ⟨rfl,rfl⟩ (h2 _ _)
  ·rfl
theorem eR{P:Program}{w:World}{t:TypeId}{x y:Value}{b:Bool}
 (e:∀n,(Op.equalIn (n+1) t x y).run P w=.ok b w):(Op.equal t x y).run P w=.ok b w:=e 9999
theorem mG{P:Program}{w:World}{ρ:bp}{t:TypeId}{a b:A}{e:E}(hb:nL b=true)(ka:eA P t a=true)(kb:eA P t b=true)(he:vj a=some e):
 (Op.equal t (a.den ρ) (b.den ρ)).run P w=.ok (e.den ρ).bool w/\(Op.equal t (b.den ρ) (a.den ρ)).run P w=.ok (e.den ρ).bool w:=by
 unfold eA at ka
 split at ka<;>first|(cases ka;done)|skip
 case h_1 h|h_2 h|h_3 h|h_4 h|h_6 h|h_7 h=>
  cases b<;>simp only[nL,eA,h]at hb kb<;>first|(cases hb;done)|(cases kb;done)|skip
  cases he
  refine⟨eR λn=>?_,eR λn=>?_⟩<;>simp[Op.equalIn,run_underlying h,A.den,E.den]
 case h_5 s l c h=>
  cases b with
  |sl s' l' c'=>
   have:s'=.nil:=by
    unfold nL at hb
    split at hb<;>first|(cases hb;done)|skip
    all_goals rename_i hh;first|(cases hh;done)|(cases hh;rfl)
   subst this
   cases s with
   |nil=>cases he;refine⟨eR λn=>?_,eR λn=>?_⟩<;>simp[Op.equalIn,run_underlying h,A.den,SA.den,E.den]
   |v k=>
    cases he
    refine⟨eR λn=>?_,eR λn=>?_⟩<;>simp only[Op.equalIn,Sem.run_bind,run_underlying h,Result.andThen_ok,A.den,SA.den,Lz,E.den,F1.app,aP.cr]<;>cases(look ρ k).X9<;>rfl
   |b r o=>cases he;refine⟨eR λn=>?_,eR λn=>?_⟩<;>simp[Op.equalIn,run_underlying h,A.den,SA.den,E.den]
  |_=>simp only[nL,eA,h]at hb kb<;>first|(cases hb;done)|(cases kb;done)
theorem run_equal_bool{P:Program}{w:World}{t:TypeId}(h:LA P t=true)(a b:Bool):(Op.equal t (.bool a) (.bool b)).run P w=.ok (a==b) w:=by
 unfold LA at h
 split at h
 ·rename_i hd
  exact eR λn=>by simp only[Op.equalIn,Sem.run_bind,run_underlying hd,Result.andThen_ok,Sem.run_pure]
 ·cases h
theorem RE(a b:List UInt8):((⟨a.toArray⟩:ByteArray).toList==(⟨b.toArray⟩:ByteArray).toList)=decide (a=b):=by
 rw[ByteArray.toList_mk,ByteArray.toList_mk]
 exact Bool.eq_iff_iff.2 (by simp)
theorem kQ{P:Program}{t:TypeId}{a:A}(h:eA P t a=true)(ρ:bp):a.den ρ≠.nilIface/\∀c,a.den ρ≠.agg c:=by
 unfold eA at h
 split at h<;>first|(cases h;done)|simp[A.den]
theorem jA{P:Program}{w:World}{t:TypeId}{x y:Value}{b:Bool}(hx:(∃o,x=.pointer o)\/(∃o l c,x=.slice o l c)\/(∃o,x=.map o)\/x=.nilFunc\/(∃f g c,x=.func f g c))
 (h:(Op.equal t x y).run P w=.ok b w):(binOp .eql t x y).run P w=.ok (.bool b) w/\(binOp .neq t x y).run P w=.ok (.bool (!b)) w:=by
 rcases hx with⟨o,rfl⟩|⟨o,l,c,rfl⟩|⟨o,rfl⟩|rfl|⟨f,g,c,rfl⟩<;>
  refine⟨?_,?_⟩<;>simp only[binOp,Sem.run_bind,h,Result.andThen_ok,Sem.run_pure]
theorem jV{P:Program}{t:TypeId}{a:A}(h:eA P t a=true)(ρ:bp):
 (∃o,a.den ρ=.pointer o)\/(∃o l c,a.den ρ=.slice o l c)\/(∃o,a.den ρ=.map o)\/a.den ρ=.nilFunc\/(∃f g c,a.den ρ=.func f g c):=by
 unfold eA at h
 split at h<;>first|(cases h;done)|simp[A.den]
theorem RG{P:Program}{w:World}{ρ:bp}{op:BinOp}{t:TypeId}{a b:A}{es:List E}{r:A}(h:Zm P op t a b=some (es,r))(hn:∀e∈es,e.prop ρ)(x y:Operand):
 (do eqGuard op t x y (a.den ρ) (b.den ρ);binOp op t (a.den ρ) (b.den ρ):Sem Value).run P w=.ok (r.den ρ) w:=by
 rw[Sem.run_bind]
 have guard:(∀k,a≠.val k)->a≠.Q8->(eqGuard op t x y (a.den ρ) (b.den ρ)).run P w=.ok () w:=λh1 h2=>
  jz (λh=>by cases a<;>simp_all [A.den]) (λc d h=>by cases a<;>simp_all [A.den])
 unfold Zm at h
 split at h
 ·cases h
  rw[guard (by simp) (by simp)]
  have h1:=(hZ hn).1
  rw[lU]at h1
  have h2:¬(E.den ρ _).int<0:=Int.not_lt.2 (show(0:Int)<=_ from h1)
  simp[binOp,Op.shift,A.den,E.den,F2.app,h2]
 ·cases h
  rw[guard (by simp) (by simp)]
  have h1:=(hZ hn).1
  rw[lU]at h1
  have h2:¬(E.den ρ _).int<0:=Int.not_lt.2 (show(0:Int)<=_ from h1)
  simp[binOp,Op.shift,A.den,E.den,F2.app,h2]
 ·split at h
  ·rename_i hk
   subst hk
   rw[guard (by simp) (by simp)]
   exact vH h hn t
  ·cases h
 ·split at h
  ·rename_i hb
   cases h
   rw[guard (by simp) (by simp)]
   simp only[Result.andThen_ok,binOp,A.den,Sem.run_bind,run_equal_bool hb,Sem.run_pure,E.den,F2.app,aP.cr]
  ·cases h
 ·split at h
  ·rename_i hb
   cases h
   rw[guard (by simp) (by simp)]
   simp only[Result.andThen_ok,binOp,A.den,Sem.run_bind,run_equal_bool hb,Sem.run_pure,kP,E.den,F2.app,aP.cr]
  ·cases h
 ·cases h
  rw[guard (by simp) (by simp)]
  simp only[Result.andThen_ok,A.den,binOp_string_eql,RE,Sem.run_pure,E.den,F2.app,aP.cr]
 ·cases h
  rw[guard (by simp) (by simp)]
  simp only[Result.andThen_ok,A.den,binOp_string_neq,RE,Sem.run_pure,kP,E.den,F2.app,aP.cr]
 ·cases h
  rw[guard (by simp) (by simp)]
  have h1:=hn _ (List.mem_cons_self ..)
  simp only[E.prop,E.den,F1.app,F2.app,aP.dH,aP.dP]at h1
  rename_i sa sb
  have h2:¬((((⟨(sa.den ρ).str.toArray⟩:ByteArray).size+(⟨(sb.den ρ).str.toArray⟩:ByteArray).size:Nat):Int)>IntKind.i64.max):=by
   simp only[ByteArray.size,List.size_toArray,IntKind.max,IntKind.signed,IntKind.bits]
   simp only[if_true]
   omega
  simp only[Result.andThen_ok,A.den,binOp,Op.stringOp,h2,if_false,Sem.run_pure,E.den,F2.app,aP.eQ]
  congr 3
 ·cases h
  rw[guard (by simp) (by simp)]
  simp only[Result.andThen_ok,A.den,binOp_string_lss,ByteArray.toList_mk,Sem.run_pure,E.den,F2.app,aP.cr]
 ·split at h
  ·rename_i hc
   simp only[Bool.and_eq_true]at hc
   simp only[Option.map_eq_some_iff]at h
   obtain⟨e,he,h⟩:=h
   cases h
   obtain⟨n1,n2⟩:=kQ hc.1.2 ρ
   rw[jz (λh=>n1 h.1) (λc d h=>n2 c h.1)]
   exact(jA (jV hc.1.2 ρ) (mG hc.1.1 hc.1.2 hc.2 he).1).1
  ·split at h
   ·rename_i hc
    simp only[Bool.and_eq_true]at hc
    simp only[Option.map_eq_some_iff]at h
    obtain⟨e,he,h⟩:=h
    cases h
    obtain⟨n1,n2⟩:=kQ hc.1.2 ρ
    rw[jz (λh=>n1 h.1) (λc d h=>n2 c h.1)]
    exact(jA (jV hc.1.2 ρ) (mG hc.1.1 hc.2 hc.1.2 he).2).1
   ·cases h
 ·split at h
  ·rename_i hc
   simp only[Bool.and_eq_true]at hc
   simp only[Option.map_eq_some_iff]at h
   obtain⟨e,he,h⟩:=h
   cases h
   obtain⟨n1,n2⟩:=kQ hc.1.2 ρ
   rw[jz (λh=>n1 h.1) (λc d h=>n2 c h.1)]
   simp only[A.den,kP]
   exact(jA (jV hc.1.2 ρ) (mG hc.1.1 hc.1.2 hc.2 he).1).2
  ·split at h
   ·rename_i hc
    simp only[Bool.and_eq_true]at hc
    simp only[Option.map_eq_some_iff]at h
    obtain⟨e,he,h⟩:=h
    cases h
    obtain⟨n1,n2⟩:=kQ hc.1.2 ρ
    rw[jz (λh=>n1 h.1) (λc d h=>n2 c h.1)]
    simp only[A.den,kP]
    exact(jA (jV hc.1.2 ρ) (mG hc.1.1 hc.2 hc.1.2 he).2).2
   ·cases h
 ·cases h
theorem co{P:Program}{w:World}{s:Sem Value}{v:Value}(h:s.run P w=.ok v w):(do pure (.value (<-s)):Sem Next).run P w=.ok (.value v) w:=by
 rw[Sem.run_bind,h];rfl
theorem qP{ρ:bp}{s:S}{k:Nat}(kn:∀x∈s.kn,(x.1.den ρ).bool=x.2)(h:pz s.kn (.o1 .isSome (.v k))=some true):∃a,(look ρ k).X9=some a:=by
 have:=j4 kn h
 simp only[E.den,F1.app,aP.cr]at this
 exact Option.isSome_iff_exists.1 this
theorem yT{e:E}{i:Nat}(h:natLit e=some i):e=.i (i:Int):=by
 unfold natLit at h
 split at h
 ·split at h
  ·cases h
   congr 1
   omega
  ·cases h
 ·cases h
theorem V9{e:E}{i:Nat}(h:Zn e=some i):e=.n i:=by
 unfold Zn at h
 split at h
 ·cases h;rfl
 ·cases h
section
variable {P:Program}{w:World}{ρ:bp}
theorem run_indexAt_slice{t el:TypeId}(ht:P.underlying t=some (.slice el)){i:TypeInfo}(hi:P.info? el=some i){b:Addr}{len cap:Nat}{k:IntKind}{x:Int}(h0:0<=x)(h1:x<len):
 (Instr.indexAt t (.slice (some b) len cap) (.int k x)).run P w=.ok (.pointer (some (b.add (x.toNat*gr P el)))) w:=by
 have hx:0<=x/\x<(len:Int):=⟨h0,h1⟩
 simp[Instr.indexAt,asIntOf,Sem.run_bind,run_underlying ht,hx,run_sizeOf hi]
theorem run_indexAt_array{t el:TypeId}{n:Nat}(ht:P.underlying t=some (.array n el)){i:TypeInfo}(hi:P.info? el=some i){b:Addr}{k:IntKind}{x:Int}(h0:0<=x)(h1:x<n):
 (Instr.indexAt t (.pointer (some b)) (.int k x)).run P w=.ok (.pointer (some (b.add (x.toNat*gr P el)))) w:=by
 have hx:0<=x/\x<(n:Int):=⟨h0,h1⟩
 simp[Instr.indexAt,asIntOf,Sem.run_bind,run_underlying ht,hx,run_sizeOf hi,Instr.sureAddr]
theorem tF{t:TypeId}{fs:Array Field}(ht:P.underlying t=some (.struct fs)){f:Nat}{fd:Field}(hf:fs[f]? =some fd)(hz:gr P fd.type≠0){b:Addr}:
 (Instr.fieldAt t (.pointer (some b)) f).run P w=.ok (.pointer (some (b.add fd.offset))) w:=by
 cases hi:P.info? fd.type with
 |none=>simp[gr,hi]at hz
 |some i=>simp[Instr.fieldAt,Sem.run_bind,run_underlying ht,hf,Instr.sureAddr,fieldPlace,run_sizeOf hi,hz]
theorem vI{t:TypeId}{r:BR}{off:Nat}{l:List A}{ty:TypeId}{x:W}{R h F:PH}(nP:Sat w R h F)(hc:h (r.den ρ)=some (.cells (l.map (A.den ρ)).toArray ty (0,0)))(hp:vi P t l off=some x):
 (Instr.loadAt t (.pointer (some ⟨r.den ρ,off,none⟩))).run P w=.ok (x.den ρ) w:=by
 have hcell:=RD nP hc
 unfold vi at hp
 split at hp
 ·cases hp
 ·rename_i d hd
  obtain⟨i,hi⟩:=jJ hd
  simp only[Instr.loadAt,Instr.sureAddr,Sem.run_bind,Sem.run_pure,Result.andThen_ok,loadVar,hY hd]
  split at hp
  ·rename_i ha
   split at hp
   ·rename_i hl
    cases hp
    have hlen:((l.map (A.den ρ)).drop off |>.take (gr P t)).length=gr P t:=by simp;omega
    have hr:=run_loadCells (P:=P) (w:=w) (b:=r.den ρ) (off:=off) ((l.map (A.den ρ)).drop off |>.take (gr P t)) (λj v hj=>by
     rw[hcell]
     rw[List.getElem?_take]at hj
     split at hj
     ·rw[List.getElem?_drop]at hj
      simpa using hj
     ·cases hj)
    rw[hlen]at hr
    simp only[ha,if_true,Sem.run_bind,run_sizeOf hi,Result.andThen_ok,hr,Sem.run_pure,W.den,List.map_take,List.map_drop]
   ·cases hp
  ·rename_i ha
   have Oc:gF P t=false:=by simpa using ha
   simp only[Option.map_eq_some_iff]at hp
   obtain⟨y,hy,rfl⟩:=hp
   simp only[Oc,Bool.false_eq_true,if_false]
   refine run_load ?_
   rw[hcell]
   simp[hy,W.den]
end
theorem Ip{P:Program}{w:World}{ρ:bp}{s:S}{a:Act}{fn:Fn}{first iw:Array Operand}{dst:Option Tmp}{ty:TypeId}{pos:String}{after:Array Edge}{guard:Option (Nat×Bool)}{es:List E}{v:V}
 (h:Id s fn first iw=some (es,v)) (tm:Tm ρ s.t a):(execOp a.eval ⟨dst,.makeFunc fn first iw,ty,pos,after,guard⟩).run P w=.ok (.value (v.den ρ)) w:=by
 unfold Id at h
 split at h
 ·rename_i hf
  split at h
  ·rename_i vs hv
   simp only[Option.map_eq_some_iff]at h
   obtain⟨u,hu,h⟩:=h
   cases h
   refine co ?_
   have e1:=vD hv
   have e2:=vD hu
   have key:∀(l:List Operand) (vs:List V) (cs:List (BR×Nat)),l.map (ev s)=vs.map some->vs.map Ra=cs.map some->l.map a.eval=cs.map (iX ρ):=by
    intro l
    induction l with
    |nil=>intro vs cs h1 h2;cases vs with
     |nil=>cases cs with
      |nil=>rfl
      |cons _ _=>cases h2
     |cons _ _=>cases h1
    |cons x r ih=>intro vs cs h1 h2;cases vs with
     |nil=>cases h1
     |cons y q=>cases cs with
      |nil=>cases h2
      |cons c m=>
       simp only[List.map_cons,List.cons.injEq]at h1 h2⊢
       refine⟨?_,ih q m h1.2 h2.2⟩
       rw[gG tm h1.1]
       have:=h2.1
       unfold Ra at this
       split at this
       ·cases this;rfl
       ·cases this
   have e3:=key iw.toList vs u e1 e2
   have hf':first= #[]:=by
    cases first;simp_all
   subst hf'
   simp only[Instr.makeFunc,Sem.run_pure,V.den,W.den,A.den]
   rw[<-e3]
   cases iw
   simp
  ·cases h
 ·cases h
theorem Iq{P:Program}{w:World}{ρ:bp}{s:S}{a:Act}{t:TypeId}{x ix:Operand}{dst:Option Tmp}{ty:TypeId}{pos:String}{after:Array Edge}{guard:Option (Nat×Bool)}{es:List E}{v:V}
 (h:Ie P s t x ix=some (es,v)) (tm:Tm ρ s.t a) (hn:∀e∈es,e.prop ρ):(execOp a.eval ⟨dst,.indexAddr t x ix,ty,pos,after,guard⟩).run P w=.ok (.value (v.den ρ)) w:=by
 unfold Ie at h
 split at h
 ·rename_i el k len _ _ e hd hx hi
  split at h
  ·rename_i hs
   obtain⟨AZ,Ir⟩:=Option.isSome_iff_exists.1 hs
   cases h
   have h0:=hZ hn
   have h1:=h0.1
   rw[lU]at h1
   have h2:=h0.2 _ (List.mem_cons_self ..)
   have h3:=h0.2 _ (List.mem_cons_of_mem _ (List.mem_cons_self ..))
   have Wa:∃b,(look ρ k).X9=some b:=Option.isSome_iff_exists.1 (yS h3)
   obtain⟨b,hb⟩:=Wa
   refine co ?_
   rw[bF tm hx,bF tm hi]
   simp only[A.den,SA.den,hb,V.den,W.den,Option.map_some]
   rw[run_indexAt_slice hd Ir (show(0:Int)<=(e.den ρ).int from h1) (show(e.den ρ).int<(((len.den ρ).nat:Nat):Int)from h2)]
   simp[Addr.add]
  ·cases h
 ·rename_i el r off len _ _ e hd hx hi
  split at h
  ·rename_i i n hn1 hn2
   split at h
   ·rename_i hs
    obtain⟨AZ,Ir⟩:=Option.isSome_iff_exists.1 hs.2
    cases h
    obtain rfl:=yT hn1
    obtain rfl:=V9 hn2
    refine co ?_
    rw[bF tm hx,bF tm hi]
    simp only[A.den,SA.den,E.den,aP.dH,aP.dP,V.den,W.den]
    rw[run_indexAt_slice hd Ir (by omega) (by omega)]
    simp[addr_add]
   ·cases h
  ·cases h
 ·rename_i n el r off _ e hd hx hi
  split at h
  ·rename_i i hn1
   split at h
   ·rename_i hs
    obtain⟨AZ,Ir⟩:=Option.isSome_iff_exists.1 hs.2
    cases h
    obtain rfl:=yT hn1
    refine co ?_
    rw[bF tm hx,bF tm hi]
    simp only[A.den,E.den,aP.dH,V.den,W.den]
    rw[run_indexAt_array hd Ir (by omega) (by omega)]
    simp[addr_add]
   ·cases h
  ·cases h
 ·cases h
theorem A0{P:Program}{w:World}{ρ:bp}{s:S}{a:Act}{c:Call}{dst:Option Tmp}{ty:TypeId}{pos:String}{after:Array Edge}{guard:Option (Nat×Bool)}{es:List E}{v:V}
 (h:vk P s c=some (es,v)) (tm:Tm ρ s.t a):(execOp a.eval ⟨dst,.call c,ty,pos,after,guard⟩).run P w=.ok (.value (v.den ρ)) w:=by
 obtain⟨callee,args,argTypes⟩:=c
 unfold vk at h
 split at h
 ·rename_i x t h1 h2 h3
  simp only at h1 h2 h3
  subst h1
  obtain rfl:args= #[x]:=by cases args;simp_all
  obtain rfl:argTypes= #[t]:=by cases argTypes;simp_all
  unfold LB at h
  split at h
  ·rename_i hd hx
   cases h
   simp only[execOp,resolve,Sem.run_bind,Sem.run_pure,Result.andThen_ok,invoke,builtin,List.map_toArray,List.map_cons,List.map_nil,bF tm hx,A.den]
   simp only[Builtin.len_,List.getElem?_toArray,List.getElem?_cons_zero,Sem.run_bind,run_underlying hd,Result.andThen_ok,Sem.run_pure,goInt,V.den,W.den,A.den]
   congr 3
   split<;>simp_all [E.den,F1.app]
  ·rename_i hd hx
   cases h
   simp only[execOp,resolve,Sem.run_bind,Sem.run_pure,Result.andThen_ok,invoke,builtin,List.map_toArray,List.map_cons,List.map_nil,bF tm hx,A.den]
   simp only[Builtin.len_,List.getElem?_toArray,List.getElem?_cons_zero,Sem.run_bind,run_underlying hd,Result.andThen_ok,Sem.run_pure,goInt,V.den,W.den,A.den,ByteArray.size,List.size_toArray]
   congr 3
   split<;>simp_all [E.den,F1.app]
  ·rename_i hd hx
   cases h
   simp only[execOp,resolve,Sem.run_bind,Sem.run_pure,Result.andThen_ok,invoke,builtin,List.map_toArray,List.map_cons,List.map_nil,bF tm hx,A.den]
   simp only[Builtin.len_,List.getElem?_toArray,List.getElem?_cons_zero,Sem.run_bind,run_underlying hd,Result.andThen_ok,Sem.run_pure,goInt,V.den,W.den,A.den,E.den,aP.dH]
  ·cases h
 ·rename_i x t h1 h2 h3
  simp only at h1 h2 h3
  subst h1
  obtain rfl:args= #[x]:=by cases args;simp_all
  obtain rfl:argTypes= #[t]:=by cases argTypes;simp_all
  unfold LC at h
  split at h
  ·rename_i hd hx
   cases h
   simp only[execOp,resolve,Sem.run_bind,Sem.run_pure,Result.andThen_ok,invoke,builtin,List.map_toArray,List.map_cons,List.map_nil,bF tm hx,A.den]
   simp[Builtin.cap_,Sem.run_bind,run_underlying hd,goInt,V.den,W.den,A.den,E.den,F1.app]
  ·cases h
 ·rename_i x y h1 h2
  simp only at h1 h2
  subst h1
  obtain rfl:args= #[x,y]:=by cases args;simp_all
  unfold AQ at h
  split at h
  ·rename_i k a _ k' b hx hy
   split at h
   ·rename_i hk
    subst hk
    cases h
    simp only[execOp,resolve,Sem.run_bind,Sem.run_pure,Result.andThen_ok,invoke,builtin,List.map_toArray,List.map_cons,List.map_nil,bF tm hx,bF tm hy,A.den]
    simp only[Builtin.max_,List.foldlM_cons,List.foldlM_nil,Builtin.max2,Sem.run_bind,Sem.run_pure,Result.andThen_ok,V.den,W.den,A.den,E.den,F2.app,aP.dH]
    congr 3
    split<;>omega
   ·cases h
  ·cases h
 ·rename_i x y h1 h2
  simp only at h1 h2
  subst h1
  obtain rfl:args= #[x,y]:=by cases args;simp_all
  unfold AQ at h
  split at h
  ·rename_i k a _ k' b hx hy
   split at h
   ·rename_i hk
    subst hk
    cases h
    simp only[execOp,resolve,Sem.run_bind,Sem.run_pure,Result.andThen_ok,invoke,builtin,List.map_toArray,List.map_cons,List.map_nil,bF tm hx,bF tm hy,A.den]
    simp only[Builtin.min_,List.foldlM_cons,List.foldlM_nil,Builtin.min2,Sem.run_bind,Sem.run_pure,Result.andThen_ok,V.den,W.den,A.den,E.den,F2.app,aP.dH]
    congr 3
    split<;>omega
   ·cases h
  ·cases h
 ·cases h
theorem vJ{P:Program}{w:World}{ρ:bp}{s:S}{a:Act}{o:Oper}{es:List E}{v:V}(h:sp P s o.op=some (es,v))(tm:Tm ρ s.t a)(kn:∀x∈s.kn,(x.1.den ρ).bool=x.2)
 (hs:∃R h F,Sat w R h F/\(bg ρ s.h).p R h) (hn:∀e∈es,e.prop ρ):(execOp a.eval o).run P w=.ok (.value (v.den ρ)) w:=by
 obtain⟨R,H,F,nP,hp⟩:=hs
 obtain⟨dst,op,ty,pos,after,guard⟩:=o
 simp only at h
 unfold sp at h
 split at h
 · -- move
   simp only[Option.map_eq_some_iff]at h
   obtain⟨u,hu,h⟩:=h
   cases h
   simp only[execOp,gG tm hu,Sem.run_pure]
 ·simp only[Option.map_eq_some_iff]at h
  obtain⟨u,hu,h⟩:=h
  cases h
  simp only[execOp,gG tm hu,Sem.run_pure]
 · -- pick
   split at h
   ·rename_i c x y e hc
    have Yj:=bF tm hc
    split at h
    ·rename_i hk
     have:=j4 kn hk
     simp only[Option.map_eq_some_iff]at h
     obtain⟨u,hu,h⟩:=h
     cases h
     simp only[execOp,Yj,A.den,asBool,Sem.run_bind,Sem.run_pure,Result.andThen_ok,this,if_true,gG tm hu]
    ·rename_i hk
     have:=j4 kn hk
     simp only[Option.map_eq_some_iff]at h
     obtain⟨u,hu,h⟩:=h
     cases h
     simp only[execOp,Yj,A.den,asBool,Sem.run_bind,Sem.run_pure,Result.andThen_ok,this,Bool.false_eq_true,if_false,gG tm hu]
    ·split at h
     ·rename_i p q hx hy
      cases h
      simp only[execOp,Yj,A.den,asBool,Sem.run_bind,Sem.run_pure,Result.andThen_ok,bF tm hx,bF tm hy,V.den,W.den]
      congr 2
      have hpe:((Rb e p q).den ρ).bool=if(e.den ρ).bool then(p.den ρ).bool else(q.den ρ).bool:=by
       unfold Rb
       split<;>simp only[E.den,F2.app,aP.cr,kP]<;>cases(e.den ρ).bool<;>simp
      rw[hpe]
      split<;>rfl
     ·cases h
   ·cases h
 · -- nilCheck
   split at h
   ·rename_i hx
    cases h
    simp only[execOp,gG tm hx,V.den,W.den,A.den,Sem.run_pure]
   ·rename_i hx
    cases h
    simp only[execOp,gG tm hx,V.den,W.den,A.den,Sem.run_pure]
   ·rename_i hx
    split at h
    ·rename_i hk
     cases h
     obtain⟨b,hb⟩:=qP kn hk
     simp only[execOp,gG tm hx,V.den,W.den,A.den,hb,Option.map_some,Sem.run_pure]
    ·cases h
   ·cases h
 · -- fieldAddr
   split at h
   ·rename_i hd
    split at h
    ·rename_i fd hf
     split at h
     ·cases h
     ·rename_i hz
      split at h
      ·rename_i hx
       cases h
       refine co ?_
       rw[bF tm hx]
       simp only[A.den,tF hd hf hz,addr_add,V.den,W.den]
      ·rename_i hx
       split at h
       ·rename_i hk
        cases h
        obtain⟨b,hb⟩:=qP kn hk
        refine co ?_
        rw[bF tm hx]
        simp only[A.den,hb,Option.map_some,tF hd hf hz,V.den,W.den]
        congr 3
        unfold Addr.add
        repeat' split
        all_goals simp_all<;>omega
       ·cases h
      ·cases h
    ·cases h
   ·cases h
 · -- field
   split at h
   ·rename_i hd
    split at h
    ·rename_i fd hf
     split at h
     ·rename_i hx
      simp only[Option.map_eq_some_iff]at h
      obtain⟨u,hu,h⟩:=h
      cases h
      refine co ?_
      rw[qO tm hx]
      simp only[Instr.field,Sem.run_bind,run_underlying hd,Result.andThen_ok,hf,W.den,asAgg,Sem.run_pure,RC hu,V.den]
     ·cases h
    ·cases h
   ·cases h
 · -- extract
   split at h
   ·rename_i hx
    simp only[Option.map_eq_some_iff]at h
    obtain⟨u,hu,h⟩:=h
    cases h
    refine co ?_
    rw[gG tm hx]
    simp only[V.den,Instr.extract,List.getElem?_toArray,List.getElem?_map,hu,Option.map_some,Sem.run_pure]
   ·rename_i hx
    split at h
    ·rename_i hi0
     cases h
     subst hi0
     refine co ?_
     rw[gG tm hx]
     simp only[V.den,W.den,A.den,E.den]
     cases(look ρ _).bool<;>simp[Instr.extract]
    ·cases h
   ·cases h
 · -- load
   split at h
   ·rename_i hx
    split at h
    ·rename_i hf
     simp only[Option.map_eq_some_iff]at h
     obtain⟨u,hu,h⟩:=h
     cases h
     refine co ?_
     rw[bF tm hx]
     simp only[A.den,V.den]
     exact vI nP (vE (vB (yQ hf) hp)) hu
    ·cases h
   ·cases h
 · -- binOp
   split at h
   ·rename_i hx hy
    simp only[Option.map_eq_some_iff]at h
    obtain⟨u,hu,h⟩:=h
    cases h
    refine co ?_
    rw[bF tm hx,bF tm hy]
    exact RG hu hn _ _
   ·cases h
 · -- not
   split at h
   ·rename_i hx
    cases h
    refine co ?_
    rw[bF tm hx]
    simp only[A.den,Op.unary,Sem.run_pure,V.den,W.den,kP]
   ·cases h
 · -- neg
   split at h
   ·rename_i hx
    simp only[Option.map_eq_some_iff]at h
    obtain⟨u,hu,h⟩:=h
    cases h
    refine co ?_
    rw[bF tm hx]
    have:=vH (P:=P) (w:=w) (t:=0) hu hn
    simp only[binOp,E.den,aP.dH]at this
    simpa only[A.den,Op.unary,V.den,W.den,ne_eq,not_true_eq_false,if_false]using this
   ·cases h
 · -- convert
   split at h
   ·rename_i hs hd hx
    split at h
    ·split at h
     ·cases h
      refine co ?_
      rw[bF tm hx]
      have:=vF (hZ hn).1
      simp[convert,Sem.run_bind,run_underlying hs,run_underlying hd,A.den,Conv.intToInt,gu this,V.den,W.den]
     ·cases h
      refine co ?_
      rw[bF tm hx]
      simp[convert,Sem.run_bind,run_underlying hs,run_underlying hd,A.den,Conv.intToInt,V.den,W.den,E.den,F1.app]
    ·cases h
   ·rename_i hs hd hx
    cases h
    refine co ?_
    rw[bF tm hx]
    simp[convert,Sem.run_bind,run_underlying hs,run_underlying hd,A.den,V.den,W.den]
   ·cases h
 ·exact Ip h tm
 ·exact Iq h tm hn
 ·exact A0 h tm
 ·cases h
end RX
section
theorem PH.own.lt{h:PH}{w:World}(o:h.own w){k:Nat}{x:Obj}(e:h k=some x):k<w.heap.size:=by
 have:=o k x e
 rcases Nat.lt_or_ge k w.heap.size with g|g
 ·exact g
 ·rw[Array.getElem?_eq_none g]at this;cases this
theorem PH.own.free{h:PH}{w:World}(o:h.own w):h w.heap.size=Option.none:=by
 cases e:h w.heap.size with
 |none=>rfl
 |some x=>exact absurd (o.lt e) (Nat.lt_irrefl _)
theorem PH.own.alloc{h:PH}{w:World}(o:h.own w)(x:Obj):h.own (w.alloc x):=λk y e=>by
 have:=o.lt e
 show(w.heap.push x)[k]? =some y
 rw[Array.getElem?_push,if_neg (by omega)]
 exact o k y e
theorem Sat.alloc{w:World}{R h F:PH}(s:Sat w R h F)(x:Obj):Sat (w.alloc x) R ((PH.one w.heap.size x).un h) F/\(PH.one w.heap.size x).dj h:=by
 have dn:∀g:PH,g.own w->(PH.one w.heap.size x).dj g:=λg o k=>by
  by_cases e:k=w.heap.size
  ·subst e;exact .inr o.free
  ·exact .inl (if_neg e)
 refine⟨⟨(PH.kK (dn R s.oR) s.qL.symm).symm,s.CL,PH.kK (dn F s.oF) s.sn,s.oR.alloc x,λk y e=>?_,s.oF.alloc x,s.gl⟩,dn h s.oh⟩
 rcases PH.kJ e with e|e
 ·obtain⟨rfl,rfl⟩:=PH.lP e
  show(w.heap.push _)[w.heap.size]? =_
  rw[Array.getElem?_push,if_pos rfl]
 ·exact s.oh.alloc x k y e
theorem Same.alloc(w:World)(x:Obj):Same w (w.alloc x):=⟨rfl,rfl,rfl,by rw[World.size_alloc];omega⟩
theorem Sat.aY{w w':World}{R h F:PH}(s:Sat w R h F){b:Nat}{x y:Obj}(hb:h b=some x)(hw:∀k,k≠b->w'.heap[k]? =w.heap[k]?)(hy:w'.heap[b]? =some y):Sat w' R (λk=>if k=b then some y else h k) F:=by
 have hR:R b=none:=(s.qL b).resolve_right (by rw[hb];simp)
 have hF:F b=none:=(s.sn b).resolve_left (by rw[hb];simp)
 refine⟨λk=>?_,s.CL,λk=>?_,λk o e=>?_,λk o e=>?_,λk o e=>?_,s.gl⟩
 ·by_cases e:k=b
  ·subst e;exact .inl hR
  ·simp only[e,if_false];exact s.qL k
 ·by_cases e:k=b
  ·subst e;exact .inr hF
  ·simp only[e,if_false];exact s.sn k
 ·rw[hw k (λe'=>by subst e';rw[hR]at e;cases e)];exact s.oR k o e
 ·by_cases e':k=b
  ·subst e';simp only[if_true]at e;rw[hy];exact e
  ·simp only[e',if_false]at e;rw[hw k e'];exact s.oh k o e
 ·rw[hw k (λe'=>by subst e';rw[hF]at e;cases e)];exact s.oF k o e
theorem Sat.drew{w:World}{R h F:PH}(s:Sat w R h F)(n:Nat):Sat {w with drawn:=n} R h F:=⟨s.qL,s.CL,s.sn,s.oR,s.oh,s.oF,s.gl⟩
theorem Same.drew(w:World)(n:Nat):Same w {w with drawn:=n}:=⟨rfl,rfl,rfl,Nat.le_refl _⟩
namespace RX
structure Ctx where
 P:Program
 post:Value->HP
 w0:World
 F:PH
 ρ:bp
 R:PH
 L:List (bp->Prop)
def Nx(c:Ctx)(K:S->T)(a:Act)(w:World):Prop:=
 ∃ρ s R h L,c.ρ<+:ρ/\c.R.le R/\c.L<:+L/\L.length=s.dp/\Ok ρ s a c.w0 w R h c.F/\(K s).den c.P c.post L ρ
theorem Nx.mk{P:Program}{post:Value->HP}{w0 w:World}{F R h:PH}{ρ:bp}{L:List (bp->Prop)}{K:S->T}{s:S}{a:Act}(ok:Ok ρ s a w0 w R h F)(hl:L.length=s.dp)(hd:(K s).den P post L ρ):
 Nx ⟨P,post,w0,F,ρ,R,L⟩ K a w:=⟨ρ,s,R,h,L,List.prefix_refl _,PH.le.refl _,List.suffix_refl _,hl,ok,hd⟩
theorem Nx.mono{c c':Ctx}{K K':S->T}{a:Act}{w:World}(n:Nx c' K' a w)(hP:c'.P=c.P)(hp:c'.post=c.post)(hw:c'.w0=c.w0)(hF:c'.F=c.F)(hρ:c.ρ<+:c'.ρ)(hR:c.R.le c'.R)(hL:c.L<:+c'.L)
 (hK:∀s,K' s=K s):Nx c K a w:=by
 obtain⟨ρ,s,R,h,L,p1,p2,p3,p4,p5,p6⟩:=n
 rw[hK,hP,hp]at p6
 rw[hw,hF]at p5
 exact⟨ρ,s,R,h,L,hρ.trans p1,hR.trans p2,hL.trans p3,p4,p5,p6⟩
section
variable {P:Program}{post:Value->HP}{w0 w:World}{F R h:PH}{ρ:bp}{L:List (bp->Prop)}{s:S}{a:Act}
theorem Ok.Is(ok:Ok ρ s a w0 w R h F){e:E}{b:Bool}(hb:(e.den ρ).bool=b):Ok ρ {s with kn:=(e,b)::s.kn} a w0 w R h F:=
 ⟨ok.nJ,ok.tm,ok.len,λx hx=>by cases hx with
   |head=>exact hb
   |tail _ hx=>exact ok.kn x hx,ok.hp,ok.nP,ok.same⟩
theorem C1{es:List E}{K:S->T}(ok:Ok ρ s a w0 w R h F)(hd:(yJ es K s).den P post L ρ):
 ∃kn,Ok ρ {s with kn:=kn} a w0 w R h F/\(∀e∈es,e.prop ρ)/\(K {s with kn:=kn}).den P post L ρ:=by
 induction es generalizing s with
 |nil=>exact⟨s.kn,ok,(λe he=>by cases he),hd⟩
 |cons e r ih=>
  simp only[yJ]at hd
  split at hd
  ·rename_i hk
   obtain⟨kn,h1,h2,h3⟩:=ih ok hd
   exact⟨kn,h1,λx hx=>by cases hx with
    |head=>exact(E.jv ρ e).2 (j4 ok.kn hk)
    |tail _ hx=>exact h2 x hx,h3⟩
  ·split at hd
   ·obtain⟨he,hd⟩:=hd
    have hd:=hd he
    obtain⟨kn,h1,h2,h3⟩:=ih (ok.Is (yS he)) hd
    exact⟨kn,h1,λx hx=>by cases hx with
     |head=>exact he
     |tail _ hx=>exact h2 x hx,h3⟩
   ·exact hd.elim
theorem A1{e:E}{kt kf:S->T}(ok:Ok ρ s a w0 w R h F)(hd:(brE s e kt kf).den P post L ρ):
 ∃kn,Ok ρ {s with kn:=kn} a w0 w R h F/\(((e.den ρ).bool=true/\(kt {s with kn:=kn}).den P post L ρ)\/((e.den ρ).bool=false/\(kf {s with kn:=kn}).den P post L ρ)):=by
 unfold brE at hd
 split at hd
 ·rename_i hk;exact⟨s.kn,ok,.inl ⟨j4 ok.kn hk,hd⟩⟩
 ·rename_i hk;exact⟨s.kn,ok,.inr ⟨j4 ok.kn hk,hd⟩⟩
 ·split at hd
  ·obtain⟨h1,h2⟩:=hd
   cases hb:(e.den ρ).bool with
   |true=>exact⟨_,ok.Is hb,.inl ⟨rfl,h1 ((E.jv ρ e).2 hb)⟩⟩
   |false=>exact⟨_,ok.Is hb,.inr ⟨rfl,h2 (λhp=>by rw[(E.jv ρ e).1 hp]at hb;cases hb)⟩⟩
  ·exact hd.elim
theorem lV:∀ {ss:List So} {ρ:bp} {f:bp->HP} {R h:PH},(nF ss ρ f).p R h->∃xs:bp,xs.length=ss.length/\(f (ρ++xs)).p R h
 |[],ρ,f,R,h,H=>⟨[],rfl,by rw[List.append_nil];exact H⟩
 | .n::r,ρ,f,R,h,⟨x,H⟩| .i::r,ρ,f,R,h,⟨x,H⟩| .c::r,ρ,f,R,h,⟨x,H⟩| .s::r,ρ,f,R,h,⟨x,H⟩| .a::r,ρ,f,R,h,⟨x,H⟩| .v::r,ρ,f,R,h,⟨x,H⟩| .p::r,ρ,f,R,h,⟨x,H⟩=>by
   obtain⟨xs,hl,hx⟩:=lV H
   exact⟨_::xs,by simp[hl],by simpa using hx⟩
theorem qQ:∀ {ss:List So} {ρ:bp} {f:bp->Prop},nK ss ρ f->∃xs:bp,xs.length=ss.length/\f (ρ++xs)
 |[],ρ,f,H=>⟨[],rfl,by rw[List.append_nil];exact H⟩
 | .n::r,ρ,f,⟨x,H⟩| .i::r,ρ,f,⟨x,H⟩| .c::r,ρ,f,⟨x,H⟩| .s::r,ρ,f,⟨x,H⟩| .a::r,ρ,f,⟨x,H⟩| .v::r,ρ,f,⟨x,H⟩| .p::r,ρ,f,⟨x,H⟩=>by
   obtain⟨xs,hl,hx⟩:=qQ H
   exact⟨_::xs,by simp[hl],by simpa using hx⟩
theorem RH(v:Value):(dZ v).oneCell'=true:=by cases v<;>rfl
theorem A.one(ρ:bp)(x:A):(x.den ρ).oneCell'=true:=by
 cases x<;>first|rfl|exact RH _
theorem Oe{v:Value}(h:v.oneCell'=true):v.cells= #[v]:=by cases v<;>first|rfl|cases h
theorem A.cells(ρ:bp)(x:A):(x.den ρ).cells= #[x.den ρ]:=Oe (A.one ρ x)
theorem W.cells(ρ:bp)(x:W):(x.den ρ).cells=(x.list.map (A.den ρ)).toArray:=by
 cases x with
 |a x=>simp[W.den,W.list,A.cells]
 |agg l=>simp[W.den,W.list,Value.cells]
theorem LP{d:Option Tmp}{c:C}{v:BR->A}{K:S->T}(ok:Ok ρ s a w0 w R h F)(hl:L.length=s.dp)(hd:(CR s d c v K).den P post L ρ)(o:Obj)
 (hc:∀x:Nat,dB (ρ++[.n x]) (.b (.v s.n),c)=HP.one x o) (vv:Nat->Value) (hv:∀x:Nat,(v (.v s.n)).den (ρ++[.n x])=vv x):
 Nx ⟨P,post,w0,F,ρ,R,L⟩ K (a.put d (vv w.heap.size)) (w.alloc o):=by
 unfold CR at hd
 split at hd
 ·rename_i hb
  simp only[Bool.and_eq_true]at hb
  have hd:=hd w.heap.size
  obtain⟨s1,d1⟩:=ok.nP.alloc o
  have k1:=ok.app hb.1 [.n w.heap.size] (s.n+1) rfl
  refine⟨ρ++[.n w.heap.size],_,R,(PH.one w.heap.size o).un h,L,List.prefix_append _ _,PH.le.refl _,List.suffix_refl _,?_,?_,hd⟩
  ·cases d<;>exact hl
  ·have k2:Ok (ρ++[.n w.heap.size]) {s with n:=s.n+1,h:=(.b (.v s.n),c)::s.h} a w0 (w.alloc o) R ((PH.one w.heap.size o).un h) F:=
    ⟨k1.nJ,k1.tm,k1.len,k1.kn,(bA _ _ _ _ _).2 ⟨_,_,d1,PH.cC _ _,PH.ck d1,by rw[hc];exact PH.cW _ _,k1.hp⟩,s1,ok.same.trans (Same.alloc w o)⟩
   have:=k2.put d (.w (.a (v (.v s.n))))
   rw[show(V.w (.a (v (.v s.n)))).den (ρ++[.n w.heap.size])=vv w.heap.size from hv _]at this
   exact this
 ·exact hd.elim
end
end RX
end
namespace RX
section
variable {P:Program}{post:Value->HP}{w0 w:World}{F R h:PH}{ρ:bp}{L:List (bp->Prop)}{s:S}{a:Act}
theorem C2(f:Operand->Value)(d:Option Tmp)(op:Op)(ty:TypeId)(p:String)(af:Array Edge)(g:Option (Nat×Bool)):
 execOp f ⟨d,op,ty,p,af,g⟩=execOp f ⟨none,op,ty, "",#[],none⟩:=by cases op<;>rfl
theorem C3(tm:Tm ρ s.t a):∀ {ts:List Tmp} {ar:List (Nat×V)},N7 s ts=some ar->∀t∈ts,fl ρ ar (.tmp t)=a.eval (.tmp t)
 |[],_,_,t,ht=>by cases ht
 |x::r,ar,e,t,ht=>by
  simp only[N7]at e
  split at e
  ·rename_i v hv
   simp only[Option.map_eq_some_iff]at e
   obtain⟨l,hl,rfl⟩:=e
   have hx:=gG tm hv
   by_cases hxt:x=t
   ·subst hxt
    rw[hx]
    simp[fl]
   ·have ht':t∈r:=by
     cases ht with
     |head=>exact absurd rfl hxt
     |tail _ h=>exact h
    rw[<-C3 tm hl t ht']
    have:(x==t)=false:=by simpa using hxt
    simp[fl,this]
  ·cases e
theorem C4{o:Oper}{ar:List (Nat×V)}(tm:Tm ρ s.t a)(hs:LF o.op=false)(e:N7 s (pY o.op)=some ar):execOp a.eval o=dM ρ o.op o.type ar:=by
 obtain⟨d,op,ty,p,af,g⟩:=o
 unfold dM
 rw[C2 a.eval d op ty p af g]
 refine execOp_congr _ (λcs b hh=>?_) λx hx=>?_
 ·simp only at hh hs
  subst hh
  cases hs
 ·cases x with
  |tmp t=>
   refine(C3 tm e t ?_).symm
   unfold pY
   exact List.mem_filterMap.2 ⟨.tmp t,by simpa using hx,rfl⟩
  |_=>rfl
theorem Ok.hand(ok:Ok ρ s a w0 w R h F)(q:Key×C->Bool):∃h1 h2,Sat w R h1 (h2.un F)/\h2.dj F/\(bg ρ (s.h.filter q)).p R h1/\(bg ρ (s.h.filter λx=> !q x)).p R h2:=by
 obtain⟨h1,h2,d,l1,l2,a1,a2⟩:=jy q ok.hp
 exact⟨h1,h2,ok.nP.cut d l1 l2,ok.nP.sn.le l2 (PH.le.refl _),a1,a2⟩
theorem Ok.back(ok:Ok ρ s a w0 w R h F)(hb:s.dK=true){w':World}{R' h1 h2:PH}(sm:Same w w')(s1:Sat w' R' h1 (h2.un F))(d:h2.dj F)(lR:R.le R'){xs:bp}{n:Nat}(hn:n=s.n+xs.length){nb rest:Hp}{lk:List (Nat×Key)}
 (hr:∀x∈rest,x∈s.h) (p2:(bg ρ rest).p R h2) (p1:(bg (ρ++xs) nb).p R' h1) (dst:Option Tmp) (v:V):
 Ok (ρ++xs) ({s with n:=n,h:=nb++rest,lk:=lk}.put dst v) (a.put dst (v.den (ρ++xs))) w0 w' R' (h1.un h2) F:=by
 have Yk:=hb
 simp only[S.dK,Bool.and_eq_true]at hb
 have kh:vg ρ.length rest=true:=List.all_eq_true.2 λx hx=>by
  have:=List.all_eq_true.1 hb.1.1.2 x (hr x hx)
  rw[ok.len];exact this
 obtain⟨s2,d12⟩:=s1.join d
 have k1:=ok.app Yk xs n hn
 have k2:Ok (ρ++xs) {s with n:=n,h:=nb++rest,lk:=lk} a w0 w' R' (h1.un h2) F:=
  ⟨k1.nJ,k1.tm,k1.len,k1.kn,lS.2 ⟨h1,h2,d12,PH.cC _ _,PH.ck d12,p1,by rw[nN kh];exact(bg ρ rest).mono lR (PH.le.refl _) p2⟩,s2,ok.same.trans sm⟩
 exact k2.put dst v
theorem ki{m l:Hp}(c:Ig m l=true){R h:PH}(H:(bg ρ l).p R h):(bg ρ m).p R h:=by
 simp only[Ig,Bool.and_eq_true]at c
 exact lT c.1 (λx hx=>by simpa using List.all_eq_true.1 c.2 x hx) H
theorem nQ{aN:gA}{o:Oper}{K:S->T}{Q:Exit->Act->World->Prop}(ok:Ok ρ s a w0 w R h F)(hl:L.length=s.dp)(hd:(vp P aN s o K).den P post L ρ):
 o.wp P a w (Nx ⟨P,post,w0,F,ρ,R,L⟩ K) Q:=by
 unfold vp at hd
 split at hd
 ·exact hd.elim
 rename_i Of
 have aci:LF o.op=false:=by simpa using Of
 split at hd
 ·exact hd.elim
 rename_i ar har
 have ZA:=C4 ok.tm aci har
 unfold Oper.wp
 rw[ZA]
 simp only at hd
 split at hd
 ·exact hd.elim
 rename_i p7
 simp only[Bool.not_eq_true',Bool.not_eq_false]at p7
 split at hd
 ·split at hd
  ·rename_i hb
   simp only[Bool.and_eq_true,decide_eq_true_eq,Nat.blt_eq]at hb
   obtain⟨xs,nq,hr,hk⟩:=qQ hd
   obtain⟨h1,h2,s1,d1,p1,p2⟩:=ok.hand (λx=>(gB s.h s.lk 60 (ar.flatMap λx=>nM x.2) []).contains x.1)
   rw[hr w R h1 _ s1 (ki p7 p1)]
   have k1:=ok.app hb.1 xs _ (hb.2.trans (by rw[nq]))
   have k2:Ok (ρ++xs) {s with n:=(yK P aN s o).n,lk:=qN o.op s s.n (yK P aN s o).v++s.lk} a w0 w R h F:=⟨k1.nJ,k1.tm,k1.len,k1.kn,k1.hp,k1.nP,k1.same⟩
   refine⟨ρ++xs,_,R,h,L,List.prefix_append ρ xs,PH.le.refl _,List.suffix_refl _,?_,k2.put _ _,hk⟩
   cases o.dst<;>exact hl
  ·exact hd.elim
 ·split at hd
  ·rename_i hb
   simp only[Bool.and_eq_true,decide_eq_true_eq,Nat.blt_eq]at hb
   obtain⟨hb,hn⟩:=hb
   obtain⟨h1,h2,s1,d1,p1,p2⟩:=ok.hand (λx=>(gB s.h s.lk 60 (ar.flatMap λx=>nM x.2) []).contains x.1)
   obtain⟨nx,v,w',e7,hout,sm,R',lC,lR,s2,hB⟩:=hd w R h1 _ s1 (ki p7 p1)
   obtain⟨xs,nq,hv,hk,hnb⟩:=lV hB
   rw[e7]
   have key:Nx ⟨P,post,w0,F,ρ,R,L⟩ K (a.put o.dst v) w':=by
    rw[hv]
    refine⟨_,_,R',lC.un h2,L,List.prefix_append ρ xs,lR,List.suffix_refl _,?_,ok.back hb sm s2 d1 lR ?_ (λx hx=>(List.mem_filter.1 hx).1) p2 hnb _ _,hk⟩
    ·cases o.dst<;>exact hl
    ·rw[nq];exact hn
   cases nx<;>simp only[X7]at hout<;>first|(cases hout;done)|skip
   ·cases hout;exact key
   ·cases hout;exact key
  ·exact hd.elim
theorem qR(tm:Tm ρ s.t a):∀ {l:List Operand} {ws:List W},mapM' (Lx s) l=some ws->l.map a.eval=ws.map (W.den ρ)
 |[],ws,e=>by cases e;rfl
 |x::r,ws,e=>by
  simp only[mapM']at e
  split at e
  ·rename_i y hy
   split at e
   ·rename_i q hq;cases e;simp[qO tm hy,qR tm hq]
   ·cases e
  ·cases e
theorem C5{aN:gA}{o:Oper}{K:S->T}{Q:Exit->Act->World->Prop}{f:FuncId}{args:List W}(ok:Ok ρ s a w0 w R h F)(hl:L.length=s.dp)(hd:(LH P aN s o f args K).den P post L ρ)
 (hx:(execOp a.eval o).run P w=(callFunc f (args.map (W.den ρ)).toArray).run P w):o.wp P a w (Nx ⟨P,post,w0,F,ρ,R,L⟩ K) Q:=by
 unfold LH at hd
 split at hd
 ·exact hd.elim
 rename_i fn hfn
 split at hd
 ·exact hd.elim
 simp only at hd
 split at hd
 ·exact hd.elim
 rename_i p7
 simp only[Bool.not_eq_true',Bool.not_eq_false]at p7
 split at hd
 ·rename_i hb
  simp only[Bool.and_eq_true,decide_eq_true_eq,Nat.blt_eq]at hb
  obtain⟨⟨⟨⟨hb,LQ⟩,hname⟩,hn1⟩,hn2⟩:=hb
  have e7:(callFunc f (args.map (W.den ρ)).toArray).run P w=.ok (.enter f (args.map (W.den ρ)).toArray) w:=by
   have hnb:fn.body.isNone=false:=by cases hq:fn.body<;>simp_all
   have hnn:(fn.name== "runtime.NumGoroutine")=false:=by simpa using hname
   simp only[callFunc,program,Sem.run_bind,Sem.run,Result.andThen_ok,hfn,hnn,hnb,Bool.false_eq_true,if_false]
   rfl
  unfold Oper.wp
  rw[hx,e7,Oper.upon_enter]
  obtain⟨h1,h2,s1,d1,p1,p2⟩:=ok.hand (λx=>(gB s.h s.lk 60 (args.flatMap λx=>x.list.flatMap d7) []).contains x.1)
  split at hd
  ·refine(hd w R h1 _ s1 (ki p7 p1)).mono λe w' ⟨v,he,sm,R',lC,lR,s2,hB⟩=>?_
   obtain⟨xs,nq,hv,hk,hnb⟩:=lV hB
   subst he
   simp only
   rw[hv]
   refine⟨_,_,R',lC.un h2,L,List.prefix_append ρ xs,lR,List.suffix_refl _,?_,ok.back (lk:=oY aN f args (shR P aN true s.n fn.resultTypes.toList).v++s.lk) hb sm s2 d1 lR (hn1.trans (by rw[nq])) (λx hx=>(List.mem_filter.1 hx).1) p2 hnb o.dst _,hk⟩
   cases o.dst<;>exact hl
  ·refine(hd w R h1 _ s1 (ki p7 p1)).mono λe w' ⟨v,he,sm,R',lC,lR,s2,hB⟩=>?_
   obtain⟨xs,nq,hv,hk,hnb⟩:=lV hB
   subst he
   simp only
   rw[hv]
   refine⟨_,_,R',lC.un h2,L,List.prefix_append ρ xs,lR,List.suffix_refl _,?_,ok.back (lk:=oY aN f args (shR P aN true s.n fn.resultTypes.toList).v++s.lk) hb sm s2 d1 lR (hn2.trans (by rw[nq])) (λx hx=>(List.mem_filter.1 hx).1) p2 hnb o.dst _,hk⟩
   cases o.dst<;>exact hl
 ·exact hd.elim
end
theorem tG{v:Value}{x:W}(h:CN v=some x)(ρ:bp):v.cells=(x.list.map (A.den ρ)).toArray:=by
 rw[<-yR h ρ,W.cells]
theorem C6{P:Program}{w:World}{t:TypeId}{l:List A}(h:tE P t=some l)(ρ:bp):∃v,(zeroValue t).run P w=.ok v w/\v.cells=(l.map (A.den ρ)).toArray:=by
 unfold tE at h
 split at h
 ·rename_i i hi
  split at h
  ·rename_i v hv
   simp only[Option.map_eq_some_iff]at h
   obtain⟨x,hx,rfl⟩:=h
   exact⟨v,by simp only[zeroValue,Sem.run_bind,run_typeInfo hi,Result.andThen_ok,hv,Sem.run_pure],tG hx ρ⟩
  ·cases h
 ·cases h
theorem vK{P:Program}{w:World}(t:TypeId)(v:Value):(newVar t v).run P w=.ok ⟨w.heap.size,0,none⟩ (w.alloc (.cells v.cells t)):=by
 simp only[newVar,newRow,newObj,Sem.run_bind,Sem.run,Result.andThen_ok,Sem.run_pure]
 rfl
theorem As.ZB{ρ:bp}{l:List A}{n:Nat}(hn:ρ.length=n)(h:l.all (A.dK n)=true)(x:bp):(l.map (A.den (ρ++x))).toArray=(l.map (A.den ρ)).toArray:=by
 subst hn;rw[As.app h]
theorem RI(vs:List Value):∀(k off:Nat) (cs:Array Value),off+k+vs.length<=cs.size->
 ((vs.zipIdx k).foldl (λcs (x:Value×Nat)=>cs.setIfInBounds (off+x.2) x.1) cs).toList=cs.toList.take (off+k)++vs++cs.toList.drop (off+k+vs.length):=by
 induction vs with
 |nil=>intro k off cs _;simp
 |cons v r ih=>
  intro k off cs h
  simp only[List.length_cons]at h
  rw[List.zipIdx_cons,List.foldl_cons,ih (k+1) off _ (by simp;omega)]
  apply List.ext_getElem?
  intro i
  simp only[Array.toList_setIfInBounds,List.getElem?_append,List.length_append,List.length_take,List.length_set,Array.length_toList,List.getElem?_take,List.getElem?_drop,List.length_cons,List.getElem?_set]
  have e1:min (off+(k+1)) cs.size=off+k+1:=by omega
  have e2:min (off+k) cs.size=off+k:=by omega
  rw[e1,e2]
  by_cases c1:i<off+k
  ·simp only[show i<off+k+1 from by omega,show i<off+k+1+r.length from by omega,show i<off+k+(r.length+1)from by omega,show i<off+(k+1)from by omega,c1,if_true,show ¬off+k=i from by omega,if_false]
  ·by_cases c2:i=off+k
   ·subst c2
    simp[show off+k<cs.size from by omega]
    omega
   ·by_cases c3:i<off+k+1+r.length
    ·simp only[show ¬i<off+k+1 from by omega,c3,show i<off+k+(r.length+1)from by omega,c1,if_true,if_false]
     rw[show i - (off+k)=(i - (off+k+1))+1 from by omega,List.getElem?_cons_succ]
    ·simp only[c3,show ¬i<off+k+(r.length+1)from by omega,if_false]
     rw[if_neg (by omega)]
     congr 1
     omega
theorem qS{ρ:bp}{place:Nat->Option (Nat×Nat)}:∀ {ps:List (Nat×W)} {cells l:List A},yL place cells ps=some l->
 Instr.fill place (cells.map (A.den ρ)).toArray (ps.map λx=>(x.1,x.2.den ρ))=some (l.map (A.den ρ)).toArray
 |[],cells,l,h=>by cases h;rfl
 |(i,x)::r,cells,l,h=>by
  simp only[yL]at h
  simp only[List.map_cons,Instr.fill]
  split at h
  ·cases h
  ·rename_i off size hp
   rw[hp]
   simp only
   split at h
   ·cases h
   ·rename_i hc
    simp only[ne_eq,Bool.or_eq_true,decide_eq_true_eq,not_or,Decidable.not_not,Nat.not_lt]at hc
    have hs:(x.den ρ).cells.size=size:=by rw[W.cells];simp[hc.1]
    rw[if_neg (by rw[hs];simp only[ne_eq,not_true_eq_false,decide_false,Bool.false_or,decide_eq_true_eq,List.size_toArray,List.length_map,Nat.not_lt];rw[hc.1]at hc;exact hc.2)]
    rw[<-qS h]
    congr 1
    rw[W.cells]
    apply Array.toList_inj.1
    have hz:((x.list.map (A.den ρ)).toArray.zipIdx).toList=(x.list.map (A.den ρ)).zipIdx:=by simp
    rw[<-Array.foldl_toList,hz]
    rw[RI _ 0 off _ (by simp;exact hc.2)]
    simp[List.map_take,List.map_drop]
theorem nR{ρ:bp}{s:S}{a:Act}(tm:Tm ρ s.t a):∀ {l:List (Nat×Operand)} {ps:List (Nat×W)},partsOf s l=some ps->l.map (λx=>(x.1,a.eval x.2))=ps.map λx=>(x.1,x.2.den ρ)
 |[],ps,h=>by cases h;rfl
 |(i,x)::r,ps,h=>by
  unfold partsOf at h
  simp only[mapM']at h
  split at h
  ·rename_i y hy
   split at h
   ·rename_i q hq
    cases h
    simp only[Option.map_eq_some_iff]at hy
    obtain⟨u,hu,rfl⟩:=hy
    simp only[List.map_cons,qO tm hu]
    rw[nR tm (show partsOf s r=some q from hq)]
   ·cases h
  ·cases h
section
variable {P:Program}{post:Value->HP}{w0 w:World}{F R h:PH}{ρ:bp}{L:List (bp->Prop)}{s:S}{a:Act}{aN:gA}{o:Oper}{K:S->T}{Q:Exit->Act->World->Prop}
theorem jB{v:Value}{w':World}{nx:Act->World->Prop}(hr:(execOp a.eval o).run P w=.ok (.value v) w')(h:nx (a.put o.dst v) w'):o.wp P a w nx Q:=by
 unfold Oper.wp;rw[hr];exact h
theorem RJ{w':World}{nx:Act->World->Prop}(hr:(execOp a.eval o).run P w=.ok .skip w')(h:nx (a.put o.dst undef) w'):o.wp P a w nx Q:=by
 unfold Oper.wp;rw[hr];exact h
theorem lD(s:S)(d:Option Tmp)(v:V):(s.put d v).dp=s.dp:=by cases d<;>rfl
theorem p8{d:Option Tmp}{l:List A}{ty:TypeId}{v:BR->A}(ok:Ok ρ s a w0 w R h F)(hl:L.length=s.dp)(hd:(CR s d (.cells l ty) v K).den P post L ρ)
 (vv:Nat->Value) (hv:∀x:Nat,(v (.v s.n)).den (ρ++[.n x])=vv x):
 Nx ⟨P,post,w0,F,ρ,R,L⟩ K (a.put d (vv w.heap.size)) (w.alloc (.cells (l.map (A.den ρ)).toArray ty)):=by
 have sf:=hd
 unfold CR at sf
 split at sf
 ·rename_i hb
  simp only[Bool.and_eq_true]at hb
  refine LP ok hl hd _ (λx=>?_) vv hv
  simp only[dB,BR.den]
  rw[<-ok.len,kO,As.ZB ok.len hb.2]
  rfl
 ·exact sf.elim
theorem RK{r:BR}{l:List A}{ty:TypeId}{off:Nat}{t:TypeId}{x:W}(ok:Ok ρ s a w0 w R h F)(hw:x.list.length=gr P t)(hi:(P.info? t).isSome=true)(ho:off+x.list.length<=l.length)
 (hu:(s.h.filter λx=>decide (x.1=.b r))=[(.b r,.cells l ty)]):
 ∃w' h',(Instr.storeAt t (.pointer (some ⟨r.den ρ,off,none⟩)) (x.den ρ)).run P w=.ok () w'/\
  Ok ρ {s with h:=(.b r,.cells (l.take off++x.list++l.drop (off+x.list.length)) ty)::ab7 s.h (.b r)} a w0 w' R h' F:=by
 obtain⟨h1,h2,d,l1,l2,a1,a2⟩:=jy (λx=>decide (x.1=Key.b r)) ok.hp
 rw[hu]at a1
 have e1:h1 (r.den ρ)=some (.cells (l.map (A.den ρ)).toArray ty (0,0)):=a1
 have eh:=l1 _ _ e1
 have ew:=ok.nP.oh _ _ eh
 obtain⟨AZ,Ir⟩:=Option.isSome_iff_exists.1 hi
 have hst:=run_storeCells_at (P:=P) (r.den ρ) off ty (x.list.map (A.den ρ)) 0 (l.map (A.den ρ)).toArray w ew (by simpa using ho) (λv hv=>by
  obtain⟨y,_,rfl⟩:=List.mem_map.1 hv;exact A.one ρ y)
 simp only[Nat.add_zero,List.length_map]at hst
 have e7:(Instr.storeAt t (.pointer (some ⟨r.den ρ,off,none⟩)) (x.den ρ)).run P w=.ok () (w.setRow (r.den ρ) ((l.take off++x.list++l.drop (off+x.list.length)).map (A.den ρ)).toArray):=by
  simp only[Instr.storeAt,Instr.sureAddr,Sem.run_bind,Sem.run_pure,Result.andThen_ok,storeVar,run_sizeOf Ir,W.cells,List.size_toArray,List.length_map,hw,ne_eq,not_true_eq_false,if_false,hst]
  congr 2
  simp[List.map_take,List.map_drop]
 have s2:=ok.nP.aY (w':=w.setRow (r.den ρ) ((l.take off++x.list++l.drop (off+x.list.length)).map (A.den ρ)).toArray) (y:=.cells ((l.take off++x.list++l.drop (off+x.list.length)).map (A.den ρ)).toArray ty (0,0)) eh
  (λk hk=>setRow_other w _ k _ hk) (setRow_heap w _ _ _ ty (0,0) ew)
 refine⟨_,_,e7,⟨ok.nJ,ok.tm,ok.len,ok.kn,?_,s2,ok.same.trans ⟨rfl,rfl,rfl,by simp⟩⟩⟩
 refine(bA _ _ _ _ _).2 ⟨PH.one (r.den ρ) (.cells ((l.take off++x.list++l.drop (off+x.list.length)).map (A.den ρ)).toArray ty (0,0)),h2,λk=>?_,λk o e=>?_,λk o e=>?_,PH.cW _ _,a2⟩
 ·by_cases e:k=r.den ρ
  ·subst e
   exact .inr ((d _).resolve_left (by rw[e1];simp))
  ·exact .inl (if_neg e)
 ·obtain⟨rfl,rfl⟩:=PH.lP e;exact if_pos rfl
 ·have hne:k≠r.den ρ:=λe'=>by
   subst e'
   rcases d (r.den ρ)with e'|e'
   ·rw[e1]at e';cases e'
   ·rw[e]at e';cases e'
  simp only[hne,if_false]
  exact l2 k o e
theorem C7{t:TypeId}{ad x:Operand}(ok:Ok ρ s a w0 w R h F)(hl:L.length=s.dp)(ho:o.op=.store t ad x)(hd:(vw P aN s o t ad x K).den P post L ρ):
 o.wp P a w (Nx ⟨P,post,w0,F,ρ,R,L⟩ K) Q:=by
 unfold vw at hd
 split at hd
 ·rename_i r off y hx hy
  split at hd
  ·rename_i l ty hf
   split at hd
   ·rename_i hc
    obtain⟨w',h',hr,lE⟩:=RK ok hc.1 hc.2.1 hc.2.2.1 hc.2.2.2
    refine RJ (w':=w') ?_ ?_
    ·simp only[execOp,ho,bF ok.tm hx,A.den,qO ok.tm hy,Sem.run_bind,hr,Result.andThen_ok,Sem.run_pure]
    ·exact⟨ρ,_,R,h',L,List.prefix_refl _,PH.le.refl _,List.suffix_refl _,by rw[lD];exact hl,lE.put o.dst (.au []),hd⟩
   ·exact hd.elim
  ·exact nQ ok hl hd
 ·exact nQ ok hl hd
theorem It{c x y:Operand}(ok:Ok ρ s a w0 w R h F)(hl:L.length=s.dp)(ho:o.op=.pick c x y)(hd:(AU s o c x y K).den P post L ρ):
 o.wp P a w (Nx ⟨P,post,w0,F,ρ,R,L⟩ K) Q:=by
 unfold AU at hd
 split at hd
 ·rename_i e hc
  have Yj:=bF ok.tm hc
  obtain⟨kn,lE,h1⟩:=A1 ok hd
  rcases h1 with⟨he,h1⟩|⟨he,h1⟩
  ·split at h1
   ·rename_i v hv
    refine jB (v:=v.den ρ) (w':=w) ?_ ?_
    ·simp only[execOp,ho,Yj,A.den,asBool,Sem.run_bind,Sem.run_pure,Result.andThen_ok,he,if_true]
     rw[gG lE.tm hv]
    ·exact⟨ρ,_,R,h,L,List.prefix_refl _,PH.le.refl _,List.suffix_refl _,by rw[lD];exact hl,lE.put o.dst v,h1⟩
   ·exact h1.elim
  ·split at h1
   ·rename_i v hv
    refine jB (v:=v.den ρ) (w':=w) ?_ ?_
    ·simp only[execOp,ho,Yj,A.den,asBool,Sem.run_bind,Sem.run_pure,Result.andThen_ok,he,Bool.false_eq_true,if_false]
     rw[gG lE.tm hv]
    ·exact⟨ρ,_,R,h,L,List.prefix_refl _,PH.le.refl _,List.suffix_refl _,by rw[lD];exact hl,lE.put o.dst v,h1⟩
   ·exact h1.elim
 ·exact hd.elim
theorem Og{fs:List Field}(hi:∀f∈fs,(P.info? f.type).isSome=true):fs.mapM (λf=>(P.info? f.type).map λi=>(f.offset,i.size))=some (fs.map λf=>(f.offset,gr P f.type)):=by
 induction fs with
 |nil=>rfl
 |cons f r ih=>
  obtain⟨i,LR⟩:=Option.isSome_iff_exists.1 (hi f (List.mem_cons_self ..))
  simp[List.mapM_cons,LR,ih λg hg=>hi g (List.mem_cons_of_mem _ hg),gr]
theorem vL{t:TypeId}{l:List A}(h:tE P t=some l)(ρ:bp):∃i v,P.info? t=some i/\i.zero=some v/\v.cells=(l.map (A.den ρ)).toArray:=by
 unfold tE at h
 split at h
 ·rename_i i hi
  split at h
  ·rename_i v hv
   simp only[Option.map_eq_some_iff]at h
   obtain⟨x,hx,rfl⟩:=h
   exact⟨i,v,hi,hv,tG hx ρ⟩
  ·cases h
 ·cases h
theorem C8{t:TypeId}{parts:Array (Nat×Operand)}(ok:Ok ρ s a w0 w R h F)(hl:L.length=s.dp)(ho:o.op=.build t parts)(hd:(vu P s o t parts K).den P post L ρ):
 o.wp P a w (Nx ⟨P,post,w0,F,ρ,R,L⟩ K) Q:=by
 have iW:∀l:List A,P.built t (parts.map λ(i,x)=>(i,a.eval x)).toList=some (l.map (A.den ρ)).toArray->(K (s.put o.dst (.w (.agg l)))).den P post L ρ->o.wp P a w (Nx ⟨P,post,w0,F,ρ,R,L⟩ K) Q:=λl hb hk=>by
  refine jB (v:=(V.w (.agg l)).den ρ) (w':=w) ?_ ⟨ρ,_,R,h,L,List.prefix_refl _,PH.le.refl _,List.suffix_refl _,by rw[lD];exact hl,ok.put o.dst _,hk⟩
  simp only[execOp,ho]
  exact co (run_build w t _ _ hb)
 have RL:∀ps,partsOf s parts.toList=some ps->(parts.map λ(i,x)=>(i,a.eval x)).toList=ps.map λx=>(x.1,x.2.den ρ):=λps hp=>by
  rw[<-nR ok.tm hp];simp
 unfold vu at hd
 split at hd
 ·rename_i fs hu
  split at hd
  ·rename_i z ps hz hp
   split at hd
   ·rename_i hi
    split at hd
    ·rename_i l hf
     refine iW l ?_ hd
     obtain⟨it,v,h1,h2,h3⟩:=vL hz ρ
     unfold Program.built
     rw[h1,hu]
     simp only[h2]
     rw[Og (λf hf=>by
      have:=Array.all_eq_true_iff_forall_mem.1 hi f (by simpa using hf)
      exact this)]
     simp only[h3,RL ps hp]
     rw[<-qS hf]
     congr 1
     funext i
     simp
    ·exact hd.elim
   ·exact hd.elim
  ·exact hd.elim
 ·rename_i n el hu
  split at hd
  ·rename_i z ps hz hp
   split at hd
   ·rename_i hi
    split at hd
    ·rename_i l hf
     refine iW l ?_ hd
     obtain⟨it,v,h1,h2,h3⟩:=vL hz ρ
     obtain⟨ie,hie⟩:=Option.isSome_iff_exists.1 hi
     unfold Program.built
     rw[h1,hu]
     simp only[h2,hie]
     simp only[h3,RL ps hp]
     rw[<-qS hf]
     simp only[gr,hie]
    ·exact hd.elim
   ·exact hd.elim
  ·exact hd.elim
 ·exact hd.elim
theorem RM{α:Type}[Inhabited α](z:List α)(n:Nat):∀i,i<n*z.length->(ux n z)[i]? =some (z[i%z.length]!):=by
 induction n with
 |zero=>intro i hi;simp at hi
 |succ n ih=>
  intro i hi
  simp only[ux]
  by_cases h:i<z.length
  ·rw[List.getElem?_append_left h,Nat.mod_eq_of_lt h]
   simp[h]
  ·have hz:0<z.length:=by
    rcases Nat.eq_zero_or_pos z.length with e|e
    ·rw[e]at hi;simp at hi
    ·exact e
   rw[List.getElem?_append_right (by omega),ih (i - z.length) (by rw[Nat.succ_mul]at hi;omega)]
   rw[show i%z.length=(i - z.length)%z.length by rw[Nat.mod_eq_sub_mod (by omega)]]
theorem tH{α:Type}(z:List α)(n:Nat):(ux n z).length=n*z.length:=by
 induction n with
 |zero=>simp[ux]
 |succ n ih=>simp[ux,ih,Nat.succ_mul];omega
theorem ZC(z:List Value)(n:Nat):(ux n z).toArray=(Array.range (n*z.length)).map (z.toArray[· %z.toArray.size]!):=by
 apply Array.ext_getElem?
 intro i
 by_cases h:i<n*z.length
 ·rw[List.getElem?_toArray,RM z n i h]
  simp[h]
 ·rw[List.getElem?_toArray,List.getElem?_eq_none (by rw[tH];omega),Array.getElem?_eq_none (by simpa using h)]
theorem RN{α β:Type}(f:α->β)(z:List α)(n:Nat):(ux n z).map f=ux n (z.map f):=by
 induction n with
 |zero=>rfl
 |succ n ih=>simp[ux,ih]
theorem C9{t:TypeId}{len:Nat}{parts:Array (Nat×Operand)}(ok:Ok ρ s a w0 w R h F)(hl:L.length=s.dp)(ho:o.op=.buildSlice t len parts)(hd:(vr P s o t len parts K).den P post L ρ):
 o.wp P a w (Nx ⟨P,post,w0,F,ρ,R,L⟩ K) Q:=by
 unfold vr at hd
 split at hd
 ·rename_i el hu
  split at hd
  ·rename_i z ps hz hp
   split at hd
   ·rename_i hi
    obtain⟨hi,ZD⟩:=hi
    obtain⟨ie,hie⟩:=Option.isSome_iff_exists.1 hi
    split at hd
    ·rename_i l hf
     split at hd
     ·rename_i hle
      have hn:=p8 ok hl hd (λx=>.slice (some ⟨x,0,none⟩) len len) (λx=>by
       simp only[A.den,SA.den,BR.den,E.den,aP.dP]
       rw[<-ok.len,kO];rfl)
      refine jB (v:=.slice (some ⟨w.heap.size,0,none⟩) len len) (w':=w.alloc (.cells (l.map (A.den ρ)).toArray el)) ?_ hn
      simp only[execOp,ho]
      rw[Sem.run_bind]
      have hpd:(parts.map λ(x:Nat×Operand)=>(x.1,a.eval x.2)).toList=ps.map λx=>(x.1,x.2.den ρ):=by
       rw[<-nR ok.tm hp];simp
      have Yl:=qS (ρ:=ρ) hf
      have afV:¬len*gr P el>2^24:=by simpa using hle
      have LS:∀c:Array Value,(newRow el c).run P w=.ok ⟨w.heap.size,0,none⟩ (w.alloc (.cells c el)):=λc=>by
       simp only[newRow,newObj,Sem.run_bind,Sem.run,Result.andThen_ok,Sem.run_pure];rfl
      have e7:(Instr.buildSlice t len (parts.map λ(x:Nat×Operand)=>(x.1,a.eval x.2))).run P w=.ok (.slice (some ⟨w.heap.size,0,none⟩) len len) (w.alloc (.cells (l.map (A.den ρ)).toArray el)):=by
       by_cases h0:len*gr P el=0
       ·rw[if_pos h0]at hz
        cases hz
        have afW:(ux len ([]:List A))=[]:=by
         apply List.eq_nil_of_length_eq_zero;rw[tH];simp
        rw[afW]at Yl
        simp only[Instr.buildSlice,Sem.run_bind,run_underlying hu,Result.andThen_ok,run_sizeOf hie,h0,gt_iff_lt,Nat.not_lt_zero,if_false,if_true,Sem.run_pure,hpd]
        have e0:(Array.range 0).map (λi=>(#[]:Array Value)[i%(#[]:Array Value).size]!)= #[]:=by simp
        rw[e0]
        simp only[List.map_nil]at Yl
        rw[Yl]
        simp only[Sem.run_bind,LS,Result.andThen_ok,Sem.run_pure]
       ·rw[if_neg h0]at hz
        obtain⟨v,hzr,hzc⟩:=C6 (P:=P) (w:=w) hz ρ
        have afZ:z.length=gr P el:=ZD.resolve_left h0
        rw[RN,ZC,List.length_map,afZ]at Yl
        simp only[Instr.buildSlice,Sem.run_bind,run_underlying hu,Result.andThen_ok,run_sizeOf hie,h0,afV,if_false,hzr,Sem.run_pure,hpd,hzc]
        rw[Yl]
        simp only[Sem.run_bind,LS,Result.andThen_ok,Sem.run_pure]
      rw[e7]
      rfl
     ·exact hd.elim
    ·exact hd.elim
   ·exact hd.elim
  ·exact hd.elim
 ·exact hd.elim
theorem Iu{c:Call}(ok:Ok ρ s a w0 w R h F)(hl:L.length=s.dp)(ho:o.op=.call c)(hd:(AT P aN s o c K).den P post L ρ):o.wp P a w (Nx ⟨P,post,w0,F,ρ,R,L⟩ K) Q:=by
 have vM:∀ws,mapM' (Lx s) c.args.toList=some ws->c.args.map a.eval=(ws.map (W.den ρ)).toArray:=λws hw=>by
  rw[<-qR ok.tm hw];cases c.args;simp
 unfold AT at hd
 split at hd
 ·rename_i f hc
  split at hd
  ·rename_i ws hw
   split at hd
   ·rename_i fn hfn
    split at hd
    ·refine C5 ok hl hd ?_
     simp only[execOp,ho,resolve,hc,vM ws hw,Sem.run_bind,Act.eval,Deferred.ofValue,Sem.run_pure,Result.andThen_ok,invoke]
     simp
    ·exact nQ ok hl hd
   ·exact hd.elim
  ·exact hd.elim
 ·rename_i x hx hc
  split at hd
  ·rename_i f cs ws hf hw
   refine C5 ok hl hd ?_
   simp only[execOp,ho,resolve,hc,vM ws hw,Sem.run_bind,bF ok.tm hf,A.den,Deferred.ofValue,Sem.run_pure,Result.andThen_ok,invoke]
   congr 2
   simp only[List.map_append,List.map_map]
   apply Array.toList_inj.1
   simp
   intro p r _
   rfl
  ·exact hd.elim
 ·exact nQ ok hl hd
theorem RO(ok:Ok ρ s a w0 w R h F)(hl:L.length=s.dp)(hd:(Rh P aN s o K).den P post L ρ):o.wp P a w (Nx ⟨P,post,w0,F,ρ,R,L⟩ K) Q:=by
 unfold Rh at hd
 split at hd
 ·rename_i e ho
  split at hd
  ·rename_i l hz
   have hn:=p8 ok hl hd (λx=>.pointer (some ⟨x,0,none⟩)) (λx=>by
    simp only[A.den,BR.den]
    rw[<-ok.len,kO];rfl)
   refine jB (v:=.pointer (some ⟨w.heap.size,0,none⟩)) ?_ hn
   obtain⟨v,hzr,hzc⟩:=C6 (P:=P) (w:=w) hz ρ
   simp only[execOp,ho,Instr.alloc,Sem.run_bind,hzr,Result.andThen_ok,vK,hzc,Sem.run_pure]
  ·exact hd.elim
 ·rename_i e x ho
  split at hd
  ·rename_i y hy
   have hn:=p8 ok hl hd (λx=>.pointer (some ⟨x,0,none⟩)) (λx=>by
    simp only[A.den,BR.den]
    rw[<-ok.len,kO];rfl)
   refine jB (v:=.pointer (some ⟨w.heap.size,0,none⟩)) ?_ hn
   simp only[execOp,ho,Instr.box,Sem.run_bind,qO ok.tm hy,vK,W.cells,Result.andThen_ok,Sem.run_pure]
  ·exact hd.elim
 ·rename_i t ho
  have hn:=LP ok hl hd (.map #[] 0) (λx=>by
   simp only[dB,BR.den]
   rw[<-ok.len,kO];rfl) (λx=>.map (some x)) (λx=>by
    simp only[A.den,BR.den]
    rw[<-ok.len,kO];rfl)
  refine jB (v:=.map (some w.heap.size)) ?_ hn
  simp only[execOp,ho,Option.map_none,Instr.makeMap,newObj,Sem.run_bind,Sem.run,Result.andThen_ok,Sem.run_pure]
  rfl
 ·rename_i t parts ho;exact C8 ok hl ho hd
 ·rename_i t len parts ho;exact C9 ok hl ho hd
 ·rename_i t ad x ho;exact C7 ok hl ho hd
 ·rename_i c x y ho;exact It ok hl ho hd
 ·rename_i c ho;exact Iu ok hl ho hd
 ·exact nQ ok hl hd
theorem RP(ok:Ok ρ s a w0 w R h F)(hl:L.length=s.dp)(hd:(Ri P aN s o K).den P post L ρ):o.wp P a w (Nx ⟨P,post,w0,F,ρ,R,L⟩ K) Q:=by
 unfold Ri at hd
 split at hd
 ·rename_i es v hp
  obtain⟨kn,lE,xX,hk⟩:=C1 ok hd
  exact jB (vJ hp ok.tm ok.kn ⟨R,h,F,ok.nP,ok.hp⟩ xX) ⟨ρ,_,R,h,L,List.prefix_refl _,PH.le.refl _,List.suffix_refl _,by rw[lD];exact hl,lE.put o.dst v,hk⟩
 ·exact RO ok hl hd
end
section
variable {P:Program}{post:Value->HP}{w0 w:World}{F R h:PH}{ρ:bp}{L:List (bp->Prop)}{s:S}{a:Act}{aN:gA}{Q:Exit->Act->World->Prop}{ops:Array Oper}
theorem Wb(tm:Tm ρ s.t a){d:Tmp}{x:A}(h:kL s (.tmp d)=some x):a.tmps[d]? =some (x.den ρ):=by
 unfold kL at h
 split at h
 ·rename_i y hy
  cases h
  simp only[ev]at hy
  split at hy
  ·rename_i o ho
   subst hy
   exact tm.2 d _ ho
  ·cases hy
 ·cases h
theorem sw{o:Oper}{run skip:S->T}(ok:Ok ρ s a w0 w R h F)(hd:(vx ops s o run skip).den P post L ρ):
 ∃kn,Ok ρ {s with kn:=kn} a w0 w R h F/\((Region.wanted o (yielded ops a.tmps)=true/\(run {s with kn:=kn}).den P post L ρ)\/(Region.wanted o (yielded ops a.tmps)=false/\(skip {s with kn:=kn}).den P post L ρ)):=by
 unfold vx at hd
 split at hd
 ·rename_i hg
  exact⟨s.kn,ok,.inl ⟨by simp[Region.wanted,hg],hd⟩⟩
 ·rename_i j N8 hg
  split at hd
  ·exact hd.elim
  ·rename_i d hj
   split at hd
   ·rename_i yU
    have ht:=ok.tm.2 d _ yU
    have hy:yielded ops a.tmps j=none:=by
     unfold yielded
     rw[hj]
     simp only[Option.bind_some,ht,V.den,List.map_nil]
    refine⟨s.kn,ok,.inr ⟨?_,hd⟩⟩
    simp only[Region.wanted,hg,hy]
    rfl
   ·split at hd
    ·rename_i e he
     obtain⟨kn,lE,hh⟩:=A1 ok hd
     have ht:=Wb ok.tm he
     have hy:yielded ops a.tmps j=some (e.den ρ).bool:=by
      unfold yielded
      rw[hj]
      simp only[Option.bind_some,ht,A.den]
     refine⟨kn,lE,?_⟩
     simp only[Region.wanted,hg,hy]
     rcases hh with⟨hb,hh⟩|⟨hb,hh⟩<;>rw[hb]<;>cases N8<;>simp only[if_true,Bool.false_eq_true,if_false]at hh
     ·exact .inr ⟨rfl,hh⟩
     ·exact .inl ⟨rfl,hh⟩
     ·exact .inl ⟨rfl,hh⟩
     ·exact .inr ⟨rfl,hh⟩
    ·exact hd.elim
theorem Nx.up{K:S->T}{ρ':bp}{R':PH}{L':List (bp->Prop)}{a':Act}{w':World}(p1:ρ<+:ρ')(p2:R.le R')(p3:L<:+L')(n:Nx ⟨P,post,w0,F,ρ',R',L'⟩ K a' w'):Nx ⟨P,post,w0,F,ρ,R,L⟩ K a' w':=
 n.mono rfl rfl rfl rfl p1 p2 p3 λ_=>rfl
def WF(Fr:Fence):Prop:=Fr=Fence.wide\/∃l,Fr=Fence.wide.inRound l
theorem WF.fn{Fr:Fence}(h:WF Fr)(f:FuncId):Fr.fn f:=by rcases h with rfl|⟨l,rfl⟩<;>trivial
theorem WF.dep{Fr:Fence}(h:WF Fr):Fr.depth.isSome=true->1<=0:=by rcases h with rfl|⟨l,rfl⟩<;>(intro h;cases h)
theorem WF.calls{Fr:Fence}(h:WF Fr){n:Nat}{f:FuncId}{args:Array Value}{w:World}{Z:Ending->World->Prop}(c:Calls P f args w Z):CallsIn Fr n P f args w Z:=by
 have c':CallsIn Fence.wide n P f args w Z:=callsIn_wide.2 c
 rcases h with rfl|⟨l,rfl⟩
 ·exact c'
 ·exact c'
theorem WF.rows{Fr:Fence}(h:WF Fr){n:Nat}{row:String}{args:Array Value}{w:World}{Z:Value->World->Prop}(c:Rows P row args w Z):RowsIn Fr n P row args w Z:=by
 have c':RowsIn Fence.wide n P row args w Z:=λfr cs _=>let⟨v,w',r,s⟩:=c fr cs;⟨v,w',r,stepsIn_wide.2 s⟩
 rcases h with rfl|⟨l,rfl⟩
 ·exact c'
 ·exact c'
theorem WF.round{Fr:Fence}(h:WF Fr){n l:Nat}{f:FuncId}{tmps:Array Value}{HI body:Code}{w:World}{Z:Ending->World->Prop}(c:RoundIn Fence.wide 0 P l f tmps HI body w Z):RoundIn Fr n P l f tmps HI body w Z:=by
 have c':RoundIn Fence.wide n P l f tmps HI body w Z:=⟨trivial,λfr cs _=>c.2 fr cs (room_wide _)⟩
 rcases h with rfl|⟨l,rfl⟩
 ·exact c'
 ·exact c'
theorem kR{o:Oper}(h:gP o.op=true):∀c,o.op≠.defer c:=λc e=>by rw[e]at h;cases h
theorem af0{Fr:Fence}(wf:WF Fr){o:Oper}(po:gP o.op=true){nx:Act->World->Prop}(h:o.wp P a w nx Q):o.wpIn Fr 0 P a w nx Q:=by
 refine⟨λf _=>wf.fn f,?_⟩
 rw[Oper.semAt_plain Fr _ _ (kR po)]
 unfold Oper.wp at h
 generalize (execOp a.eval o).run P w=r at h⊢
 cases r with
 |ok x w'=>
  cases x<;>simp only[Oper.upon]at h<;>simp only[Oper.uponIn]<;>first
   |exact h
   |exact⟨wf.dep,wf.calls h⟩
   |exact⟨wf.dep,wf.rows h⟩
   |exact h.elim
 |halt x w'=>cases x<;>simp only[Oper.upon]at h<;>simp only[Oper.uponIn]<;>exact h
theorem A2{o:Oper}{v:Nat}{ws:List W}(h:uU s o=some (v,ws)):∃c x,o.op=.call c/\c.callee=.value x/\kL s x=some (.val v)/\mapM' (Lx s) c.args.toList=some ws:=by
 unfold uU at h
 split at h
 ·rename_i c ho
  split at h
  ·rename_i x hc
   split at h
   ·rename_i k q hx hw
    cases h
    exact⟨c,x,ho,hc,hx,hw⟩
   ·cases h
  ·cases h
 ·cases h
theorem iu.op{Fr:Fence}(wf:WF Fr){o:Oper}{c:Call}{x:Operand}{fv:Value}{args:Array Value}{A:HP}{B:Value->HP}(t:iu P fv args A B)(ho:o.op=.call c)(hc:c.callee=.value x)(hx:a.eval x=dZ fv)(vM:c.args.map a.eval=args)
 (s1:Sat w R h F) (p1:A.p R h) {nx:Act->World->Prop} (hn:∀v' w' R' h',Same w w'->R.le R'->Sat w' R' h' F->(B v').p R' h'->nx (a.put o.dst v') w'):o.wpIn Fr 0 P a w nx Q:=by
 refine⟨λf _=>wf.fn f,?_⟩
 rw[Oper.semAt_plain Fr _ _ (λd e=>by rw[ho]at e;cases e)]
 rcases t with⟨f,iw,rfl,⟨fn,hfn,LQ,hname⟩,t⟩|⟨l,rfl,t⟩
 ·have e7:(execOp a.eval o).run P w=.ok (.enter f (args++iw)) w:=by
   simp only[execOp,ho,resolve,hc,vM,Sem.run_bind,hx,dZ,Deferred.ofValue,Sem.run_pure,Result.andThen_ok,invoke,callFunc,program,Sem.run,hfn,hname,LQ,Bool.false_eq_true,if_false,Array.empty_append]
  rw[e7,Oper.uponIn_enter]
  refine⟨wf.dep,wf.calls ((t w R h _ s1 p1).mono λe w' ⟨v',he,sm,R',lC,lR,s2,hB⟩=>?_)⟩
  subst he
  exact hn v' w' R' lC sm lR s2 hB
 ·obtain⟨fn,tmps,HI,body,hy,hr⟩:=t w R h _ s1 p1
  have e7:(execOp a.eval o).run P w=.ok (.round l fn tmps HI body) w:=by
   simp only[execOp,ho,resolve,hc,vM,Sem.run_bind,hx,dZ,Deferred.ofValue,Sem.run_pure,Result.andThen_ok,invoke,Array.empty_append]
   exact hy
  rw[e7,Oper.uponIn_round]
  refine⟨wf.dep,wf.round (hr.mono λe w' ⟨v',he,sm,R',lC,lR,s2,hB⟩=>?_)⟩
  subst he
  exact hn v' w' R' lC sm lR s2 hB
theorem RQ{Fr:Fence}(wf:WF Fr){o:Oper}{K:S->T}{v:Nat}{ws:List W}(hv:uU s o=some (v,ws))(ok:Ok ρ s a w0 w R h F)(hl:L.length=s.dp)(hd:(gC P aN s o v ws K).den P post L ρ):
 o.wpIn Fr 0 P a w (Nx ⟨P,post,w0,F,ρ,R,L⟩ K) Q:=by
 obtain⟨c,x,ho,hc,hx,hw⟩:=A2 hv
 have vM:c.args.map a.eval=(ws.map (W.den ρ)).toArray:=by
  rw[<-qR ok.tm hw];cases c.args;simp
 unfold gC at hd
 simp only at hd
 split at hd
 ·exact hd.elim
 rename_i p7
 simp only[Bool.not_eq_true',Bool.not_eq_false]at p7
 split at hd
 ·rename_i hb
  simp only[Bool.and_eq_true,decide_eq_true_eq,Nat.blt_eq]at hb
  obtain⟨hb,hn⟩:=hb
  obtain⟨h1,h2,s1,d1,p1,p2⟩:=ok.hand (λx=>(gB s.h s.lk 60 (Key.a v::aN.vt++ws.flatMap λx=>x.list.flatMap d7) []).contains x.1)
  refine iu.op wf hd ho hc (bF ok.tm hx) vM s1 (ki p7 p1) λv' w' R' lC sm lR s2 hB=>?_
  obtain⟨xs,nq,HJ,hk,hnb⟩:=lV hB
  rw[HJ]
  refine⟨_,_,R',lC.un h2,L,List.prefix_append ρ xs,lR,List.suffix_refl _,?_,ok.back (lk:=_) hb sm s2 d1 lR (hn.trans (by rw[nq])) (λx hx=>(List.mem_filter.1 hx).1) p2 hnb _ _,hk⟩
  cases o.dst<;>exact hl
 ·exact hd.elim
theorem A3{o:Oper}{v:Nat}{name:String}{ws:List W}(h:uV s o=some (v,name,ws)):∃c x,o.op=.call c/\c.callee=.invoke x name/\kL s x=some (.val v)/\mapM' (Lx s) c.args.toList=some ws:=by
 unfold uV at h
 split at h
 ·rename_i c ho
  split at h
  ·rename_i x nm hc
   split at h
   ·rename_i k q hx hw
    cases h
    exact⟨c,x,ho,hc,hx,hw⟩
   ·cases h
  ·cases h
 ·cases h
theorem Da(x:Value)(l:Array Value):(#[x]++l).extract 1 (#[x]++l).size=l:=by
 apply Array.ext'
 rw[Array.toList_extract]
 simp
 exact List.take_of_length_le (Nat.le_of_eq Array.length_toList)
theorem V1.op{Fr:Fence}(wf:WF Fr){o:Oper}{c:Call}{x:Operand}{fv:Value}{name:String}{args:Array Value}{A:HP}{B:Value->HP}(t:V1 P fv name args A B)(ho:o.op=.call c)(hc:c.callee=.invoke x name)(hx:a.eval x=dZ fv)(vM:c.args.map a.eval=args)
 (s1:Sat w R h F) (p1:A.p R h) {nx:Act->World->Prop} (hn:∀v' w' R' h',Same w w'->R.le R'->Sat w' R' h' F->(B v').p R' h'->nx (a.put o.dst v') w'):o.wpIn Fr 0 P a w nx Q:=by
 refine⟨λf _=>wf.fn f,?_⟩
 rw[Oper.semAt_plain Fr _ _ (λd e=>by rw[ho]at e;cases e)]
 obtain⟨ty,y,f,r,rfl,hm,⟨fn,hfn,LQ,hname⟩,t⟩:=t
 have e7:(execOp a.eval o).run P w=.ok (.enter f (#[r]++args)) w:=by
  have h0:(#[Value.iface ty y]++args)[0]? =some (.iface ty y):=by rw[Array.getElem?_append_left (by simp)];rfl
  simp only[execOp,ho,resolve,hc,vM,Sem.run_bind,hx,dZ,Sem.run_pure,Result.andThen_ok,invoke,h0,Da,callMethod,program,Sem.run,hm,callFunc,hfn,hname,LQ,Bool.false_eq_true,if_false]
 rw[e7,Oper.uponIn_enter]
 refine⟨wf.dep,wf.calls ((t w R h _ s1 p1).mono λe w' ⟨v',he,sm,R',lC,lR,s2,hB⟩=>?_)⟩
 subst he
 exact hn v' w' R' lC sm lR s2 hB
theorem RR{Fr:Fence}(wf:WF Fr){o:Oper}{K:S->T}{v:Nat}{name:String}{ws:List W}(hv:uV s o=some (v,name,ws))(ok:Ok ρ s a w0 w R h F)(hl:L.length=s.dp)(hd:(Rk P aN s o v name ws K).den P post L ρ):
 o.wpIn Fr 0 P a w (Nx ⟨P,post,w0,F,ρ,R,L⟩ K) Q:=by
 obtain⟨c,x,ho,hc,hx,hw⟩:=A3 hv
 have vM:c.args.map a.eval=(ws.map (W.den ρ)).toArray:=by
  rw[<-qR ok.tm hw];cases c.args;simp
 unfold Rk at hd
 simp only at hd
 split at hd
 ·exact hd.elim
 rename_i p7
 simp only[Bool.not_eq_true',Bool.not_eq_false]at p7
 split at hd
 ·rename_i hb
  simp only[Bool.and_eq_true,decide_eq_true_eq,Nat.blt_eq]at hb
  obtain⟨hb,hn⟩:=hb
  obtain⟨h1,h2,s1,d1,p1,p2⟩:=ok.hand (λx=>(gB s.h s.lk 60 (Key.a v::aN.vt++ws.flatMap λx=>x.list.flatMap d7) []).contains x.1)
  refine V1.op wf hd ho hc (bF ok.tm hx) vM s1 (ki p7 p1) λv' w' R' lC sm lR s2 hB=>?_
  obtain⟨xs,nq,HJ,hk,hnb⟩:=lV hB
  rw[HJ]
  refine⟨_,_,R',lC.un h2,L,List.prefix_append ρ xs,lR,List.suffix_refl _,?_,ok.back (lk:=_) hb sm s2 d1 lR (hn.trans (by rw[nq])) (λx hx=>(List.mem_filter.1 hx).1) p2 hnb _ _,hk⟩
  cases o.dst<;>exact hl
 ·exact hd.elim
theorem Db{Fr:Fence}(wf:WF Fr){o:Oper}(po:gP o.op=true){K:S->T}(ok:Ok ρ s a w0 w R h F)(hl:L.length=s.dp)(hd:(LI P aN s o K).den P post L ρ):
 o.wpIn Fr 0 P a w (Nx ⟨P,post,w0,F,ρ,R,L⟩ K) Q:=by
 unfold LI at hd
 split at hd
 ·rename_i v ws hv
  exact RQ wf hv ok hl hd
 ·split at hd
  ·rename_i v name ws hv
   exact RR wf hv ok hl hd
  ·exact af0 wf po (RP ok hl hd)
theorem LU{Fr:Fence}(wf:WF Fr){K:S->T}:∀(l:List Oper),(∀o∈l,gP o.op=true)->∀ {ρ:bp} {s:S} {a:Act} {w:World} {R h:PH} {L:List (bp->Prop)},Ok ρ s a w0 w R h F->L.length=s.dp->(Rl P aN ops l s K).den P post L ρ->
 (∀a w,Nx ⟨P,post,w0,F,ρ,R,L⟩ K a w->Q .normal a w)->wpListIn Fr 0 P ops Q l a w:=by
 intro l
 induction l with
 |nil=>intro _ ρ s a w R h L ok hl hd hQ;exact hQ a w (Nx.mk ok hl hd)
 |cons o r ih=>
  intro po ρ s a w R h L ok hl hd hQ
  obtain⟨kn,lE,hh⟩:=sw ok hd
  simp only[wpListIn]
  rcases hh with⟨hw,hh⟩|⟨hw,hh⟩
  ·rw[if_pos hw]
   refine Oper.wpIn_mono (λa' w' n=>?_) (Db wf (po o (List.mem_cons_self ..)) lE (by exact hl) hh)
   obtain⟨ρ',s',R',h',L',p1,p2,p3,p4,p5,p6⟩:=n
   exact ih (λo ho=>po o (List.mem_cons_of_mem _ ho)) p5 p4 p6 λa'' LV n=>hQ a'' LV (n.up p1 p2 p3)
  ·rw[if_neg (by rw[hw];simp)]
   exact⟨λf _=>wf.fn f,ih (λo ho=>po o (List.mem_cons_of_mem _ ho)) (lE.put o.dst (.au [])) (by rw[lD];exact hl) hh hQ⟩
theorem Dd{f:Nat->T}:∀ {l:List Nat},(Zv f l).den P post L ρ->∀i∈l,(f i).den P post L ρ
 |[],_,i,hi=>by cases hi
 |[x],h,i,hi=>by
  cases hi with
  |head=>exact h
  |tail _ hi=>cases hi
 |x::y::r,h,i,hi=>by
  cases hi with
  |head=>exact h.1
  |tail _ hi=>exact Dd h.2 i hi
theorem nS{tk:List (List Key)}{h0:Hp}{listed:Array Bool}{D:List Nat}:∀ {l:List Nat} {i:Nat} {o:Oper},firstFree P aN ops tk h0 listed s l=some (i,o,D)->i∈l/\ops[i]? =some o/\Region.free .any ops listed i=true/\CS ops listed tk i D=true
 |[],_,_,h=>by cases h
 |x::r,i,o,h=>by
  simp only[firstFree]at h
  split at h
  ·cases h
  ·rename_i o' ho
   have rest:firstFree P aN ops tk h0 listed s r=some (i,o,D)->i∈x::r/\ops[i]? =some o/\Region.free .any ops listed i=true/\CS ops listed tk i D=true:=λh=>by
    obtain⟨h1,h2⟩:=nS h
    exact⟨List.mem_cons_of_mem _ h1,h2⟩
   split at h
   ·rename_i hf
    split at h
    ·rename_i hc
     cases h
     simp only[Bool.and_eq_true]at hc
     exact⟨List.mem_cons_self ..,ho,hf,hc.1⟩
    ·split at h
     ·rename_i hc
      cases h
      simp only[Bool.and_eq_true]at hc
      exact⟨List.mem_cons_self ..,ho,hf,hc.1⟩
     ·exact rest h
   ·exact rest h
theorem yV{Fr:Fence}(wf:WF Fr){Si:World->Prop}{i:Nat}{o:Oper}{v:Value}(hi:ops[i]? =some o)(po:gP o.op=true)(hy:YieldsIf P ops Si o v a)
 {K:Act->World->Prop} (hS:Si w) (h:K (a.put o.dst v) w):wpOpIn Fr 0 P ops Q i K a w:=by
 unfold wpOpIn
 simp only[hi]
 rcases hy with⟨hw,hv⟩|⟨hw,rfl⟩
 ·simp only[hw,if_true]
  refine⟨λf _=>wf.fn f,?_⟩
  rw[Oper.semAt_plain Fr _ _ (kR po),hv w hS]
  simp only[Oper.uponIn]
  exact h
 ·simp only[hw,Bool.false_eq_true,if_false]
  exact⟨λf _=>wf.fn f,h⟩
theorem RT{Fr:Fence}(wf:WF Fr){Si:World->Prop}{j:Nat}{oi oj:Oper}{v:Value}(hj:ops[j]? =some oj)(po:gP oj.op=true)(hap:oi.apart ops oj=true)
 (hsi:∀cs b,oi.op≠.select cs b) (hsj:∀cs b,oj.op≠.select cs b)
 (hQ:∀c a w,Q (.panic c) (a.put oi.dst v) w->Q (.panic c) a w) {K:Act->World->Prop}
 (hy:YieldsIf P ops Si oi v a) (h:wpOpIn Fr 0 P ops Q j K (a.put oi.dst v) w):
 wpOpIn Fr 0 P ops Q j (λa' w'=>YieldsIf P ops Si oi v a'/\K (a'.put oi.dst v) w') a w:=by
 obtain⟨h1,h2,h3⟩:=Oper.apart_spec hap
 have aB:∀(a:Act),YieldsIf P ops Si oi v a->∀u,YieldsIf P ops Si oi v (a.put oj.dst u):=λa hy u=>
  hy.of_same (execOp_put oi hsi a oj.dst u h3) (wanted_put oi a oj.dst u h3)
 unfold wpOpIn at*
 simp only[hj]at*
 rw[wanted_put oj a oi.dst v h1]at h
 split
 ·rename_i hw
  simp only[hw,if_true]at h
  refine⟨λf _=>wf.fn f,?_⟩
  have h:=h.2
  rw[Oper.semAt_plain Fr _ _ (kR po),execOp_put oj hsj a oi.dst v h1]at h
  rw[Oper.semAt_plain Fr _ _ (kR po)]
  generalize (execOp a.eval oj).run P w=r at*
  cases r with
  |ok x w'=>
   cases x<;>simp only[Oper.uponIn]at h⊢
   case value u=>exact⟨aB a hy u,by rw[<-Act.put_comm a v u h2];exact h⟩
   case skip=>exact⟨aB a hy _,by rw[<-Act.put_comm a v undef h2];exact h⟩
   case defer d=>
    refine⟨(hy.of_same rfl rfl:YieldsIf P ops Si oi v {a with defers:=d::a.defers}).of_same (execOp_put oi hsi _ oj.dst _ h3) (wanted_put oi _ oj.dst _ h3),?_⟩
    rw[<-Act.put_comm _ v undef h2,<-Act.put_defers]
    exact h
   case enter f args=>
    refine⟨h.1,CallsIn.mono h.2 λe LV he=>?_⟩
    cases e with
    |returned u=>exact⟨aB a hy u,by rw[<-Act.put_comm a v u h2];exact he⟩
    |panicked c=>exact hQ _ _ _ he
    |outgrown=>exact he
   case row row args=>exact⟨h.1,RowsIn.mono h.2 λu LV he=>⟨aB a hy u,by rw[<-Act.put_comm a v u h2];exact he⟩⟩
   case round l f tmps assign body=>
    refine⟨h.1,RoundIn.mono h.2 λe LV he=>?_⟩
    cases e with
    |returned u=>exact⟨aB a hy u,by rw[<-Act.put_comm a v u h2];exact he⟩
    |panicked c=>exact hQ _ _ _ he
    |outgrown=>exact he
  |halt x w'=>
   cases x<;>simp only[Oper.uponIn]at h⊢
   case panic u=>exact hQ _ _ _ h
 ·rename_i hw
  simp only[hw]at h
  exact⟨λf _=>wf.fn f,aB a hy _,by rw[<-Act.put_comm a v undef h2];exact h.2⟩
def mH(Fr:Fence)(P:Program)(ops:Array Oper)(Q:Exit->Act->World->Prop)(S:Array Bool->World->Prop):Nat->Array Bool->Act->World->Prop
 |0,listed,a,w=>Region.ready .any ops listed=[]/\Q .normal a w
 |fuel+1,listed,a,w=>(Region.ready .any ops listed=[]->Q .normal a w)/\
  ∀i∈Region.ready .any ops listed,wpOpIn Fr 0 P ops Q i (λa' w'=>S (listed.setIfInBounds i true) w'/\mH Fr P ops Q S fuel (listed.setIfInBounds i true) a' w') a w
theorem vN{Fr:Fence}{Sc:Array Bool->World->Prop}:∀(fuel:Nat) (listed:Array Bool) (a:Act) (w:World),mH Fr P ops Q Sc fuel listed a w->wpAnyIn Fr 0 P .any ops Q fuel listed a w
 |0,_,_,_,h=>h
 |fuel+1,_,_,_,h=>⟨h.1,λi hi=>wpOpIn_mono (λa' w' h'=>vN fuel _ a' w' h'.2) (h.2 i hi)⟩
theorem De{Fr:Fence}{Sc:Array Bool->World->Prop}{listed:Array Bool}{a:Act}{w:World}(hr:Region.ready .any ops listed=[])(h:Q .normal a w):∀fuel,mH Fr P ops Q Sc fuel listed a w
 |0=>⟨hr,h⟩
 |_+1=>⟨λ_=>h,by rw[hr];simp⟩
theorem A4{Fr:Fence}(wf:WF Fr)(po:∀o∈ops,gP o.op=true){Sc:Array Bool->World->Prop}{Si:World->Prop}{Inv:Array Bool->Prop}{i:Nat}{oi:Oper}{v:Value}(hi:ops[i]? =some oi)(Of:Region.noSelect ops=true)(hQ:∀c a w,¬Q (.panic c) a w)
 (h1:∀l w,Sc (l.setIfInBounds i true) w->Sc l w) (h2:∀l w,Inv l->Sc l w->Si w) (h3:∀l j,Inv l->i∈Region.ready .any ops l->j∈Region.ready .any ops l->j≠i->Inv (l.setIfInBounds j true)):
 ∀(fuel:Nat) (listed:Array Bool) (a:Act) (w:World),
  (∀j oj,ops[j]? =some oj->j≠i->listed.getD j true=false->(∀e∈oj.after,Region.binds .any e=true->e.on≠i)->oi.apart ops oj=true)->
  i∈Region.ready .any ops listed->Inv listed->YieldsIf P ops Si oi v a->Sc listed w->
  mH Fr P ops Q Sc fuel (listed.setIfInBounds i true) (a.put oi.dst v) w->Sc (listed.setIfInBounds i true) w->mH Fr P ops Q Sc (fuel+1) listed a w:=by
 intro fuel
 induction fuel with
 |zero=>
  intro listed a w _ hr hI hy hS H hSi
  refine⟨λh=>(by rw[h]at hr;cases hr),λj hj=>?_⟩
  by_cases VL:j=i
  ·subst VL;exact yV wf hi (po _ (Array.mem_of_getElem? hi)) hy (h2 _ _ hI hS) ⟨hSi,H⟩
  ·have:=ready_mono hj VL
   rw[H.1]at this
   cases this
 |succ fuel ih=>
  intro listed a w vO hr hI hy hS H hSi
  refine⟨λh=>(by rw[h]at hr;cases hr),λj hj=>?_⟩
  by_cases VL:j=i
  ·subst VL;exact yV wf hi (po _ (Array.mem_of_getElem? hi)) hy (h2 _ _ hI hS) ⟨hSi,H⟩
  ·have hj':=H.2 j (ready_mono hj VL)
   obtain⟨acl,oj,hoj,hall⟩:=mem_ready.1 hj
   have hun:=(mem_ready.1 hr).1
   have af3:∀e∈oj.after,Region.binds .any e=true->e.on≠i:=λe he hb heq=>by
    have q1:=hall e he hb
    rw[heq]at q1
    rcases Nat.lt_or_ge i listed.size with h'|h'
    ·simp[h']at hun q1;rw[hun]at q1;cases q1
    ·simp[Array.getElem?_eq_none h']at q1
   have q2:=RT wf hoj (po _ (Array.mem_of_getElem? hoj)) (vO j oj hoj VL acl af3) (λcs b=>Region.noSelect_spec Of i oi cs b hi) (λcs b=>Region.noSelect_spec Of j oj cs b hoj) (λc a w h=>absurd h (hQ c _ w)) hy hj'
   have ZE:∀k ok,ops[k]? =some ok->k≠i->(listed.setIfInBounds j true).getD k true=false->(∀e∈ok.after,Region.binds .any e=true->e.on≠i)->oi.apart ops ok=true:=λk ok hk hki acm hno=>by
    refine vO k ok hk hki ?_ hno
    by_cases hjk:j=k
    ·subst hjk;exact acl
    ·rw[getD_set_ne true hjk]at acm;exact acm
   refine wpOpIn_mono (λa' w' q3=>?_) q2
   obtain⟨q3,q4,q5⟩:=q3
   rw[Array.setIfInBounds_comm _ _ (Ne.symm VL)]at q4 q5
   exact⟨h1 _ _ q4,ih (listed.setIfInBounds j true) a' w' ZE (ready_mono hr (Ne.symm VL)) (h3 _ _ hI hr hj VL) q3 (h1 _ _ q4) q5 q4⟩
def Kept(ρ:bp)(af5:Hp)(w:World):Prop:=∃R h F,Sat w R h F/\(bg ρ af5).p R h
theorem mI{l:Hp}(q:Key×C->Bool)(h:iC l=true):iC (l.filter q)=true:=by
 induction l with
 |nil=>rfl
 |cons x r ih=>
  simp only[iC,Bool.and_eq_true,Bool.not_eq_true',List.contains_eq_mem,decide_eq_false_iff_not]at h
  rw[List.filter_cons]
  split
  ·simp only[iC,Bool.and_eq_true,Bool.not_eq_true',List.contains_eq_mem,decide_eq_false_iff_not]
   exact⟨λhx=>h.1 (List.mem_filter.1 hx).1,ih h.2⟩
  ·exact ih h.2
theorem Kept.sub{ρ:bp}{l m:Hp}{w:World}(hn:iC m=true)(hs:∀x∈m,x∈l):Kept ρ l w->Kept ρ m w:=λ⟨R,h,F,s,p⟩=>⟨R,h,F,s,lT hn hs p⟩
theorem Iv{tk:List (List Key)}{h0:Hp}{listed:Array Bool}{i:Nat}(hi:tk.getD i []=[]){x:Key×C}(hx:x∈ee ops tk h0 listed):x∈ee ops tk h0 (listed.setIfInBounds i true):=by
 obtain⟨h1,h2⟩:=List.mem_filter.1 hx
 refine List.mem_filter.2 ⟨h1,List.all_eq_true.2 λj hj=>?_⟩
 have:=List.all_eq_true.1 h2 j hj
 by_cases uy:i=j
 ·subst uy;rw[hi];simp
 ·rw[getD_set_ne false uy];exact this
theorem oZ{K:S->T}:∀(l:List Nat) {s:S},Ok ρ s a w0 w R h F->(su ops l s K).den P post L ρ->∃kn,Ok ρ {s with kn:=kn} a w0 w R h F/\(K {s with kn:=kn}).den P post L ρ
 |[],s,ok,hd=>⟨s.kn,ok,hd⟩
 |i::r,s,ok,hd=>by
  simp only[su]at hd
  split at hd
  ·obtain⟨kn,lE,hh⟩:=A1 ok hd
   rcases hh with⟨_,hh⟩|⟨_,hh⟩
   ·obtain⟨kn2,QQ,h2⟩:=oZ r lE hh
    exact⟨kn2,QQ,h2⟩
   ·obtain⟨kn2,QQ,h2⟩:=oZ r lE hh
    exact⟨kn2,QQ,h2⟩
  ·exact oZ r ok hd
set_option maxHeartbeats 800000 in
theorem Wc{Fr:Fence}(wf:WF Fr)(po:∀o∈ops,gP o.op=true){K:S->T}{tk:List (List Key)}{h0:Hp}{ρ0:bp}(hn:iC h0=true)(hb:vg ρ0.length h0=true)(Of:Region.noSelect ops=true)(hp:∀c a w,¬Q (.panic c) a w):
 ∀(fuel:Nat) {listed:Array Bool} {ρ:bp} {s:S} {a:Act} {w:World} {R h:PH} {L:List (bp->Prop)},ρ0<+:ρ->(∀x∈ee ops tk h0 listed,x∈s.h)->Ok ρ s a w0 w R h F->L.length=s.dp->(Ik P aN ops tk h0 fuel listed s K).den P post L ρ->
  (∀a w,Nx ⟨P,post,w0,F,ρ,R,L⟩ K a w->Q .normal a w)->mH Fr P ops Q (λl=>Kept ρ0 (ee ops tk h0 l)) fuel listed a w:=by
 have hbf:∀q:Key×C->Bool,vg ρ0.length (h0.filter q)=true:=λq=>List.all_eq_true.2 λx hx=>List.all_eq_true.1 hb x (List.mem_filter.1 hx).1
 have up:∀ {ρ:bp} {w:World} (q:Key×C->Bool),ρ0<+:ρ->(Kept ρ (h0.filter q) w↔Kept ρ0 (h0.filter q) w):=λq hpre=>by
  obtain⟨x,rfl⟩:=hpre
  unfold Kept
  rw[nN (hbf q)]
 have okk:∀ {ρ:bp} {s:S} {a:Act} {w:World} {R h:PH} {l:Array Bool},ρ0<+:ρ->(∀x∈ee ops tk h0 l,x∈s.h)->Ok ρ s a w0 w R h F->Kept ρ0 (ee ops tk h0 l) w:=λhpre hst ok=>
  (up _ hpre).1 ⟨_,_,_,ok.nP,lT (mI _ hn) hst ok.hp⟩
 intro fuel
 induction fuel with
 |zero=>
  intro listed ρ s a w R h L hpre hst ok hl hd hQ
  simp only[Ik]at hd
  split at hd
  ·rename_i hr;exact⟨hr,hQ a w (Nx.mk ok hl hd)⟩
  ·exact hd.elim
 |succ fuel ih=>
  intro listed ρ s a w R h L hpre hst ok hl hd hQ
  simp only[Ik]at hd
  split at hd
  ·rename_i hr;exact De hr (hQ a w (Nx.mk ok hl hd)) _
  ·rename_i hr
   suffices key:∀ {s:S},(∀x∈ee ops tk h0 listed,x∈s.h)->Ok ρ s a w0 w R h F->L.length=s.dp->(LK P aN ops tk h0 listed (Region.ready .any ops listed) (λl s=>Ik P aN ops tk h0 fuel l s K) s).den P post L ρ->mH Fr P ops Q (λl=>Kept ρ0 (ee ops tk h0 l)) (fuel+1) listed a w by
    split at hd
    ·exact key hst ok hl hd
    ·obtain⟨kn,lE,Df⟩:=oZ _ ok hd
     exact key (s:={s with kn:=kn}) hst lE hl Df
   clear hd hst ok hl s
   intro s hst ok hl hd
   have hS:=okk hpre hst ok
   unfold LK at hd
   split at hd
   ·rename_i i o D hf
    obtain⟨hi,ho,vO,acn⟩:=nS hf
    simp only[CS,Bool.and_eq_true,Bool.not_eq_true',decide_eq_true_eq,Nat.blt_eq]at acn
    obtain⟨⟨hDi,Dg⟩,hD⟩:=acn
    obtain⟨kn,lE,hh⟩:=sw ok hd
    have xY:∀x∈ee ops tk h0 (listed.setIfInBounds i true),x∈s.h:=λx hx=>hst x (by
     obtain⟨q1,q2⟩:=List.mem_filter.1 hx
     refine List.mem_filter.2 ⟨q1,List.all_eq_true.2 λj hj=>?_⟩
     have:=List.all_eq_true.1 q2 j hj
     by_cases uy:i=j
     ·subst uy;rw[Dg];simp
     ·rw[getD_set_ne false uy]at this;exact this)
    have ZF:Kept ρ0 (ee ops tk h0 (listed.setIfInBounds i true)) w:=okk hpre xY ok
    have a1:∀l w,Kept ρ0 (ee ops tk h0 (l.setIfInBounds i true)) w->Kept ρ0 (ee ops tk h0 l) w:=λl w q=>
     Kept.sub (l:=ee ops tk h0 (l.setIfInBounds i true)) (m:=ee ops tk h0 l) (mI _ hn) (λx hx=>Iv Dg hx) q
    have a2:∀l w,(∀j∈D,l.getD j true=false)->Kept ρ0 (ee ops tk h0 l) w->Kept ρ0 (kN ops tk h0 D) w:=λl w hI q=>
     Kept.sub (l:=ee ops tk h0 l) (m:=kN ops tk h0 D) (mI _ hn) (λx hx=>by
      obtain⟨q1,q2⟩:=List.mem_filter.1 hx
      refine List.mem_filter.2 ⟨q1,List.all_eq_true.2 λj hj=>?_⟩
      have q3:=List.all_eq_true.1 q2 j hj
      by_cases hjD:j∈D
      ·have:=hI j hjD
       have e:l.getD j false=false:=by
        cases hq:l[j]? with
        |none=>simp[hq]
        |some b=>simp[hq]at this⊢;exact this
       rw[e];rfl
      ·have:D.contains j=false:=by simpa using hjD
       rw[this]at q3
       simp only[Bool.false_or]at q3
       rw[q3];simp) q
    have a3:∀(l:Array Bool) (j:Nat),(∀j∈D,l.getD j true=false)->i∈Region.ready .any ops l->j∈Region.ready .any ops l->j≠i->(∀k∈D,(l.setIfInBounds j true).getD k true=false):=λl j hI hri hrj VL k hk=>by
     have hne:k≠j:=λe=>by
      subst e
      have VM:=List.all_eq_true.1 hD k hk
      simp only[Bool.and_eq_true]at VM
      obtain⟨_,VM⟩:=VM
      obtain⟨_,oj,hoj,hall⟩:=mem_ready.1 hrj
      rw[hoj]at VM
      simp only[Array.any_eq_true']at VM
      obtain⟨e,he,VM⟩:=VM
      simp only[Bool.and_eq_true,Bool.or_eq_true,beq_iff_eq]at VM
      have q:=hall e he VM.1
      have un:l.getD e.on true=false:=by
       rcases VM.2 with e1|e1
       ·rw[e1];exact(mem_ready.1 hri).1
       ·exact hI e.on (by simpa using e1)
      cases hq:l[e.on]? with
      |none=>simp[hq]at un
      |some b=>simp[hq]at un q;rw[un]at q;cases q
     rw[getD_set_ne true (Ne.symm hne)]
     exact hI k hk
    have a4:∀j∈D,listed.getD j true=false:=λj hj=>by
     have:=List.all_eq_true.1 hD j hj
     simp only[Bool.and_eq_true,Bool.not_eq_true']at this
     exact this.1
    have take:∀(v:Value),YieldsIf P ops (Kept ρ0 (kN ops tk h0 D)) o v a->mH Fr P ops Q (λl=>Kept ρ0 (ee ops tk h0 l)) fuel (listed.setIfInBounds i true) (a.put o.dst v) w->mH Fr P ops Q (λl=>Kept ρ0 (ee ops tk h0 l)) (fuel+1) listed a w:=λv hy H=>
     A4 wf po (Sc:=λl=>Kept ρ0 (ee ops tk h0 l)) (Si:=Kept ρ0 (kN ops tk h0 D)) (Inv:=λl=>∀j∈D,l.getD j true=false) ho Of hp a1 a2 a3 fuel listed a w (Region.free_spec ho vO) hi a4 hy hS H ZF
    rcases hh with⟨hw,hh⟩|⟨hw,hh⟩
    ·simp only at hh
     split at hh
     ·rename_i es v hpo
      obtain⟨kn2,QQ,xX,hk⟩:=C1 lE hh
      have vP:=ih hpre (by cases o.dst<;>exact xY) (QQ.put o.dst v) (by rw[lD];exact hl) hk hQ
      refine take (v.den ρ) (.inl ⟨hw,λw' hw'=>?_⟩) vP
      obtain⟨R1,x1,F1,s1,p1⟩:=(up _ hpre).2 hw'
      exact vJ hpo lE.tm lE.kn ⟨R1,x1,F1,s1,p1⟩ xX
     ·split at hh
      ·rename_i ar cons r Wd
       unfold Ro at Wd
       split at Wd
       ·rename_i hc
        simp only[Bool.and_eq_true,Bool.not_eq_true']at hc
        split at Wd
        ·cases Wd
        ·rename_i ar' har
         simp only at Wd
         split at Wd
         ·rename_i hb
          cases Wd
          simp only[Bool.and_eq_true,decide_eq_true_eq]at hb
          obtain⟨⟨⟨po,ZG⟩,acp⟩,ZH⟩:=hb
          obtain⟨xs,nq,hr,hk⟩:=qQ hh
          have ZA:=C4 lE.tm hc.2 har
          have k1:=lE.app acp xs _ (ZH.trans (by rw[nq]))
          have k2:Ok (ρ++xs) {s with kn:=kn,n:=(yK P aN {s with kn:=kn} o).n,lk:=qN o.op {s with kn:=kn} s.n (yK P aN {s with kn:=kn} o).v++s.lk} a w0 w R h F:=⟨k1.nJ,k1.tm,k1.len,k1.kn,k1.hp,k1.nP,k1.same⟩
          have vP:=ih (hpre.trans (List.prefix_append ρ xs)) (by cases o.dst<;>exact xY) (k2.put o.dst _) (by rw[lD];exact hl) hk λa'' LV n=>hQ a'' LV (n.up (List.prefix_append ρ xs) (PH.le.refl _) (List.suffix_refl _))
          refine take _ (.inl ⟨hw,λw' hw'=>?_⟩) vP
          obtain⟨R1,x1,F1,s1,p1⟩:=(up _ hpre).2 hw'
          rw[ZA]
          exact hr w' R1 x1 F1 s1 (lT po (λx hx=>List.contains_iff_mem.1 (List.all_eq_true.1 ZG x hx)) p1)
         ·cases Wd
       ·cases Wd
      ·exact hh.elim
    ·have vP:=ih hpre (by cases o.dst<;>exact xY) (lE.put o.dst (.au [])) (by rw[lD];exact hl) hh hQ
     exact take undef (.inr ⟨hw,rfl⟩) vP
   ·refine⟨λh0=>absurd h0 hr,λi hi=>?_⟩
    have vQ:=Dd hd i hi
    unfold wpOpIn
    split at vQ
    ·exact vQ.elim
    ·rename_i o ho
     rw[ho]
     simp only
     obtain⟨kn,lE,hh⟩:=sw ok vQ
     rcases hh with⟨hw,hh⟩|⟨hw,hh⟩
     ·rw[if_pos hw]
      refine Oper.wpIn_mono (λa' w' n=>?_) (Db wf (po _ (Array.mem_of_getElem? ho)) lE (by exact hl) hh)
      obtain⟨ρ',s',R',h',L',p1,p2,p3,p4,p5,p6⟩:=n
      simp only at p6
      split at p6
      ·rename_i hc
       have xY:∀x∈ee ops tk h0 (listed.setIfInBounds i true),x∈s'.h:=λx hx=>by simpa using List.all_eq_true.1 hc x hx
       exact⟨okk (hpre.trans p1) xY p5,ih (hpre.trans p1) xY p5 p4 p6 λa'' LV n=>hQ a'' LV (n.up p1 p2 p3)⟩
      ·exact p6.elim
     ·rw[if_neg (by rw[hw];simp)]
      have xY:∀x∈ee ops tk h0 (listed.setIfInBounds i true),x∈s.h:=λx hx=>hst x (by
       obtain⟨q1,q2⟩:=List.mem_filter.1 hx
       refine List.mem_filter.2 ⟨q1,List.all_eq_true.2 λj hj=>?_⟩
       have:=List.all_eq_true.1 q2 j hj
       by_cases uy:i=j
       ·subst uy
        simp only[Bool.or_eq_true,Bool.not_eq_true']at this⊢
        exact .inl (by
         have:=(mem_ready.1 hi).1
         cases hq:listed[i]? with
         |none=>simp[hq]
         |some b=>simp[hq]at this⊢;exact this)
       ·rw[getD_set_ne false uy]at this;exact this)
      exact⟨λf _=>wf.fn f,okk hpre xY ok,ih hpre (by cases o.dst<;>exact xY) (lE.put o.dst (.au [])) (by rw[lD];exact hl) hh hQ⟩
end
section
variable {P:Program}{post:Value->HP}{w0 w:World}{F R h:PH}{ρ:bp}{L:List (bp->Prop)}{s:S}{a:Act}{aN:gA}
theorem Oh{v:Value}(h:v.oneCell'=true):dZ v=v:=by cases v<;>first|rfl|cases h
theorem LW{base:Nat}{fr:List FV}{x y:A}(h:okA base fr x y=true){ρ ρ2:bp}(hl:ρ.length=base)(hp:ρ<+:ρ2):x.den (ρ++fr.map (FV.den ρ2))=y.den ρ2:=by
 obtain⟨z,rfl⟩:=hp
 have hf:∀ {j:Nat} {f:FV},base<=j->fr[j - base]? =some f->look (ρ++fr.map (FV.den (ρ++z))) j=f.den (ρ++z):=by
  intro j f hj hf
  have:∀(r:bp) (q:List FV) (i:Nat),q[i]? =some f->look (r++q.map (FV.den (ρ++z))) (r.length+i)=f.den (ρ++z):=by
   intro r
   induction r with
   |nil=>
    intro q
    induction q with
    |nil=>intro i hi;cases hi
    |cons u v ih=>intro i hi;cases i with
     |zero=>simp only[List.getElem?_cons_zero,Option.some.injEq]at hi;subst hi;rfl
     |succ i=>simp only[List.length_nil,Nat.zero_add,List.nil_append,List.map_cons,look]at ih⊢;exact ih i (by simpa using hi)
   |cons u v ih=>
    intro q i hi
    simp only[List.length_cons,List.cons_append]
    rw[show v.length+1+i=(v.length+i)+1 by omega]
    exact ih q i hi
  have:=this ρ fr (j - base) hf
  rwa [hl,show base+(j - base)=j by omega]at this
 unfold okA at h
 simp only[Bool.or_eq_true,Bool.and_eq_true,decide_eq_true_eq,Nat.blt_eq]at h
 rcases h with⟨rfl,hb⟩|h
 ·rw[<-hl]at hb
  rw[A.app hb,A.app hb]
 ·split at h<;>first|(cases h;done)|simp only[Bool.and_eq_true,decide_eq_true_eq,Nat.blt_eq]at h
  ·obtain⟨⟨h1,rfl⟩,h3⟩:=h
   simp only[A.den,E.den,hf h1 h3,FV.den,F1.app,aP.dH,Int.neg_neg]
  ·obtain⟨h1,h3⟩:=h
   simp only[A.den,E.den,hf h1 h3,FV.den,F1.app,aP.cr,Bool.not_not]
  ·obtain⟨h1,h3⟩:=h
   simp only[A.den,E.den,hf h1 h3,FV.den,F2.app,aP.eQ,List.append_nil]
  ·obtain⟨⟨h1,rfl⟩,h3⟩:=h
   simp only[A.den,BR.den,hf h1 h3,FV.den,aP.dP]
  ·obtain⟨⟨⟨⟨⟨h1,h2⟩,h3⟩,h4⟩,h5⟩,h6⟩:=h
   simp only[A.den,SA.den,E.den,hf h1 h4,hf h2 h5,hf h3 h6,FV.den,F2.app,aP.e9,aP.dP,Nat.add_zero]
  ·obtain⟨h1,h3⟩:=h
   simp only[A.den,BR.den,hf h1 h3,FV.den,aP.dP]
  ·obtain⟨h1,h3⟩:=h
   show dZ (look _ _).val=_
   rw[hf h1 h3]
   exact Oh (A.one _ _)
theorem vR{base:Nat}{fr:List FV}:∀ {x y:List A},Rw base fr x y=true->∀ {ρ ρ2:bp},ρ.length=base->ρ<+:ρ2->x.map (A.den (ρ++fr.map (FV.den ρ2)))=y.map (A.den ρ2)
 |[],[],_,_,_,_,_=>rfl
 |x::r,y::q,h,ρ,ρ2,hl,hp=>by
  simp only[Rw,Bool.and_eq_true]at h
  simp only[List.map_cons,LW h.1 hl hp,vR h.2 hl hp]
 |[],_::_,h,_,_,_,_=>by cases h
 |_::_,[],h,_,_,_,_=>by cases h
theorem We{base:Nat}{fr:List FV}{x y:W}(h:okW base fr x y=true){ρ ρ2:bp}(hl:ρ.length=base)(hp:ρ<+:ρ2):x.den (ρ++fr.map (FV.den ρ2))=y.den ρ2:=by
 cases x<;>cases y<;>simp only[okW]at h<;>first|(cases h;done)|skip
 ·exact LW h hl hp
 ·simp only[W.den,vR h hl hp]
theorem qT{base:Nat}{fr:List FV}:∀ {x y:List (Option V)},qI base fr x y=true->x.length=y.length
 |[],[],_=>rfl
 |none::r,y::q,h=>by simp only[qI]at h;simp[qT h]
 |some (.w x)::r,some (.w y)::q,h=>by simp only[qI,Bool.and_eq_true]at h;simp[qT h.2]
 |some (.au x)::r,some (.au y)::q,h=>by simp only[qI,Bool.and_eq_true]at h;simp[qT h.2]
 |[],_::_,h=>by simp[qI]at h
 |some (.w _)::_,[],h=>by simp[qI]at h
 |some (.au _)::_,[],h=>by simp[qI]at h
 |none::_,[],h=>by simp[qI]at h
 |some (.w _)::_,none::_,h=>by simp[qI]at h
 |some (.au _)::_,none::_,h=>by simp[qI]at h
 |some (.w _)::_,some (.au _)::_,h=>by simp[qI]at h
 |some (.au _)::_,some (.w _)::_,h=>by simp[qI]at h
theorem LX{base:Nat}{fr:List FV}:∀ {x y:List (Option V)},qI base fr x y=true->∀ {ρ ρ2:bp},ρ.length=base->ρ<+:ρ2->∀(i:Nat) (v:V),x[i]? =some (some v)->∃u,y[i]? =some (some u)/\v.den (ρ++fr.map (FV.den ρ2))=u.den ρ2
 |[],_,_,_,_,_,_,i,v,hi=>by simp at hi
 |x::r,[],h,_,_,_,_,_,_,_=>by have:=qT h;simp at this
 |x::r,y::q,h,ρ,ρ2,hl,hp,0,v,hi=>by
  simp only[List.getElem?_cons_zero,Option.some.injEq]at hi
  subst hi
  cases y with
  |none=>cases v<;>simp[qI]at h
  |some u=>
   refine⟨u,rfl,?_⟩
   cases v<;>cases u<;>simp only[qI,Bool.and_eq_true,decide_eq_true_eq,Nat.blt_eq]at h<;>first|(cases h;done)|skip
   ·exact We h.1 hl hp
   ·obtain⟨⟨rfl,hb⟩,kh⟩:=h
    obtain⟨z,rfl⟩:=hp
    rename_i q0
    have QR:V.dK ρ.length (.au q0)=true:=by rw[hl];exact hb
    rw[V.app QR,V.app QR]
 |x::r,y::q,h,ρ,ρ2,hl,hp,i+1,v,hi=>by
  simp only[List.getElem?_cons_succ]at hi⊢
  have h':qI base fr r q=true:=by
   cases x with
   |none=>simpa[qI]using h
   |some x=>
    cases y with
    |none=>cases x<;>simp[qI]at h
    |some y=>cases x<;>cases y<;>simp only[qI,Bool.and_eq_true]at h<;>first|(cases h;done)|exact h.2
  exact LX h' hl hp i v hi
theorem LY{ρ ρ2:bp}{base:Nat}(hl:ρ.length=base){fr:List FV}{j:Nat}{f:FV}(hj:base<=j)(hf:fr[j - base]? =some f):look (ρ++fr.map (FV.den ρ2)) j=f.den ρ2:=by
 have:∀(r:bp) (q:List FV) (i:Nat),q[i]? =some f->look (r++q.map (FV.den ρ2)) (r.length+i)=f.den ρ2:=by
  intro r
  induction r with
  |nil=>
   intro q
   induction q with
   |nil=>intro i hi;cases hi
   |cons u v ih=>intro i hi;cases i with
    |zero=>simp only[List.getElem?_cons_zero,Option.some.injEq]at hi;subst hi;rfl
    |succ i=>simp only[List.length_nil,Nat.zero_add,List.nil_append,List.map_cons,look]at ih⊢;exact ih i (by simpa using hi)
  |cons u v ih=>
   intro q i hi
   simp only[List.length_cons,List.cons_append]
   rw[show v.length+1+i=(v.length+i)+1 by omega]
   exact ih q i hi
 have:=this ρ fr (j - base) hf
 rwa [hl,show base+(j - base)=j by omega]at this
theorem p9{base:Nat}{fr:List FV}{h0:Hp}:∀ {m l:Hp},sv base fr h0 m=some l->∀ {ρ ρ2:bp},ρ.length=base->ρ<+:ρ2->∀ {R h:PH},(bg ρ2 l).p R h->(bg (ρ++fr.map (FV.den ρ2)) m).p R h
 |[],l,_,_,_,_,_,_,_,_=>trivial
 |(k,c)::r,l,e,ρ,ρ2,hl,hp,R,h,H=>by
  simp only[sv]at e
  split at e
  ·cases e
  ·rename_i q hq
   have ih:∀ {x:PH},(bg ρ2 q).p R x->(bg (ρ++fr.map (FV.den ρ2)) r).p R x:=λhx=>p9 hq hl hp hx
   have same:∀x:Key×C,(x.1.dK base&&x.2.dK base)=true->dB (ρ++fr.map (FV.den ρ2)) x=dB ρ2 x:=λx hb=>by
    obtain⟨z,rfl⟩:=hp
    rw[<-hl]at hb
    rw[vA hb,vA hb]
   split at e
   ·rename_i x ty
    split at e
    ·rename_i y hy
     cases e
     have hs:=List.find?_some hy
     simp only[Bool.and_eq_true]at hs
     obtain⟨⟨hB,hk⟩,hc⟩:=hs
     have H1:=(bA ρ2 y q R h).1 H
     refine(bA _ _ _ _ _).2 (HP.ae H1 (λ_ hh=>?_) λ_ hh=>ih hh)
     obtain⟨yk,yc⟩:=y
     cases yc with
     |cells z ty'=>
      simp only[Bool.and_eq_true,decide_eq_true_eq,Nat.blt_eq]at hc
      obtain⟨hz,rfl⟩:=hc
      cases k with
      |a j=>cases hB
      |b rr=>
       cases yk with
       |a j=>cases rr<;>simp[okK]at hk
       |b rr'=>
        simp only[dB]at hh⊢
        rw[vR hz hl hp]
        have:rr.den (ρ++fr.map (FV.den ρ2))=rr'.den ρ2:=by
         cases rr with
         |g n=>simp only[okK,decide_eq_true_eq,Nat.blt_eq]at hk;subst hk;rfl
         |v j=>
          simp only[okK]at hk
          split at hk
          ·rename_i hj
           have A5:fr[j - base]? =some (.n rr'):=by simpa using hk
           simp only[BR.den,LY hl hj A5,FV.den,aP.dP]
          ·rename_i hj
           have A5:rr'=.v j:=by simpa using hk
           subst A5
           obtain⟨z',rfl⟩:=hp
           have hb:BR.dK ρ.length (.v j)=true:=by simp[BR.dK];omega
           rw[BR.app hb,BR.app hb]
        rw[this];exact hh
     |kD=>simp at hc
     |nJ=>simp at hc
     |prop j=>simp at hc
    ·cases e
   ·split at e
    ·rename_i hc
     cases e
     simp only[Bool.and_eq_true]at hc
     have H1:=(bA ρ2 _ q R h).1 H
     refine(bA _ _ _ _ _).2 (HP.ae H1 (λ_ hh=>?_) λ_ hh=>ih hh)
     rw[same _ (by simp[hc.1,C.dK])];exact hh
    ·cases e
   ·split at e
    ·rename_i hc
     cases e
     simp only[Bool.and_eq_true]at hc
     have H1:=(bA ρ2 _ q R h).1 H
     refine(bA _ _ _ _ _).2 (HP.ae H1 (λ_ hh=>?_) λ_ hh=>ih hh)
     rw[same _ (by simp[hc.1,C.dK])];exact hh
    ·cases e
   ·rename_i j
    split at e
    ·rename_i hj
     split at e
     ·rename_i f q' hf
      cases e
      have H1:=lS.1 H
      refine(bA _ _ _ _ _).2 (HP.ae H1 (λ_ hh=>?_) λ_ hh=>ih hh)
      have:dB (ρ++fr.map (FV.den ρ2)) (k,.prop j)=bg ρ2 q':=by
       cases k<;>simp only[dB,LY hl hj hf,FV.den,aP.ju]
      rw[this];exact hh
     ·cases e
    ·rename_i hj
     split at e
     ·rename_i hc
      cases e
      simp only[Bool.and_eq_true]at hc
      have H1:=(bA ρ2 _ q R h).1 H
      refine(bA _ _ _ _ _).2 (HP.ae H1 (λ_ hh=>?_) λ_ hh=>ih hh)
      rw[same _ (by simp[hc.1,C.dK];omega)];exact hh
     ·cases e
theorem Iw{hd:S}{ss:List So}{fr:List FV}{ρ ρ2:bp}{s:S}{base:Nat}(hl:ρ.length=base)(c:CX base ss hd s fr=true)(hp:ρ<+:ρ2)(ok:Ok ρ2 s a w0 w R h F)(hkn:∀x∈hd.kn,(x.1.den ρ).bool=x.2):Ok (ρ++fr.map (FV.den ρ2)) hd a w0 w R h F:=by
 subst hl
 simp only[CX,Bool.and_eq_true,decide_eq_true_eq,Nat.blt_eq]at c
 obtain⟨⟨⟨⟨⟨⟨c1,c2⟩,c3⟩,c4⟩,c5⟩,c6⟩,c7,c8⟩:=c
 refine⟨?_,⟨by rw[ok.tm.1,qT c1],λi v hi=>?_⟩,by simp[c4,c5],λx hx=>?_,?_,ok.nP,ok.same⟩
 ·rw[ok.nJ,<-c7]
  obtain⟨z,rfl⟩:=hp
  exact List.map_congr_left λr hr=>by unfold nO;rw[BR.app (List.all_eq_true.1 c8 r hr),BR.app (List.all_eq_true.1 c8 r hr)]
 ·obtain⟨u,hu,he⟩:=LX c1 rfl hp i v hi
  rw[he]
  exact ok.tm.2 i u hu
 ·rw[E.app (List.all_eq_true.1 c6 x hx)];exact hkn x hx
 ·split at c2
  ·rename_i l hl
   simp only[Bool.and_eq_true]at c2
   exact p9 hl rfl hp (lT c2.1 (λx hx=>by simpa using List.all_eq_true.1 c2.2 x hx) ok.hp)
  ·cases c2
def sorted:List So->bp->Prop
 |[],[]=>True
 | .n::r,.n _::x=>sorted r x
 | .i::r,.i _::x=>sorted r x
 | .c::r,.c _::x=>sorted r x
 | .s::r,.s _::x=>sorted r x
 | .a::r,.a _::x=>sorted r x
 | .v::r,.v _::x=>sorted r x
 | .p::r,.p _::x=>sorted r x
 |_,_=>False
theorem jc:∀ {ss:List So} {ρ:bp} {f:bp->Prop} {xs:bp},fj ss ρ f->sorted ss xs->f (ρ++xs)
 |[],ρ,f,[],h,_=>by simpa[fj]using h
 |[],_,_,_::_,_,hs=>by simp[sorted]at hs
 |t::r,ρ,f,[],_,hs=>by cases t<;>simp[sorted]at hs
 | .n::r,ρ,f,.n x::xs,h,hs| .i::r,ρ,f,.i x::xs,h,hs| .c::r,ρ,f,.c x::xs,h,hs| .s::r,ρ,f,.s x::xs,h,hs| .a::r,ρ,f,.a x::xs,h,hs| .v::r,ρ,f,.v x::xs,h,hs| .p::r,ρ,f,.p x::xs,h,hs=>by
   have:=jc (h x) hs
   simpa using this
 | .n::_,_,_,.i _::_,_,hs| .n::_,_,_,.c _::_,_,hs| .n::_,_,_,.s _::_,_,hs| .n::_,_,_,.a _::_,_,hs| .n::_,_,_,.v _::_,_,hs| .n::_,_,_,.p _::_,_,hs
 | .i::_,_,_,.n _::_,_,hs| .i::_,_,_,.c _::_,_,hs| .i::_,_,_,.s _::_,_,hs| .i::_,_,_,.a _::_,_,hs| .i::_,_,_,.v _::_,_,hs| .i::_,_,_,.p _::_,_,hs
 | .c::_,_,_,.n _::_,_,hs| .c::_,_,_,.i _::_,_,hs| .c::_,_,_,.s _::_,_,hs| .c::_,_,_,.a _::_,_,hs| .c::_,_,_,.v _::_,_,hs| .c::_,_,_,.p _::_,_,hs
 | .s::_,_,_,.n _::_,_,hs| .s::_,_,_,.i _::_,_,hs| .s::_,_,_,.c _::_,_,hs| .s::_,_,_,.a _::_,_,hs| .s::_,_,_,.v _::_,_,hs| .s::_,_,_,.p _::_,_,hs
 | .a::_,_,_,.n _::_,_,hs| .a::_,_,_,.i _::_,_,hs| .a::_,_,_,.c _::_,_,hs| .a::_,_,_,.s _::_,_,hs| .a::_,_,_,.v _::_,_,hs| .a::_,_,_,.p _::_,_,hs
 | .v::_,_,_,.n _::_,_,hs| .v::_,_,_,.i _::_,_,hs| .v::_,_,_,.c _::_,_,hs| .v::_,_,_,.s _::_,_,hs| .v::_,_,_,.a _::_,_,hs| .v::_,_,_,.p _::_,_,hs
 | .p::_,_,_,.n _::_,_,hs| .p::_,_,_,.i _::_,_,hs| .p::_,_,_,.c _::_,_,hs| .p::_,_,_,.s _::_,_,hs| .p::_,_,_,.a _::_,_,hs| .p::_,_,_,.v _::_,_,hs=>by simp[sorted]at hs
theorem ZI{ρ:bp}(f:FV){ss:List So}{xs:bp}(h:(FV.so f).length=1)(hs:sorted ss xs):sorted (FV.so f++ss) (f.den ρ::xs):=by
 unfold FV.so at h⊢
 split at h<;>simp at h<;>simpa[FV.den,E.den,F1.app,F2.app,sorted]using hs
theorem yW(ρ:bp):∀ {fr:List FV} {ss:List So},fr.flatMap FV.so=ss->fr.length=ss.length->sorted ss (fr.map (FV.den ρ))
 |[],ss,h,_=>by simp at h;subst h;trivial
 |f::r,ss,h,hl=>by
  have hlen:∀q:List FV,(q.flatMap FV.so).length<=q.length:=λq=>by
   induction q with
   |nil=>simp
   |cons g t ih=>
    simp only[List.flatMap_cons,List.length_append,List.length_cons]
    have:(FV.so g).length<=1:=by unfold FV.so;split<;>simp
    omega
  have h1:(FV.so f).length=1:=by
   have:=hlen r
   subst h
   simp only[List.flatMap_cons,List.length_append,List.length_cons]at hl
   have:(FV.so f).length<=1:=by unfold FV.so;split<;>simp
   omega
  subst h
  have hr:r.length=(r.flatMap FV.so).length:=by
   simp only[List.flatMap_cons,List.length_append,List.length_cons]at hl
   omega
  have ih:=yW ρ (fr:=r) rfl hr
  simp only[List.flatMap_cons,List.map_cons]
  exact ZI f h1 ih
end
end RX
end Go.Proofs.YtbkifafpjnjaiaaGreatDoor
