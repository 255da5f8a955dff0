/- Texts of this claim, joined. No condition. -/
import Derived.Test.YtchjlaebbhpioaaGreatDoorRows
import Derived.WalkKit
import Derived.Deep.RegionHeld3
import Derived.RangeFuncLeaves
import Derived.RangeFuncRecord
import Derived.TacticsIn
import Derived.IntWalk
import Derived.OrdersIn
import Derived.OwnWalkIn
set_option linter.unusedSimpArgs false
set_option linter.unusedVariables false
namespace Go.Proofs.YtchjlaebbhpioaaGreatDoor
set_option maxRecDepth 100000
section
universe u
@[reducible] def pt(b:Nat):Value:=.pointer (some ⟨b,0,none⟩)
@[reducible] def an(x:Int):Value:=.int .i64 x
@[reducible] def cE:Value:=.tuple #[]
abbrev aG:=Option Addr
abbrev ax:=List UInt8
abbrev dI:=Array Value
theorem aB{c}[h:Decidable c](hc:c){α:Sort u}{t e:α}:ite c t e=t:=if_pos hc
theorem aq{c}[h:Decidable c](hc:¬c){α:Sort u}{t e:α}:ite c t e=e:=if_neg hc
abbrev PH:=Nat->Option Obj
namespace PH
def cV:PH:=λ_=>none
def one(b:Nat)(o:Obj):PH:=λk=>if k=b then some o else none
def dj(h g:PH):Prop:=∀k,h k=none\/g k=none
def un(h g:PH):PH:=λk=>match h k with|some o=>some o|none=>g k
def le(h g:PH):Prop:=∀k o,h k=some o->g k=some o
def own(h:PH)(w:World):Prop:=∀k o,h k=some o->w.heap[k]? =some o
theorem le.refl(h:PH):h.le h:=λ_ _ e=>e
theorem le.trans{a b c:PH}(h:a.le b)(g:b.le c):a.le c:=λk o e=>g k o (h k o e)
theorem dB h:cV.le h:=λ_ _ e=>by cases e
theorem own.le{h g:PH}{w}(hg:g.own w)(hl:h.le g):h.own w:=λk o e=>hg k o (hl k o e)
theorem dj.symm{h g:PH}(d:h.dj g):g.dj h:=λk=>(d k).symm
theorem le.none{h g:PH}(l:h.le g){k}(e:g k=Option.none):h k=Option.none:=by
 cases hk:h k with
 |none=>rfl
 |some o=>rw[l k o hk]at e;cases e
theorem dj.le{h g h' g':PH}(d:h.dj g)(l:h'.le h)(l':g'.le g):h'.dj g':=λk=>(d k).imp l.none l'.none
theorem dC(h g:PH):h.le (h.un g):=λk o e=>by unfold un;rw[e]
theorem cP{h g:PH}(d:h.dj g):g.le (h.un g):=λk o e=>by
 unfold un;rcases d k with e'|e'
 ·rw[e'];exact e
 ·rw[e']at e;cases e
theorem oe{h g:PH}{k}{o}(e:(h.un g) k=some o):h k=some o\/g k=some o:=by
 unfold un at e;split at e
 ·rename_i e';exact .inl (e'.trans e)
 ·exact .inr e
theorem YP{h g:PH}{k}(e:h k=Option.none)(e':g k=Option.none):(h.un g) k=Option.none:=by unfold un;rw[e];exact e'
theorem N0{h g f:PH}(l:h.le f)(l':g.le f):(h.un g).le f:=λk o e=>(oe e).elim (l k o) (l' k o)
theorem ol{h g f:PH}(d:h.dj f)(d':g.dj f):(h.un g).dj f:=λk=>by
 rcases d k with e|e
 ·rcases d' k with e'|e'
  ·exact .inl (YP e e')
  ·exact .inr e'
 ·exact .inr e
theorem eC(h:PH):h.dj cV:=λ_=>.inr rfl
theorem eL h:cV.dj h:=λ_=>.inl rfl
theorem cX b o:one b o b=some o:=if_pos rfl
theorem pF{b k}{o x}(e:one b o k=some x):k=b/\x=o:=by
 unfold one at e;split at e
 ·rename_i h;exact⟨h,(Option.some.inj e).symm⟩
 ·cases e
theorem oT{b}{o}{h}(e:h b=some o):(one b o).le h:=λk x hx=>by
 obtain⟨rfl,rfl⟩:=pF hx;exact e
end PH
structure HP where
 p:PH->PH->Prop
 mono:∀ {R R' h h':PH},R.le R'->h.le h'->p R h->p R' h'
namespace HP
def tt:HP:=⟨λ_ _=>True,λ_ _ _=>trivial⟩
def pure(φ:Prop):HP:=⟨λ_ _=>φ,λ_ _ h=>h⟩
def aE{α:Type}(A:α->HP):HP:=⟨λR h=>∃x,(A x).p R h,λl l' ⟨x,hx⟩=>⟨x,(A x).mono l l' hx⟩⟩
def aA(φ:Prop)(A:HP):HP:=⟨λR h=>φ/\A.p R h,λl l' ⟨a,b⟩=>⟨a,A.mono l l' b⟩⟩
def one(b:Nat)(o:Obj):HP:=⟨λ_ h=>h b=some o,λ_ l e=>l b o e⟩
def ro(b:Nat)(o:Obj):HP:=⟨λR _=>R b=some o,λl _ e=>l b o e⟩
def aj(A B:HP):HP:=⟨λR h=>∃h1 h2,h1.dj h2/\h1.le h/\h2.le h/\A.p R h1/\B.p R h2,
 λl l' ⟨h1,h2,d,l1,l2,a,b⟩=>⟨h1,h2,d,l1.trans l',l2.trans l',A.mono l (PH.le.refl _) a,B.mono l (PH.le.refl _) b⟩⟩
def aT(A B:HP):Prop:=∀R h:PH,R.dj h->A.p R h->∃R' h':PH,R.le R'/\R'.dj h'/\h'.le h/\(∀k o,R' k=some o->R k=some o\/h k=some o)/\B.p R' h'
theorem aT.of{A B}(h:∀R x,A.p R x->B.p R x):aT A B:=λR x d a=>⟨R,x,PH.le.refl _,d,PH.le.refl _,λ_ _ e=>.inl e,h R x a⟩
theorem aT.refl A:aT A A:=.of λ_ _ h=>h
theorem aT.trans{A B C}(h:aT A B)(g:aT B C):aT A C:=λR x d a=>by
 obtain⟨R1,x1,l1,d1,m1,s1,b⟩:=h R x d a;obtain⟨R2,x2,l2,d2,m2,s2,c⟩:=g R1 x1 d1 b;exact⟨R2,x2,l1.trans l2,d2,m2.trans m1,λk o e=>(s2 k o e).elim (s1 k o) (λe=>.inr (m1 k o e)),c⟩
theorem ai{A B}{R h}(H:(aj A B).p R h):A.p R h:=let⟨_,_,_,l1,_,a,_⟩:=H;A.mono (PH.le.refl _) l1 a
theorem ah{A B}{R h}(H:(aj A B).p R h):B.p R h:=let⟨_,_,_,_,l2,_,b⟩:=H;B.mono (PH.le.refl _) l2 b
theorem ak{A B}{R h}(H:(aj A B).p R h):(aj B A).p R h:=let⟨h1,h2,d,l1,l2,a,b⟩:=H;⟨h2,h1,d.symm,l2,l1,b,a⟩
theorem au{A B C}{R h}(H:(aj (aj A B) C).p R h):(aj A (aj B C)).p R h:=by
 obtain⟨h1,h2,d,l1,l2,⟨h3,h4,d',l3,l4,a,b⟩,c⟩:=H;have d4:=d.le l4 (PH.le.refl h2);exact⟨h3,h4.un h2,(PH.ol d'.symm (d.le l3 (PH.le.refl h2)).symm).symm,l3.trans l1,PH.N0 (l4.trans l1) l2,a,h4,h2,d4,PH.dC _ _,PH.cP d4,b,c⟩
theorem aC{A B C}{R h}(H:(aj A (aj B C)).p R h):(aj (aj A B) C).p R h:=
 ak (au (ak (au (ak H))))
theorem ae{A B A' B'}{R h}(H:(aj A B).p R h)(f:∀x,A.p R x->A'.p R x)(g:∀x,B.p R x->B'.p R x):(aj A' B').p R h:=
 let⟨h1,h2,d,l1,l2,a,b⟩:=H;⟨h1,h2,d,l1,l2,f _ a,g _ b⟩
theorem aD{A}{R h}(H:A.p R h):(aj A tt).p R h:=⟨h,PH.cV,PH.eC h,PH.le.refl _,PH.dB _,H,trivial⟩
theorem aW{A}{R h}(H:A.p R h):(aj tt A).p R h:=ak (aD H)
theorem Az{A}{φ:Prop}{R h}(H:A.p R h)(f:φ):(aj (pure φ) A).p R h:=(ak (ae (aD H) (λ_ h=>h) λ_ _=>f):_)
theorem aT.aj{A B}(h:aT A B) K:aT (aj A K) (aj B K):=λR x d H=>by
 obtain⟨h1,h2,dd,l1,l2,a,k⟩:=H;obtain⟨R1,x1,l,d1,m1,s1,b⟩:=h R h1 (d.le (PH.le.refl _) l1) a;have dx:x1.dj h2:=dd.le m1 (PH.le.refl _);refine⟨R1,x1.un h2,l,(PH.ol d1.symm ?_).symm,PH.N0 (m1.trans l1) l2,λk o e=>(s1 k o e).imp id (l1 k o),x1,h2,dx,PH.dC _ _,PH.cP dx,b,K.mono l (PH.le.refl _) k⟩;intro k;cases hk:R1 k with
 |none=>exact .inr rfl
 |some o=>
  rcases s1 k o hk with e|e
  ·rcases d k with e'|e'
   ·rw[e]at e';cases e'
   ·exact .inl (l2.none e')
  ·rcases dd k with e'|e'
   ·rw[e]at e';cases e'
   ·exact .inl e'
theorem aT.gX{A B A' B'}(h:aT A B)(g:aT A' B'):aT (HP.aj A A') (HP.aj B B'):=
 (h.aj A').trans ((aT.of λ_ _=>ak).trans ((g.aj B).trans (aT.of λ_ _=>ak)))
theorem aT.eP b o:aT (HP.one b o) (HP.ro b o):=λR h d e=>by
 refine⟨R.un (PH.one b o),PH.cV,PH.dC _ _,PH.eC _,PH.dB _,λk x hx=>(PH.oe hx).imp id λhx=>?_,?_⟩
 ·obtain⟨rfl,rfl⟩:=PH.pF hx;exact e
 ·have hb:R b=none:=(d b).resolve_right (by rw[show h b=some o from e];simp);show(R.un (PH.one b o)) b=some o;unfold PH.un;rw[hb];exact PH.cX b o
end HP
def q7:List Nat:=[0,498536548,997073096,651767980,1994146192,1802195444,1303535960,1342533948,3988292384,4027552580,3604390888,3412177804,2607071920,2262029012,2685067896,3183342108]
def GR(R:PH):Prop:=∃(cur:Array Value) (ty:TypeId) (fr:Nat×Nat),R 0=some (.cells cur ty fr)/\∀(i x:Nat),q7[i]? =some x->cur[i]? =some (Value.int .u32 ((x:Nat):Int))
theorem GR.mono{R R'}(l:R.le R')(g:GR R):GR R':=let⟨c,t,f,e,h⟩:=g;⟨c,t,f,l _ _ e,h⟩
structure Sat(w:World)(R h F:PH):Prop where
 uz:R.dj h
 He:R.dj F
 xG:h.dj F
 oR:R.own w
 oh:h.own w
 oF:F.own w
 gl:GR R
structure Same(w w':World):Prop where
 os:w'.os=w.os
 tape:w'.tape=w.tape
 output:w'.output=w.output
 size:w.heap.size<=w'.heap.size
theorem Same.refl w:Same w w:=⟨rfl,rfl,rfl,Nat.le_refl _⟩
theorem Same.trans{a b c}(h:Same a b)(g:Same b c):Same a c:=⟨g.os.trans h.os,g.tape.trans h.tape,g.output.trans h.output,Nat.le_trans h.size g.size⟩
theorem Sat.aT{w}{R h F R' h'}(s:Sat w R h F)(l:R.le R')(d:R'.dj h')(m:h'.le h)(g:∀k o,R' k=some o->R k=some o\/h k=some o):Sat w R' h' F:=by
 refine⟨d,λk=>?_,s.xG.le m (PH.le.refl _),λk o e=>(g k o e).elim (s.oR k o) (s.oh k o),s.oh.le m,s.oF,s.gl.mono l⟩;cases hk:R' k with
 |none=>exact .inl rfl
 |some o=>
  refine .inr ?_;rcases g k o hk with e|e
  ·exact(s.He k).resolve_left (by rw[e];simp)
  ·exact(s.xG k).resolve_left (by rw[e];simp)
theorem Sat.cut{w}{R h F h1 h2}(s:Sat w R h F)(d:h1.dj h2)(l1:h1.le h)(l2:h2.le h):Sat w R h1 (h2.un F):=
 ⟨s.uz.le (PH.le.refl _) l1,(PH.ol (s.uz.le (PH.le.refl _) l2).symm s.He.symm).symm,(PH.ol d.symm (s.xG.le l1 (PH.le.refl _)).symm).symm,s.oR,s.oh.le l1,λk o e=>(PH.oe e).elim (s.oh.le l2 k o) (s.oF k o),s.gl⟩
theorem Sat.join{w}{R h1 h2 F}(s:Sat w R h1 (h2.un F))(d:h2.dj F):Sat w R (h1.un h2) F/\h1.dj h2:=by
 have l2:h2.le (h2.un F):=PH.dC _ _;have lF:F.le (h2.un F):=PH.cP d;have d12:=s.xG.le (PH.le.refl _) l2;exact⟨⟨(PH.ol s.uz.symm (s.He.le (PH.le.refl _) l2).symm).symm,s.He.le (PH.le.refl _) lF,PH.ol (s.xG.le (PH.le.refl _) lF) d,s.oR,λk o e=>(PH.oe e).elim (s.oh k o) (s.oF.le l2 k o),s.oF.le lF,s.gl⟩,d12⟩
def az(P:Program)(f:FuncId)(args:Array Value)(A:HP)(B:Value->HP):Prop:=
 ∀w R h F,Sat w R h F->A.p R h->Calls P f args w λe w'=>∃v,e=.returned v/\Same w w'/\∃R' h',R.le R'/\Sat w' R' h' F/\(B v).p R' h'
def abJ:Next->Option Value
 | .value v=>some v
 | .skip=>some undef
 |_=>none
def aR(P:Program)(s:Sem Next)(A:HP)(B:Value->HP):Prop:=
 ∀w R h F,Sat w R h F->A.p R h->∃nx v w',s.run P w=.ok nx w'/\abJ nx=some v/\Same w w'/\∃R' h',R.le R'/\Sat w' R' h' F/\(B v).p R' h'
def aM(P:Program)(s:Sem Next)(A:HP)(v:Value):Prop:=
 ∀w R h F,Sat w R h F->A.p R h->s.run P w=.ok (.value v) w
def xC(P:Program)(f:FuncId):Prop:=∃fn,P.funcs[f]? =some fn/\fn.body.isNone=false/\(fn.name== "runtime.NumGoroutine")=false
def YQ(P:Program)(l:Nat)(args:Array Value)(A:HP)(B:Value->HP):Prop:=
 ∀w R h F,Sat w R h F->A.p R h->∃fn tmps assign body,(Instr.yield l args).run P w=.ok (.round l fn tmps assign body) w/\
  RoundIn Fence.wide 0 P l fn tmps assign body w λe w'=>∃v,e=.returned v/\Same w w'/\∃R' h',R.le R'/\Sat w' R' h' F/\(B v).p R' h'
def jG(P:Program)(fv:Value)(args:Array Value)(A:HP)(B:Value->HP):Prop:=
 (∃f jy,fv=.func (.func f) #[] jy/\xC P f/\az P f (args++jy) A B)\/(∃l,fv=.func (.yield l) #[] #[]/\YQ P l args A B)
def YR(P:Program)(v:Value)(name:String)(args:Array Value)(A:HP)(B:Value->HP):Prop:=
 ∃t x f r,v=.iface t x/\(∀w,(method (P.types.size+Made.depth) t x name).run P w=.ok (f,r) w)/\xC P f/\az P f (#[r]++args) A B
def N1{γ:Type}(Sh K:γ->HP)(Jx:HP)(may:γ->Prop)(v:Value):HP:=
 HP.aE λb:Bool=>HP.aA (v=.bool b) (if b then HP.aE λg'=>HP.aA (may g') (HP.aj (Sh g') (K g'))else Jx)
def jp{γ:Type}(Sh K:γ->HP)(Jx:HP)(iW:γ->Prop):HP:=
 HP.aE λo:Option γ=>match o with
  |some g=>HP.aA (iW g) (HP.aj (Sh g) (K g))
  |none=>Jx
def xH(P:Program)(gv:Value){γ:Type}(A:HP)(Sh:γ->HP)(Pr:γ->Array Value->HP)(may:γ->Array Value->γ->Prop)(iW:γ->Prop)(g0:γ):Prop:=
 ∃f jy,gv=.func (.func f) #[] jy/\xC P f/\∀(l:Nat) (K:γ->HP) (Jx:HP),
  (∀g args,(∃g',may g args g')->jG P (.func (.yield l) #[] #[]) args (HP.aj (Pr g args) (HP.aj (Sh g) (K g))) (N1 Sh K Jx (may g args)))->
  az P f (#[.func (.yield l) #[] #[]]++jy) (HP.aj A (HP.aj (Sh g0) (K g0))) (λ_=>HP.aj A (jp Sh K Jx iW))
theorem az.bv{P}{f}{args}{A A' K}{B B'}(t:az P f args A B)(pre:HP.aT A' (HP.aj A K))(post:∀v,HP.aT (HP.aj (B v) K) (B' v)):
 az P f args A' B':=λw R h F s a'=>by
 obtain⟨R1,h1,l1,d1,m1,g1,x1,x2,dx,lx1,lx2,a,k⟩:=pre R h s.uz a';have s1:=s.aT l1 d1 m1 g1;refine(t w R1 x1 _ (s1.cut dx lx1 lx2) a).mono λe w' ⟨v,he,hs,R2,h2,l2,s2,b⟩=>?_;obtain⟨s3,d3⟩:=s2.join ((s1.xG).le lx2 (PH.le.refl _));obtain⟨R4,h4,l4,d4,m4,g4,b'⟩:=post v R2 (h2.un x2) s3.uz ⟨h2,x2,d3,PH.dC _ _,PH.cP d3,b,K.mono l2 (PH.le.refl _) k⟩;exact⟨v,he,hs,R4,h4,l1.trans (l2.trans l4),s3.aT l4 d4 m4 g4,b'⟩
theorem az.post{P}{f}{args}{A}{B B'}(t:az P f args A B)(post:∀v,HP.aT (B v) (B' v)):az P f args A B':=
 t.bv (K:=HP.tt) (.of λ_ _=>HP.aD) λv=>(HP.aT.of λ_ _=>HP.ai).trans (post v)
theorem aR.bv{P}{o}{A A' K}{B B'}(t:aR P o A B)(pre:HP.aT A' (HP.aj A K))(post:∀v,HP.aT (HP.aj (B v) K) (B' v)):
 aR P o A' B':=λw R h F s a'=>by
 obtain⟨R1,h1,l1,d1,m1,g1,x1,x2,dx,lx1,lx2,a,k⟩:=pre R h s.uz a';have s1:=s.aT l1 d1 m1 g1;obtain⟨nx,v,w',he,ho,hs,R2,h2,l2,s2,b⟩:=t w R1 x1 _ (s1.cut dx lx1 lx2) a;obtain⟨s3,d3⟩:=s2.join ((s1.xG).le lx2 (PH.le.refl _));obtain⟨R4,h4,l4,d4,m4,g4,b'⟩:=post v R2 (h2.un x2) s3.uz ⟨h2,x2,d3,PH.dC _ _,PH.cP d3,b,K.mono l2 (PH.le.refl _) k⟩;exact⟨nx,v,w',he,ho,hs,R4,h4,l1.trans (l2.trans l4),s3.aT l4 d4 m4 g4,b'⟩
theorem aR.post{P}{o}{A}{B B'}(t:aR P o A B)(post:∀v,HP.aT (B v) (B' v)):aR P o A B':=
 t.bv (K:=HP.tt) (.of λ_ _=>HP.aD) λv=>(HP.aT.of λ_ _=>HP.ai).trans (post v)
theorem az.aK{P}{f}{args}{A A'}{B B'}(t:az P f args A B)(pre:∀R h,A'.p R h->A.p R h)(post:∀v R h,(B v).p R h->(B' v).p R h):az P f args A' B':=
 t.bv (K:=HP.tt) (.of λR h H=>HP.aD (pre R h H)) λv=>.of λR h H=>post v R h (HP.ai H)
theorem aR.aK{P}{o}{A A'}{B B'}(t:aR P o A B)(pre:∀R h,A'.p R h->A.p R h)(post:∀v R h,(B v).p R h->(B' v).p R h):aR P o A' B':=
 t.bv (K:=HP.tt) (.of λR h H=>HP.aD (pre R h H)) λv=>.of λR h H=>post v R h (HP.ai H)
theorem az.wk{P}{f}{args}{A}{B B'}(t:az P f args A B)(post:∀v R h,(B v).p R h->(B' v).p R h):az P f args A B':=t.aK (λ_ _ h=>h) post
theorem aR.wk{P}{o}{A}{B B'}(t:aR P o A B)(post:∀v R h,(B v).p R h->(B' v).p R h):aR P o A B':=t.aK (λ_ _ h=>h) post
theorem az.frame{P}{f}{args}{A}{B}(t:az P f args A B) K:az P f args (HP.aj A K) (λv=>HP.aj (B v) K):=
 t.bv (HP.aT.refl _) λ_=>HP.aT.refl _
theorem aR.frame{P}{o}{A}{B}(t:aR P o A B) K:aR P o (HP.aj A K) (λv=>HP.aj (B v) K):=
 t.bv (HP.aT.refl _) λ_=>HP.aT.refl _
theorem aR.cM{P}{o}{A}{B}{φ:Prop}(hf:∀R h,A.p R h->φ)(t:φ->aR P o A B):aR P o A B:=λw R h F s a=>t (hf R h a) w R h F s a
theorem az.cM{P}{f}{args}{A}{B}{φ:Prop}(hf:∀R h,A.p R h->φ)(t:φ->az P f args A B):az P f args A B:=λw R h F s a=>t (hf R h a) w R h F s a
theorem aM.aT{P}{s}{A A'}{v}(e:HP.aT A A')(r:aM P s A' v):aM P s A v:=λw R h F st a=>by
 obtain⟨R',h',q1,q2,q3,q4,a'⟩:=e R h st.uz a;exact r w R' h' F (st.aT q1 q2 q3 q4) a'
theorem az.pure{P}{f}{args}{A}{B}{φ:Prop}(t:φ->az P f args A B):az P f args (HP.aA φ A) B:=
 λw R h F s a=>t a.1 w R h F s a.2
theorem az.ex{P}{f}{args}{α:Type}{A:α->HP}{B}(t:∀x,az P f args (A x) B):az P f args (HP.aE A) B:=
 λw R h F s ⟨x,a⟩=>t x w R h F s a
theorem HP.swap{A B K}{R h}(H:(HP.aj A (HP.aj B K)).p R h):(HP.aj B (HP.aj A K)).p R h:=
 HP.au (HP.ae (HP.aC H) (λ_ h=>HP.ak h) λ_ h=>h)
theorem YQ.bv{P}{l}{args}{A A' K}{B B'}(t:YQ P l args A B)(pre:HP.aT A' (HP.aj A K))(post:∀v,HP.aT (HP.aj (B v) K) (B' v)):
 YQ P l args A' B':=λw R h F s a'=>by
 obtain⟨R1,h1,l1,d1,m1,g1,x1,x2,dx,lx1,lx2,a,k⟩:=pre R h s.uz a';have s1:=s.aT l1 d1 m1 g1;obtain⟨fn,tmps,KQ,body,hy,hr⟩:=t w R1 x1 _ (s1.cut dx lx1 lx2) a;refine⟨fn,tmps,KQ,body,hy,hr.mono λe w' ⟨v,he,hs,R2,h2,l2,s2,b⟩=>?_⟩;obtain⟨s3,d3⟩:=s2.join ((s1.xG).le lx2 (PH.le.refl _));obtain⟨R4,h4,l4,d4,m4,g4,b'⟩:=post v R2 (h2.un x2) s3.uz ⟨h2,x2,d3,PH.dC _ _,PH.cP d3,b,K.mono l2 (PH.le.refl _) k⟩;exact⟨v,he,hs,R4,h4,l1.trans (l2.trans l4),s3.aT l4 d4 m4 g4,b'⟩
theorem jG.bv{P}{fv}{args}{A A' K}{B B'}(t:jG P fv args A B)(pre:HP.aT A' (HP.aj A K))(post:∀v,HP.aT (HP.aj (B v) K) (B' v)):jG P fv args A' B':=by
 rcases t with⟨f,jy,e,g,t⟩|⟨l,e,t⟩
 ·exact .inl ⟨f,jy,e,g,t.bv pre post⟩
 ·exact .inr ⟨l,e,t.bv pre post⟩
theorem jG.aK{P}{fv}{args}{A A'}{B B'}(t:jG P fv args A B)(pre:∀R h,A'.p R h->A.p R h)(post:∀v R h,(B v).p R h->(B' v).p R h):jG P fv args A' B':=
 t.bv (K:=HP.tt) (.of λR h H=>HP.aD (pre R h H)) λv=>.of λR h H=>post v R h (HP.ai H)
theorem jG.wk{P}{fv}{args}{A}{B B'}(t:jG P fv args A B)(post:∀v R h,(B v).p R h->(B' v).p R h):jG P fv args A B':=t.aK (λ_ _ h=>h) post
end
open HP (aE aA aj tt aD ai au ae aC ak aW ah Az)
open _root_.Go.Proofs.Tryz (prog)
namespace RX
inductive en where
 |n (x:Nat)|i (x:Int)|c (x:Bool)|s (x:ax)|a (x:aG)|v (x:Value)|p (x:HP)
def en.nat:en->Nat| .n x=>x|_=>0
def en.int:en->Int| .i x=>x|_=>0
def en.bool:en->Bool| .c x=>x|_=>false
def en.str:en->ax| .s x=>x|_=>[]
def en.adr:en->aG| .a x=>x|_=>none
def en.val:en->Value| .v x=>x|_=>undef
def en.hp:en->HP| .p x=>x|_=>tt
@[simp] theorem rH x:(en.n x).nat=x:=rfl
@[simp] theorem pG x:(en.i x).int=x:=rfl
@[simp] theorem lE x:(en.c x).bool=x:=rfl
@[simp] theorem DP x:(en.s x).str=x:=rfl
@[simp] theorem Hf x:(en.a x).adr=x:=rfl
@[simp] theorem N2 x:(en.v x).val=x:=rfl
@[simp] theorem TF x:(en.p x).hp=x:=rfl
abbrev cd:=List en
def look:cd->Nat->en
 |[],_=>.i 0
 |x::_,0=>x
 |_::ρ,k+1=>look ρ k
inductive F1 where
 |neg|not|toNat|ofNat|wrap (k:IntKind)|inr (k:IntKind)|size|isSome
 deriving DecidableEq
inductive F2 where
 |add|sub|mul|quo|rem|shl (k:IntKind)|shr (k:IntKind)|bit (op:BinOp) (k:IntKind)|lt|le|eq|and|or|beq|seq|slt|cat|Hg|alz|mx|mn
 deriving DecidableEq
def F1.app:F1->en->en
 | .neg,x=>.i (-x.int)
 | .not,x=>.c (!x.bool)
 | .toNat,x=>.n x.int.toNat
 | .ofNat,x=>.i (x.nat:Int)
 | .wrap k,x=>.i (k.wrap x.int)
 | .inr k,x=>.c (decide (k.min<=x.int)&&decide (x.int<=k.max))
 | .size,x=>.n x.str.length
 | .isSome,x=>.c x.adr.isSome
def F2.app:F2->en->en->en
 | .add,x,y=>.i (x.int+y.int)
 | .sub,x,y=>.i (x.int - y.int)
 | .mul,x,y=>.i (x.int*y.int)
 | .quo,x,y=>.i (x.int.tdiv y.int)
 | .rem,x,y=>.i (x.int.tmod y.int)
 | .shl k,x,y=>.i (k.wrap (x.int*2^(min y.int.toNat k.bits)))
 | .shr k,x,y=>.i (x.int.fdiv (2^(min y.int.toNat k.bits)))
 | .bit op k,x,y=>.i (bits op k x.int y.int)
 | .lt,x,y=>.c (decide (x.int<y.int))
 | .le,x,y=>.c (decide (x.int<=y.int))
 | .eq,x,y=>.c (decide (x.int=y.int))
 | .and,x,y=>.c (x.bool&&y.bool)
 | .or,x,y=>.c (x.bool||y.bool)
 | .beq,x,y=>.c (x.bool==y.bool)
 | .seq,x,y=>.c (decide (x.str=y.str))
 | .slt,x,y=>.c (Op.bytesLess x.str y.str)
 | .cat,x,y=>.s (x.str++y.str)
 | .Hg,x,y=>.n (x.nat+y.nat)
 | .alz,x,y=>.n (x.nat - y.nat)
 | .mx,x,y=>.i (max x.int y.int)
 | .mn,x,y=>.i (min x.int y.int)
inductive E where
 |v (k:Nat)|i (x:Int)|n (x:Nat)|c (b:Bool)|s (x:ax)|o1 (f:F1) (a:E)|o2 (f:F2) (a b:E)
 deriving DecidableEq
def E.den(ρ:cd):E->en
 | .v k=>look ρ k
 | .i x=>.i x
 | .n x=>.n x
 | .c b=>.c b
 | .s x=>.s x
 | .o1 f a=>f.app (a.den ρ)
 | .o2 f a b=>f.app (a.den ρ) (b.den ρ)
def E.prop(ρ:cd):E->Prop
 | .c b=>b=true
 | .o1 .not a=>¬a.prop ρ
 | .o1 (.inr k) a=>k.min<=(a.den ρ).int/\(a.den ρ).int<=k.max
 | .o2 .lt a b=>(a.den ρ).int<(b.den ρ).int
 | .o2 .le a b=>(a.den ρ).int<=(b.den ρ).int
 | .o2 .eq a b=>(a.den ρ).int=(b.den ρ).int
 | .o2 .and a b=>a.prop ρ/\b.prop ρ
 | .o2 .or a b=>a.prop ρ\/b.prop ρ
 | .o2 .seq a b=>(a.den ρ).str=(b.den ρ).str
 |e=>(e.den ρ).bool=true
theorem l9(ρ:cd)(e:E):e.prop ρ↔(e.den ρ).bool=true:=by
 induction e with
 |o1 f a ih=>cases f<;>simp[E.prop,E.den,F1.app,en.bool,ih]<;>(cases a.den ρ<;>simp)
 |o2 f a b iha ihb=>cases f<;>simp[E.prop,E.den,F2.app,en.bool,iha,ihb]<;>(cases a.den ρ<;>cases b.den ρ<;>simp)
 |c b=>simp[E.prop,E.den,en.bool]
 |v k=>exact Iff.rfl
 |i x=>exact Iff.rfl
 |n x=>exact Iff.rfl
 |s x=>exact Iff.rfl
inductive BR where
 |v (k:Nat)|g (n:Nat)
 deriving DecidableEq
def BR.den(ρ:cd):BR->Nat
 | .v k=>(look ρ k).nat
 | .g n=>n
inductive SA where
 |nil|v (k:Nat)|b (r:BR) (off:Nat)
 deriving DecidableEq
def SA.den(ρ:cd):SA->aG
 | .nil=>none
 | .v k=>(look ρ k).adr
 | .b r off=>some ⟨r.den ρ,off,none⟩
inductive A where
 |int (k:IntKind) (e:E)|bool (e:E)|str (e:E)|ptr (r:BR) (off:Nat)|mz (s:Nat) (ix:E) (size off:Nat)
 |sl (s:SA) (len cap:E)|map (r:BR)|TG|Qn|TH|adn|val (k:Nat)|func (f:FuncId) (jy:List (BR×Nat))
 deriving DecidableEq
def eD:Value->Value
 | .agg _=>.nilIface
 | .tuple _=>.nilIface
 |v=>v
def K0(ρ:cd)(x:BR×Nat):Value:=.pointer (some ⟨x.1.den ρ,x.2,none⟩)
def A.den(ρ:cd):A->Value
 | .int k e=>.int k (e.den ρ).int
 | .bool e=>.bool (e.den ρ).bool
 | .str e=>.string ⟨(e.den ρ).str.toArray⟩
 | .ptr r off=>.pointer (some ⟨r.den ρ,off,none⟩)
 | .mz s ix size off=>.pointer ((look ρ s).adr.map λa=>(a.add ((ix.den ρ).int.toNat*size)).add off)
 | .sl s len cap=>.slice (s.den ρ) (len.den ρ).nat (cap.den ρ).nat
 | .map r=>.map (some (r.den ρ))
 | .TG=>.pointer none
 | .Qn=>.map none
 | .TH=>.nilFunc
 | .adn=>.nilIface
 | .val k=>eD (look ρ k).val
 | .func f jy=>.func (.func f) #[] (jy.map (K0 ρ)).toArray
inductive W where
 |a (x:A)|agg (l:List A)
 deriving DecidableEq
def W.den(ρ:cd):W->Value
 | .a x=>x.den ρ
 | .agg l=>.agg (l.map (A.den ρ)).toArray
inductive V where
 |w (x:W)|gY (l:List W)|nx (c k v:Nat)
 deriving DecidableEq
def V.den(ρ:cd):V->Value
 | .w x=>x.den ρ
 | .gY l=>.tuple (l.map (W.den ρ)).toArray
 | .nx c k v=>if(look ρ c).bool then .tuple #[.bool true,(look ρ k).val,(look ρ v).val]else .tuple #[.bool false]
inductive Key where
 |b (r:BR)|a (k:Nat)
 deriving DecidableEq
inductive C where
 |cells (l:List A) (ty:TypeId)|vB|prop (k:Nat)|rI
 deriving DecidableEq
abbrev Hp:=List (Key×C)
def jH(ρ:cd)(x:Key×C):HP:=
 match x.2,x.1 with
 | .cells l ty,.b r=>HP.one (r.den ρ) (.cells (l.map (A.den ρ)).toArray ty (0,0))
 | .vB,.b r=>HP.one (r.den ρ) (.map #[] 0)
 | .rI,.b r=>HP.one (r.den ρ) (.deferred (some []))
 | .prop k,_=>(look ρ k).hp
 |_,_=>HP.pure False
def cT(ρ:cd):Hp->HP
 |[]=>tt
 |x::r=>match r with
  |[]=>jH ρ x
  |_::_=>aj (jH ρ x) (cT ρ r)
theorem TI n h:UInt8.ofBitVec (BitVec.ofFin ⟨n,h⟩)=UInt8.ofNat n:=by
 apply UInt8.eq_of_toBitVec_eq;apply BitVec.eq_of_toNat_eq;simp[Nat.mod_eq_of_lt h]
inductive So where
 |n|i|c|s|a|v|p
 deriving DecidableEq
def KR:List So->cd->(cd->HP)->HP
 |[],ρ,f=>f ρ
 | .n::r,ρ,f=>aE λx:Nat=>KR r (ρ++[.n x]) f
 | .i::r,ρ,f=>aE λx:Int=>KR r (ρ++[.i x]) f
 | .c::r,ρ,f=>aE λx:Bool=>KR r (ρ++[.c x]) f
 | .s::r,ρ,f=>aE λx:ax=>KR r (ρ++[.s x]) f
 | .a::r,ρ,f=>aE λx:aG=>KR r (ρ++[.a x]) f
 | .v::r,ρ,f=>aE λx:Value=>KR r (ρ++[.v x]) f
 | .p::r,ρ,f=>aE λx:HP=>KR r (ρ++[.p x]) f
def N3:List So->cd->(cd->Prop)->Prop
 |[],ρ,f=>f ρ
 | .n::r,ρ,f=>∃x:Nat,N3 r (ρ++[.n x]) f
 | .i::r,ρ,f=>∃x:Int,N3 r (ρ++[.i x]) f
 | .c::r,ρ,f=>∃x:Bool,N3 r (ρ++[.c x]) f
 | .s::r,ρ,f=>∃x:ax,N3 r (ρ++[.s x]) f
 | .a::r,ρ,f=>∃x:aG,N3 r (ρ++[.a x]) f
 | .v::r,ρ,f=>∃x:Value,N3 r (ρ++[.v x]) f
 | .p::r,ρ,f=>∃x:HP,N3 r (ρ++[.p x]) f
def rv:List So->cd->(cd->Prop)->Prop
 |[],ρ,f=>f ρ
 | .n::r,ρ,f=>∀x:Nat,rv r (ρ++[.n x]) f
 | .i::r,ρ,f=>∀x:Int,rv r (ρ++[.i x]) f
 | .c::r,ρ,f=>∀x:Bool,rv r (ρ++[.c x]) f
 | .s::r,ρ,f=>∀x:ax,rv r (ρ++[.s x]) f
 | .a::r,ρ,f=>∀x:aG,rv r (ρ++[.a x]) f
 | .v::r,ρ,f=>∀x:Value,rv r (ρ++[.v x]) f
 | .p::r,ρ,f=>∀x:HP,rv r (ρ++[.p x]) f
def pE(α:Type):List So->Type
 |[]=>α
 | .n::r=>Nat->pE α r
 | .i::r=>Int->pE α r
 | .c::r=>Bool->pE α r
 | .s::r=>ax->pE α r
 | .a::r=>aG->pE α r
 | .v::r=>Value->pE α r
 | .p::r=>HP->pE α r
def pE.app{α:Type}:(l:List So)->pE α l->cd->α
 |[],f,_=>f
 | .n::r,f,ρ=>pE.app r (f (look ρ 0).nat) (ρ.drop 1)
 | .i::r,f,ρ=>pE.app r (f (look ρ 0).int) (ρ.drop 1)
 | .c::r,f,ρ=>pE.app r (f (look ρ 0).bool) (ρ.drop 1)
 | .s::r,f,ρ=>pE.app r (f (look ρ 0).str) (ρ.drop 1)
 | .a::r,f,ρ=>pE.app r (f (look ρ 0).adr) (ρ.drop 1)
 | .v::r,f,ρ=>pE.app r (f (look ρ 0).val) (ρ.drop 1)
 | .p::r,f,ρ=>pE.app r (f (look ρ 0).hp) (ρ.drop 1)
inductive FV where
 |n (r:BR)|e (e:E)|a (s:SA)|v (x:A)|p (h:Hp)
 deriving DecidableEq
def FV.den(ρ:cd):FV->en
 | .n r=>.n (r.den ρ)
 | .e y=>y.den ρ
 | .a s=>.a (s.den ρ)
 | .v x=>.v (x.den ρ)
 | .p h=>.p (cT ρ h)
inductive T where
 |ret (v:V) (h:Hp)
 |br (c:E) (a b:T)
 |need (c:E) (k:T)
 |new (k:T)
 |call (f:FuncId) (args:List W) (c:Hp) (ss:List So) (r:V) (nb:Hp) (k:T)
 |op (o:Op) (ty:TypeId) (ar:List (Nat×V)) (c:Hp) (ss:List So) (r:V) (nb:Hp) (k:T)
 |read (o:Op) (ty:TypeId) (ar:List (Nat×V)) (c:Hp) (ss:List So) (r:V) (k:T)
 |loop (ss:List So) (init:List FV) (body:T)
 |again (d:Nat) (fr:List FV)
 |all (a b:T)
 |fail (why:Nat)
 |om (v:Nat) (args:List W) (c:Hp) (ss:List So) (r:V) (nb:Hp) (k:T)
 |K1 (g:A) (c sh:Hp) (ss:List So) (init:List FV) (pss:List So) (TJ:List W) (pch:Hp) (lf aft:T)
 |join (ss:List So) (reg k:T)
 |abM (v:Nat) (name:String) (args:List W) (c:Hp) (ss:List So) (r:V) (nb:Hp) (k:T)
instance oE(n:Nat):OfNat E n:=⟨.v (@OfNat.ofNat Nat n (instOfNatNat n))⟩
instance oBR(n:Nat):OfNat BR n:=⟨.v (@OfNat.ofNat Nat n (instOfNatNat n))⟩
instance oSA(n:Nat):OfNat SA n:=⟨.v (@OfNat.ofNat Nat n (instOfNatNat n))⟩
instance oA(n:Nat):OfNat A n:=⟨.int .i64 (.v (@OfNat.ofNat Nat n (instOfNatNat n)))⟩
instance oW(n:Nat):OfNat W n:=⟨.a (.int .i64 (.v (@OfNat.ofNat Nat n (instOfNatNat n))))⟩
instance oV(n:Nat):OfNat V n:=⟨.w (.a (.int .i64 (.v (@OfNat.ofNat Nat n (instOfNatNat n)))))⟩
instance oK(n:Nat):OfNat Key n:=⟨.a (@OfNat.ofNat Nat n (instOfNatNat n))⟩
instance oC(n:Nat):OfNat C n:=⟨.prop (@OfNat.ofNat Nat n (instOfNatNat n))⟩
@[reducible] def A.k(x:Int):A:=.int .i64 (.i x)
@[reducible] def A.s(n:Nat):A:=.sl (.v n) (.v (n+1)) (.v (n+2))
@[reducible] def A.z:A:=.sl .nil (.n 0) (.n 0)
@[reducible] def A.F:A:=.bool (.c false)
@[reducible] def A.tt:A:=.bool (.c true)
@[reducible] def W.F:W:=.a .F
@[reducible] def W.tt:W:=.a .tt
@[reducible] def V.F:V:=.w .F
@[reducible] def V.tt:V:=.w .tt
@[reducible] def W.k(x:Int):W:=.a (.k x)
@[reducible] def W.s(n:Nat):W:=.a (.s n)
@[reducible] def W.z:W:=.a .z
@[reducible] def W.sl(s:SA)(l c:E):W:=.a (.sl s l c)
@[reducible] def W.bool(e:E):W:=.a (.bool e)
@[reducible] def W.str(e:E):W:=.a (.str e)
@[reducible] def W.ptr(r:BR)(o:Nat):W:=.a (.ptr r o)
@[reducible] def W.mz(s:Nat)(x:E)(z o:Nat):W:=.a (.mz s x z o)
@[reducible] def W.map(r:BR):W:=.a (.map r)
@[reducible] def W.val(k:Nat):W:=.a (.val k)
@[reducible] def V.k(x:Int):V:=.w (.k x)
@[reducible] def V.s(n:Nat):V:=.w (.s n)
@[reducible] def V.z:V:=.w .z
@[reducible] def V.sl(s:SA)(l c:E):V:=.w (.sl s l c)
@[reducible] def V.bool(e:E):V:=.w (.bool e)
@[reducible] def V.str(e:E):V:=.w (.str e)
@[reducible] def V.ptr(r:BR)(o:Nat):V:=.w (.ptr r o)
@[reducible] def V.mz(s:Nat)(x:E)(z o:Nat):V:=.w (.mz s x z o)
@[reducible] def V.map(r:BR):V:=.w (.map r)
@[reducible] def V.val(k:Nat):V:=.w (.val k)
@[reducible] def V.agg(l:List A):V:=.w (.agg l)
@[reducible] def E.not(a:E):E:=.o1 .not a
@[reducible] def E.eq(a b:E):E:=.o2 .eq a b
@[reducible] def E.lt(a b:E):E:=.o2 .lt a b
@[reducible] def E.le(a b:E):E:=.o2 .le a b
@[reducible] def E.add(a b:E):E:=.o2 .add a b
@[reducible] def E.sub(a b:E):E:=.o2 .sub a b
@[reducible] def nad(a b:E):E:=.o2 .Hg a b
@[reducible] def E.of(a:E):E:=.o1 .ofNat a
@[reducible] def E.is(a:E):E:=.o1 .isSome a
@[reducible] def FV.z(a:E):FV:=.e (.o1 .neg (.o1 .neg a))
@[reducible] def T.rg(e:E)(k:T):T:=.need (.o1 (.inr .i64) e) k
@[reducible] def T.ld(ty t:Nat)(p:V)(c:Hp)(ss:List So)(r:V)(k:T):T:=.read (.load ty (.tmp t)) ty [(t,p)] c ss r k
def ib(ρ:cd)(ar:List (Nat×V)):Operand->Value
 | .tmp t=>match ar.find? (·.1==t)with
   |some x=>x.2.den ρ
   |none=>undef
 | .const v=>v
 | .global g=>pt g
 | .func f=>.func (.func f) #[] #[]
def fp(ρ:cd)(o:Op)(ty:TypeId)(ar:List (Nat×V)):Sem Next:=execOp (ib ρ ar) {dst:=none,op:=o,type:=ty,pos:= "",after:= #[],guard:=none}
def T.den(P:Program)(post:Value->HP):T->List (cd->Prop)->cd->Prop
 | .ret v h,_,ρ=>HP.aT (cT ρ h) (post (v.den ρ))
 | .br c a b,L,ρ=>(c.prop ρ->a.den P post L ρ)/\(¬c.prop ρ->b.den P post L ρ)
 | .need c k,L,ρ=>c.prop ρ/\(c.prop ρ->k.den P post L ρ)
 | .new k,L,ρ=>∀x:Nat,k.den P post L (ρ++[.n x])
 | .call f args c ss r nb k,L,ρ=>az P f (args.map (W.den ρ)).toArray (cT ρ c) λv=>KR ss ρ λρ'=>aA (v=r.den ρ') (aA (k.den P post L ρ') (cT ρ' nb))
 | .op o ty ar c ss r nb k,L,ρ=>aR P (fp ρ o ty ar) (cT ρ c) λv=>KR ss ρ λρ'=>aA (v=r.den ρ') (aA (k.den P post L ρ') (cT ρ' nb))
 | .read o ty ar c ss r k,L,ρ=>N3 ss ρ λρ'=>aM P (fp ρ o ty ar) (cT ρ c) (r.den ρ')/\k.den P post L ρ'
 | .loop ss init body,L,ρ=>∃(I:pE Prop ss) (μ:pE Nat ss),pE.app ss I (init.map (FV.den ρ))/\
    rv ss ρ λρ'=>pE.app ss I (ρ'.drop ρ.length)->body.den P post ((λys=>pE.app ss I ys/\pE.app ss μ ys<pE.app ss μ (ρ'.drop ρ.length))::L) ρ'
 | .again d fr,L,ρ=>match L[d]? with
   |some X=>X (fr.map (FV.den ρ))
   |none=>False
 | .all a b,L,ρ=>a.den P post L ρ/\b.den P post L ρ
 | .fail _,_,_=>False
 | .om v args c ss r nb k,L,ρ=>jG P (look ρ v).val (args.map (W.den ρ)).toArray (cT ρ c) λv=>KR ss ρ λρ'=>aA (v=r.den ρ') (aA (k.den P post L ρ') (cT ρ' nb))
 | .K1 g c sh ss init pss TJ pch lf aft,L,ρ=>∃(γ:Type) (Sh:γ->HP) (Pr:γ->dI->HP) (may:γ->dI->γ->Prop) (iW:γ->Prop) (g0:γ) (I:γ->pE Prop ss),
    xH P (g.den ρ) (cT ρ c) Sh Pr may iW g0/\pE.app ss (I g0) (init.map (FV.den ρ))/\
    (∀g,rv ss ρ λρ'=>pE.app ss (I g) (ρ'.drop ρ.length)->Sh g=cT ρ' sh)/\
    (∀g args,(∃g',may g args g')->rv ss ρ λρ'=>pE.app ss (I g) (ρ'.drop ρ.length)->N3 pss ρ' λρ''=>args=(TJ.map (W.den ρ'')).toArray/\HP.aT (Pr g args) (cT ρ'' pch)/\
      lf.den P post ((λys=>∃g',may g args g'/\pE.app ss (I g') ys)::L) ρ'')/\
    (∀g,iW g->rv ss ρ λρ'=>pE.app ss (I g) (ρ'.drop ρ.length)->aft.den P post L ρ')
 | .join ss reg k,L,ρ=>∃I:pE Prop ss,reg.den P post ((λys=>pE.app ss I ys)::L) ρ/\rv ss ρ λρ'=>pE.app ss I (ρ'.drop ρ.length)->k.den P post L ρ'
 | .abM v name args c ss r nb k,L,ρ=>YR P (look ρ v).val name (args.map (W.den ρ)).toArray (cT ρ c) λv=>KR ss ρ λρ'=>aA (v=r.den ρ') (aA (k.den P post L ρ') (cT ρ' nb))
structure JH where
 YS:Bool:=false
 ss:List So:=[]
 n:Nat:=0
 tv:List (Tmp×Option V):=[]
 h:Hp:=[]
 lk:List (Nat×Key):=[]
structure jo where
 iS:List TypeId:=[]
 fk:List TypeId:=[]
 hv:List (Nat×List Key):=[]
 aF:List FuncId:=[]
 link:List (FuncId×Nat):=[]
 bU:List (FuncId×List Nat):=[]
 aT:List (Tmp×List TypeId):=[]
 shr:List (Nat×List Key):=[]
 vt:List Key:=[]
 mkd:List Tmp:=[]
 agG:List (FuncId×Nat×Nat):=[]
 YA:List (Nat×List TypeId):=[]
 K3:Bool:=false
 YT:List Key:=[]
 snk:List (Nat×List Key):=[]
 jn:List ((Nat×Nat)×Option JH):=[]
 jd:Bool:=false
 dN:Bool:=false
 ck:List TypeId:=[]
 dv:Bool:=false
 TK:List (Nat×Key×List Nat):=[]
 apa:Bool:=false
 cut:List FuncId:=[]
 iV:List (Nat×Nat×Key):=[]
 stc:List (Key×List Nat):=[]
 jb:Bool:=false
 nj:List Nat:=[]
 vlk:Bool:=false
structure S where
 t:List (Option V)
 h:Hp
 n:Nat
 kn:List (E×Bool)
 lk:List (Nat×Key)
 dp:Nat
 blk:Nat
 df:List BR
def E.fm(n:Nat):E->Bool
 | .v k=>Nat.blt k n
 | .o1 _ a=>a.fm n
 | .o2 _ a b=>a.fm n&&b.fm n
 |_=>true
def BR.fm(n:Nat):BR->Bool
 | .v k=>Nat.blt k n
 | .g _=>true
def SA.fm(n:Nat):SA->Bool
 | .nil=>true
 | .v k=>Nat.blt k n
 | .b r _=>r.fm n
def A.fm(n:Nat):A->Bool
 | .int _ e=>e.fm n
 | .bool e=>e.fm n
 | .str e=>e.fm n
 | .ptr r _=>r.fm n
 | .mz s ix _ _=>Nat.blt s n&&ix.fm n
 | .sl s l c=>s.fm n&&l.fm n&&c.fm n
 | .map r=>r.fm n
 | .val k=>Nat.blt k n
 | .func _ cs=>cs.all λx=>x.1.fm n
 |_=>true
def W.fm(n:Nat):W->Bool
 | .a x=>x.fm n
 | .agg l=>l.all (A.fm n)
def V.fm(n:Nat):V->Bool
 | .w x=>x.fm n
 | .gY l=>l.all (W.fm n)
 | .nx c k v=>Nat.blt c n&&Nat.blt k n&&Nat.blt v n
def Key.fm(n:Nat):Key->Bool
 | .b r=>r.fm n
 | .a k=>Nat.blt k n
def C.fm(n:Nat):C->Bool
 | .cells l _=>l.all (A.fm n)
 | .vB=>true
 | .rI=>true
 | .prop k=>Nat.blt k n
def AA(n:Nat)(h:Hp):Bool:=h.all λx=>x.1.fm n&&x.2.fm n
def S.fm(s:S):Bool:=(s.t.all λ|some v=>v.fm s.n|none=>true)&&AA s.n s.h&&s.df.all (BR.fm s.n)&&s.kn.all λx=>x.1.fm s.n
def S.put(s:S)(d:Option Tmp)(v:V):S:=match d with
 |some k=>{s with t:=s.t.set k (some v)}
 |none=>s
def mapM'{α β:Type}(f:α->Option β):List α->Option (List β)
 |[]=>some []
 |x::r=>match f x with
  |some y=>match mapM' f r with
   |some l=>some (y::l)
   |none=>none
  |none=>none
def AB:Value->Option A
 | .int k n=>some (.int k (.i n))
 | .bool b=>some (.bool (.c b))
 | .string s=>some (.str (.s s.data.toList))
 | .pointer none=>some .TG
 | .slice none 0 0=>some (.sl .nil (.n 0) (.n 0))
 | .map none=>some .Qn
 | .nilFunc=>some .TH
 | .nilIface=>some .adn
 |_=>none
def Hh:Value->Option W
 | .agg cs=>(mapM' AB cs.toList).map .agg
 |v=>(AB v).map .a
def ev(s:S):Operand->Option V
 | .tmp t=>match s.t[t]? with
   |some o=>o
   |none=>none
 | .const v=>(Hh v).map .w
 | .global g=>some (.w (.a (.ptr (.g g) 0)))
 | .func f=>some (.w (.a (.func f [])))
def oo(s:S)(x:Operand):Option A:=match ev s x with
 |some (.w (.a y))=>some y
 |_=>none
def N4(s:S)(x:Operand):Option W:=match ev s x with
 |some (.w y)=>some y
 |_=>none
def W.list:W->List A
 | .a x=>[x]
 | .agg l=>l
def gZ(P:Program)(t:TypeId):Bool:=match P.underlying t with
 |some (.struct _)=>true
 |some (.array _ _)=>true
 |_=>false
def iA(P:Program)(t:TypeId):Nat:=match P.info? t with
 |some i=>i.size
 |none=>0
def AC(P:Program)(t:TypeId)(l:List A)(off:Nat):Option W:=match P.underlying t with
 |none=>none
 |some _=>if gZ P t then(if off+iA P t<=l.length then some (.agg ((l.drop off).take (iA P t)))else none)else(l[off]?).map .a
def isLit:E->Option Bool
 | .c b=>some b
 |_=>none
def Fh:List (E×Bool)->E->Option Bool
 |[],_=>none
 |(x,b)::r,e=>if x=e then some b else if x=.o1 .not e then some (!b)else if e=.o1 .not x then some (!b)else Fh r e
def tU(l:List (E×Bool))(e:E):Option Bool:=match isLit e with
 |some b=>some b
 |none=>Fh l e
def N5:E->E
 | .c b=>.c (!b)
 |e=>.o1 .not e
def vC(f:F2)(a b:E):E:=match f,a,b with
 | .lt,.i x,.i y=>.c (decide (x<y))
 | .le,.i x,.i y=>.c (decide (x<=y))
 | .eq,.i x,.i y=>.c (decide (x=y))
 |_,_,_=>.o2 f a b
def tV(e:E)(l:List E):List E:=match e with
 | .c true=>l
 |_=>e::l
def rng(k:IntKind)(e:E):E:=match e with
 | .i x=>if k.min<=x/\x<=k.max then .c true else .o1 (.inr k) e
 |_=>.o1 (.inr k) e
def arith(op:BinOp)(a b:E):Option E:=match op,a,b with
 | .add,.i x,.i y=>some (.i (x+y))
 | .sub,.i x,.i y=>some (.i (x - y))
 | .mul,.i x,.i y=>some (.i (x*y))
 | .add,_,_=>some (.o2 .add a b)
 | .sub,_,_=>some (.o2 .sub a b)
 | .mul,_,_=>some (.o2 .mul a b)
 |_,_,_=>none
def Fi(op:BinOp)(k:IntKind)(a b:E):Option (List E×A):=match op with
 | .add| .sub| .mul=>match arith op a b with
   |some e=>if k.signed then some (tV (rng k e) [],.int k e)else some ([],.int k (.o1 (.wrap k) e))
   |none=>none
 | .quo=>match a,b with
   | .i x,.i y=>if y≠0/\k.min<=x.tdiv y/\x.tdiv y<=k.max then some ([],.int k (.i (x.tdiv y)))else none
   |_,_=>some (tV (N5 (vC .eq b (.i 0))) (tV (rng k (.o2 .quo a b)) []),.int k (.o2 .quo a b))
 | .rem=>match a,b with
   | .i x,.i y=>if y≠0 then some ([],.int k (.i (x.tmod y)))else none
   |_,_=>some (tV (N5 (vC .eq b (.i 0))) [],.int k (.o2 .rem a b))
 | .and| .or| .xor| .andNot=>some ([],.int k (.o2 (.bit op k) a b))
 | .eql=>some ([],.bool (vC .eq a b))
 | .neq=>some ([],.bool (N5 (vC .eq a b)))
 | .lss=>some ([],.bool (vC .lt a b))
 | .leq=>some ([],.bool (vC .le a b))
 | .gtr=>some ([],.bool (vC .lt b a))
 | .geq=>some ([],.bool (vC .le b a))
 |_=>none
def adp(a b:IntKind):Bool:=decide (b.min<=a.min)&&decide (a.max<=b.max)
def AD:A->Option E
 | .TG=>some (.c true)
 | .Qn=>some (.c true)
 | .TH=>some (.c true)
 | .ptr _ _=>some (.c false)
 | .map _=>some (.c false)
 | .func _ _=>some (.c false)
 | .sl .nil _ _=>some (.c true)
 | .sl (.v k) _ _=>some (N5 (.o1 .isSome (.v k)))
 | .sl (.b _ _) _ _=>some (.c false)
 |_=>none
def rJ:A->Bool
 | .TG=>true
 | .Qn=>true
 | .TH=>true
 | .sl .nil (.n 0) (.n 0)=>true
 |_=>false
def gn(P:Program)(t:TypeId)(x:A):Bool:=match P.underlying t,x with
 |some (.pointer _),.TG=>true
 |some (.pointer _),.ptr _ _=>true
 |some (.map _ _),.Qn=>true
 |some (.map _ _),.map _=>true
 |some (.slice _),.sl _ _ _=>true
 |some (.func _ _ _),.TH=>true
 |some (.func _ _ _),.func _ _=>true
 |_,_=>false
def N6(P:Program)(t:TypeId):Bool:=match P.underlying t with
 |some .bool=>true
 |_=>false
def alC(P:Program)(t:TypeId):Bool:=match P.underlying t with
 |some .string=>true
 |_=>false
def adq(P:Program)(op:BinOp)(t:TypeId)(x y:A):Option (List E×A):=match op,x,y with
 | .shl,.int k a,.int _ b=>some (tV (vC .le (.i 0) b) [],.int k (.o2 (.shl k) a b))
 | .shr,.int k a,.int _ b=>some (tV (vC .le (.i 0) b) [],.int k (.o2 (.shr k) a b))
 |_,.int k a,.int k' b=>if k=k' then Fi op k a b else none
 | .eql,.bool a,.bool b=>if N6 P t then some ([],.bool (.o2 .beq a b))else none
 | .neq,.bool a,.bool b=>if N6 P t then some ([],.bool (N5 (.o2 .beq a b)))else none
 | .eql,.str a,.str b=>some ([],.bool (.o2 .seq a b))
 | .neq,.str a,.str b=>some ([],.bool (N5 (.o2 .seq a b)))
 | .add,.str a,.str b=>some ([.o2 .le (.o1 .ofNat (.o2 .Hg (.o1 .size a) (.o1 .size b))) (.i 9223372036854775807)],.str (.o2 .cat a b))
 | .lss,.str a,.str b=>some ([],.bool (.o2 .slt a b))
 | .eql,a,b=>if rJ b&&gn P t a&&gn P t b then(AD a).map λe=>([],.bool e)else if rJ a&&gn P t a&&gn P t b then(AD b).map λe=>([],.bool e)else none
 | .neq,a,b=>if rJ b&&gn P t a&&gn P t b then(AD a).map λe=>([],.bool (N5 e))else if rJ a&&gn P t a&&gn P t b then(AD b).map λe=>([],.bool (N5 e))else none
 |_,_,_=>none
def TL:V->Option (BR×Nat)
 | .w (.a (.ptr r off))=>some (r,off)
 |_=>none
def TM(e:E)(a b:E):E:=match a,b with
 | .c true,_=>.o2 .or e b
 |_,.c false=>.o2 .and e a
 |_,_=>.o2 .or (.o2 .and e a) (.o2 .and (N5 e) b)
def natLit:E->Option Nat
 | .i x=>if 0<=x then some x.toNat else none
 |_=>none
def ads:E->Option Nat
 | .n x=>some x
 |_=>none
def oq(h:Hp)(k:Key):Option C:=match h with
 |[]=>none
 |(x,c)::r=>if x=k then some c else oq r k
def K4(s:S)(fn:Fn)(first jy:Array Operand):Option (List E×V):=match fn,first.toList with
 | .func f,[]=>match mapM' (ev s) jy.toList with
   |some vs=>(mapM' TL vs).map λcs=>([],.w (.a (.func f cs)))
   |none=>none
 |_,_=>none
def N7(P:Program)(s:S)(x:Operand)(t:TypeId):Option (List E×V):=match P.underlying t,oo s x with
 |some (.slice _),some (.sl _ len _)=>some ([],.w (.a (.int .i64 (match len with| .n q=>.i q|_=>.o1 .ofNat len))))
 |some .string,some (.str e)=>some ([],.w (.a (.int .i64 (match e with| .s q=>.i q.length|_=>.o1 .ofNat (.o1 .size e)))))
 |some (.map _ _),some .Qn=>some ([],.w (.a (.int .i64 (.i 0))))
 |_,_=>none
def N8(P:Program)(s:S)(x:Operand)(t:TypeId):Option (List E×V):=match P.underlying t,oo s x with
 |some (.slice _),some (.sl _ _ cap)=>some ([],.w (.a (.int .i64 (.o1 .ofNat cap))))
 |_,_=>none
def Fj(f:F2)(s:S)(x y:Operand):Option (List E×V):=match oo s x,oo s y with
 |some (.int k a),some (.int k' b)=>if k=k' then some ([],.w (.a (.int k (.o2 f a b))))else none
 |_,_=>none
def AE(P:Program)(s:S)(c:Call):Option (List E×V):=match c.callee,c.args.toList,c.argTypes.toList with
 | .builtin .len,[x],[t]=>N7 P s x t
 | .builtin .cap,[x],[t]=>N8 P s x t
 | .builtin .max,[x,y],_=>Fj .mx s x y
 | .builtin .min,[x,y],_=>Fj .mn s x y
 |_,_,_=>none
def K5(P:Program)(s:S)(t:TypeId)(x ix:Operand):Option (List E×V):=match P.underlying t,oo s x,oo s ix with
 |some (.slice el),some (.sl (.v k) len _),some (.int _ e)=>if(P.info? el).isSome then some (tV (vC .le (.i 0) e) [.o2 .lt e (.o1 .ofNat len),.o1 .isSome (.v k)],.w (.a (.mz k e (iA P el) 0)))else none
 |some (.slice el),some (.sl (.b r off) len _),some (.int _ e)=>match natLit e,ads len with
  |some i,some n=>if i<n/\(P.info? el).isSome then some ([],.w (.a (.ptr r (off+i*iA P el))))else none
  |_,_=>none
 |some (.array n el),some (.ptr r off),some (.int _ e)=>match natLit e with
  |some i=>if i<n/\(P.info? el).isSome then some ([],.w (.a (.ptr r (off+i*iA P el))))else none
  |none=>none
 |_,_,_=>none
def xI(P:Program)(s:S):Op->Option (List E×V)
 | .move x| .assign x=>(ev s x).map λv=>([],v)
 | .pick c a b=>match oo s c with
   |some (.bool e)=>match tU s.kn e with
    |some true=>(ev s a).map λv=>([],v)
    |some false=>(ev s b).map λv=>([],v)
    |none=>match oo s a,oo s b with
     |some (.bool x),some (.bool y)=>some ([],.w (.a (.bool (TM e x y))))
     |_,_=>none
   |_=>none
 | .nilCheck x=>match ev s x with
   |some (.w (.a (.ptr r off)))=>some ([],.w (.a (.ptr r off)))
   |some (.w (.a (.func f cs)))=>some ([],.w (.a (.func f cs)))
   |some (.w (.a (.mz k ix sz off)))=>if tU s.kn (.o1 .isSome (.v k))=some true then some ([],.w (.a (.mz k ix sz off)))else none
   |_=>none
 | .fieldAddr t x f=>match P.underlying t with
   |some (.struct fs)=>match fs[f]? with
    |some fd=>if iA P fd.type=0 then none else match oo s x with
     |some (.ptr r off)=>some ([],.w (.a (.ptr r (off+fd.offset))))
     |some (.mz k ix sz off)=>if tU s.kn (.o1 .isSome (.v k))=some true then some ([],.w (.a (.mz k ix sz (off+fd.offset))))else none
     |_=>none
    |none=>none
   |_=>none
 | .field t x f=>match P.underlying t with
   |some (.struct fs)=>match fs[f]? with
    |some fd=>match N4 s x with
     |some (.agg l)=>(AC P fd.type l fd.offset).map λw=>([],.w w)
     |_=>none
    |none=>none
   |_=>none
 | .extract x i=>match ev s x with
   |some (.gY l)=>(l[i]?).map λw=>([],.w w)
   |some (.nx c _ _)=>if i=0 then some ([],.w (.a (.bool (.v c))))else none
   |_=>none
 | .load t a=>match oo s a with
   |some (.ptr r off)=>match oq s.h (.b r)with
    |some (.cells l _)=>(AC P t l off).map λw=>([],.w w)
    |_=>none
   |_=>none
 | .binOp op t x y _=>match oo s x,oo s y with
   |some a,some b=>(adq P op t a b).map λr=>(r.1,.w (.a r.2))
   |_,_=>none
 | .unOp .not _ x=>match oo s x with
   |some (.bool e)=>some ([],.w (.a (.bool (N5 e))))
   |_=>none
 | .unOp .neg _ x=>match oo s x with
   |some (.int k e)=>(Fi .sub k (.i 0) e).map λr=>(r.1,.w (.a r.2))
   |_=>none
 | .convert src dst x=>match P.underlying src,P.underlying dst,oo s x with
   |some (.int sk),some (.int k),some (.int k' e)=>if sk=k' then(if adp sk k then some (tV (rng k e) [],.w (.a (.int k e)))else some ([],.w (.a (.int k (.o1 (.wrap k) e)))))else none
   |some .string,some .string,some (.str e)=>some ([],.w (.a (.str e)))
   |_,_,_=>none
 | .makeFunc fn first jy=>K4 s fn first jy
 | .indexAddr t x ix=>K5 P s t x ix
 | .call c=>AE P s c
 |_=>none
structure pH where
 ss:List So
 l:List A
 h:Hp
 n:Nat
def adt(n:Nat):A->pH
 | .int k _=>⟨[.i],[.int k (.v n)],[],n+1⟩
 | .bool _=>⟨[.c],[.bool (.v n)],[],n+1⟩
 | .str _=>⟨[.s],[.str (.v n)],[],n+1⟩
 | .ptr _ _=>⟨[.n,.p],[.ptr (.v n) 0],[(.b (.v n),.prop (n+1))],n+2⟩
 | .sl _ _ _=>⟨[.a,.n,.n,.p],[.sl (.v n) (.v (n+1)) (.v (n+2))],[(.a n,.prop (n+3))],n+4⟩
 | .map _=>⟨[.n,.p],[.map (.v n)],[(.b (.v n),.prop (n+1))],n+2⟩
 | .func f cs=>⟨[],[.func f cs],[],n⟩
 |_=>⟨[.v,.p],[.val n],[(.a n,.prop (n+1))],n+2⟩
def abN(n:Nat):List A->pH
 |[]=>⟨[],[],[],n⟩
 |x::r=>
  let a:=adt n x
  let b:=abN a.n r
  ⟨a.ss++b.ss,a.l++b.l,a.h++b.h,b.n⟩
def agI(f:Nat->pH)(n:Nat):Nat->pH
 |0=>⟨[],[],[],n⟩
 |k+1=>
  let a:=f n
  let b:=agI f a.n k
  ⟨a.ss++b.ss,a.l++b.l,a.h++b.h,b.n⟩
def abO(f:TypeId->Nat->pH)(n:Nat):List TypeId->pH
 |[]=>⟨[],[],[],n⟩
 |t::r=>
  let a:=f t n
  let b:=abO f a.n r
  ⟨a.ss++b.ss,a.l++b.l,a.h++b.h,b.n⟩
def Qo(own:Bool)(k:Key)(ss:List So)(l:List A)(n:Nat):pH:=if own then⟨ss++[.p],l,[(k,.prop n)],n+1⟩else⟨ss,l,[],n⟩
def shT(P:Program)(bt:jo)(own:Bool):Nat->TypeId->Nat->pH
 |0,_,n=>⟨[],[],[],n⟩
 |fuel+1,t,n=>match P.underlying t with
  |some .bool=>⟨[.c],[.bool (.v n)],[],n+1⟩
  |some (.int k)=>⟨[.i],[.int k (.v n)],[],n+1⟩
  |some .string=>⟨[.s],[.str (.v n)],[],n+1⟩
  |some (.pointer _)=>if bt.fk.contains t then Qo own (.a n) [.v] [.val n] (n+1)else Qo own (.b (.v n)) [.n] [.ptr (.v n) 0] (n+1)
  |some (.slice _)=>Qo own (.a n) [.a,.n,.n] [.sl (.v n) (.v (n+1)) (.v (n+2))] (n+3)
  |some (.map _ _)=>if bt.fk.contains t then Qo own (.a n) [.v] [.val n] (n+1)else Qo own (.b (.v n)) [.n] [.map (.v n)] (n+1)
  |some (.struct fs)=>abO (shT P bt own fuel) n (fs.toList.map (·.type))
  |some (.array k e)=>agI (shT P bt own fuel e) n k
  |_=>Qo own (.a n) [.v] [.val n] (n+1)
def asW(P:Program)(t:TypeId)(l:List A):W:=if gZ P t then .agg l else match l with
 |[x]=>.a x
 |_=>.agg l
structure xJ where
 ss:List So
 v:V
 h:Hp
 n:Nat
def Qp(P:Program)(bt:jo)(own:Bool)(n:Nat):List TypeId->List So×List W×Hp×Nat
 |[]=>([],[],[],n)
 |t::r=>
  let a:=shT P bt own 20 t n
  let b:=Qp P bt own a.n r
  (a.ss++b.1,asW P t a.l::b.2.1,a.h++b.2.2.1,b.2.2.2)
def shR(P:Program)(bt:jo)(own:Bool)(n:Nat):List TypeId->xJ
 |[t]=>
  let a:=shT P bt own 20 t n
  ⟨a.ss,.w (asW P t a.l),a.h,a.n⟩
 |ts=>
  let b:=Qp P bt own n ts
  ⟨b.1,.gY b.2.1,b.2.2.1,b.2.2.2⟩
def shO(P:Program)(bt:jo)(own:Bool)(n:Nat)(t:TypeId):xJ:=match P.underlying t with
 |some (.tuple ts)=>shR P bt own n ts.toList
 |_=>shR P bt own n [t]
def fR:A->List Key
 | .ptr r _=>[.b r]
 | .mz k _ _ _=>[.a k]
 | .sl (.v k) _ _=>[.a k]
 | .sl (.b r _) _ _=>[.b r]
 | .map r=>[.b r]
 | .func _ cs=>cs.map λx=>.b x.1
 | .val k=>[.a k]
 |_=>[]
def rK:V->List Key
 | .w x=>x.list.flatMap fR
 | .gY l=>l.flatMap λx=>x.list.flatMap fR
 | .nx _ k v=>[.a k,.a v]
def oU(lk:List (Nat×Key)):Key->List Key
 | .b (.v k)=>(lk.filter λx=>x.1==k).map (·.2)
 | .a k=>(lk.filter λx=>x.1==k).map (·.2)
 |_=>[]
def jv(h:Hp)(lk:List (Nat×Key)):Nat->List Key->List Key->List Key
 |0,_,acc=>acc
 |_,[],acc=>acc
 |fuel+1,k::todo,acc=>
  if acc.contains k then jv h lk fuel todo acc
  else
   let Da:=oU lk k++match oq h k with
    |some (.cells l _)=>l.flatMap fR
    |_=>[]
   jv h lk fuel (Da++todo) (acc++[k])
def tW(h:Hp):List Key->Hp
 |[]=>[]
 |k::r=>match oq h k with
  |some c=>(k,c)::tW h r
  |none=>tW h r
def kC:Hp->Bool
 |[]=>true
 |x::r=> !r.contains x&&kC r
def K6(m l:Hp):Bool:=kC m&&m.all λx=>l.contains x
structure adu where
 ss:List So
 h:Hp
 n:Nat
def tX(bt:jo)(h:Hp)(n:Nat):List Key->adu
 |[]=>⟨[],[],n⟩
 |k::r=>match oq h k with
  |none=>tX bt h n r
  |some (.cells l ty)=>
   if bt.iS.contains ty then
    let b:=tX bt h (n+1) r
    ⟨.p::b.ss,(k,.prop n)::b.h,b.n⟩
   else
    let a:=abN n l
    let b:=tX bt h a.n r
    ⟨a.ss++b.ss,(k,.cells a.l ty)::a.h++b.h,b.n⟩
  |some _=>
   let b:=tX bt h (n+1) r
   ⟨.p::b.ss,(k,.prop n)::b.h,b.n⟩
def Fk(ks:List Nat):Nat->Nat->List A->pH
 |_,n,[]=>⟨[],[],[],n⟩
 |i,n,x::r=>
  if ks.contains i then
   let a:=adt n x
   let b:=Fk ks (i+1) a.n r
   ⟨a.ss++b.ss,a.l++b.l,a.h++b.h,b.n⟩
  else
   let b:=Fk ks (i+1) n r
   ⟨b.ss,x::b.l,b.h,b.n⟩
def K7(bt:jo)(h:Hp)(n:Nat):List Key->adu
 |[]=>⟨[],[],n⟩
 |k::r=>match bt.stc.find? (·.1=k),oq h k with
  |some x,some (.cells l ty)=>
   let a:=Fk x.2 0 n l
   let b:=K7 bt h a.n r
   ⟨a.ss++b.ss,(k,.cells a.l ty)::a.h++b.h,b.n⟩
  |_,_=>
   let a:=tX bt h n [k]
   let b:=K7 bt h a.n r
   ⟨a.ss++b.ss,a.h++b.h,b.n⟩
def brE(s:S)(e:E)(kt kf:S->T):T:=match tU s.kn e with
 |some true=>kt s
 |some false=>kf s
 |none=>if s.fm&&e.fm s.n then .br e (kt {s with kn:=(e,true)::s.kn}) (kf {s with kn:=(e,false)::s.kn})else .fail 1
def DQ:List E->(S->T)->S->T
 |[],K,s=>K s
 |e::r,K,s=>if tU s.kn e=some true then DQ r K s else if e.fm s.n then .need e (DQ r K {s with kn:=(e,true)::s.kn})else .fail 2
def N9(c:Call):List Operand:=(match c.callee with| .value f=>[f]| .invoke r _=>[r]| .builtin _=>[])++c.args.toList
def TN:Op->List Operand
 | .makeFunc _ first captured=>first.toList++captured.toList
 | .slice _ x l h m=>x::(l.toList++(h.toList++m.toList))
 | .call c=>N9 c
 |o=>o.operands.toList
theorem TO c:c.operands.toList=N9 c:=by
 rcases c with⟨f,a,b⟩;cases f<;>simp[N9,Call.operands]
theorem Oa o:o.operands.toList=TN o:=by
 cases o with
 |call c=>exact TO c
 |makeFunc _ _ _=>simp[TN,Op.operands]
 |slice _ _ _ _ _=>simp[TN,Op.operands]
 |_=>rfl
def qx(o:Op):List Tmp:=(TN o).filterMap λ| .tmp t=>some t|_=>none
def Qq(s:S):List Tmp->Option (List (Nat×V))
 |[]=>some []
 |t::r=>match ev s (.tmp t)with
  |some v=>(Qq s r).map λl=>(t,v)::l
  |none=>none
def Hi(P:Program)(t:TypeId):Bool:=match P.underlying t with
 |some (.pointer _)=>true
 |_=>false
def adw(P:Program)(t:TypeId):Bool:=match P.underlying t with
 |some (.func _ _ _)=>true
 |_=>false
def alD(P:Program)(t:TypeId):Bool:=Hi P t||match P.underlying t with
 |some (.struct fs)=>fs.toList.any λf=>Hi P f.type
 |_=>false
def AF:Op->Bool
 | .lookup .. | .load .. | .binOp .. | .index .. | .slice .. | .field .. | .typeAssert .. =>true
 | .call {callee:=.builtin .len,..}=>true
 | .call {callee:=.builtin .max,..}=>true
 | .call {callee:=.builtin .min,..}=>true
 | .convert .. =>true
 | .entry _=>true
 | .nilCheck _=>true
 | .fieldAddr .. =>true
 | .indexAddr .. =>true
 |_=>false
def slT(P:Program)(t:TypeId):Bool:=match P.underlying t with
 |some (.slice _)=>true
 |_=>false
def adx:Op->Bool
 | .convert .. =>true
 |_=>false
def agL(P:Program):Op->Bool
 | .convert src dst _=>alC P src||(slT P src&&slT P dst)
 | .load t _=>Hi P t
 | .lookup t _ _ _=>match P.underlying t with
   |some (.map _ e)=>Hi P e
   |_=>false
 |_=>false
def agM:Op->Bool
 | .store .. | .mapUpdate .. | .insert .. | .entryStore .. =>true
 |_=>false
def Fl(v:V):List Nat:=(rK v).filterMap λ
 | .a k=>some k
 |_=>none
def me:Nat:=1000000
def Hj(s:S)(x:A):List Key:=(fR x)++(fR x).flatMap (oU s.lk)
def Ob(v:V):List Nat:=(rK v).filterMap λ
 | .b (.v k)=>some k
 |_=>none
def agN:Key->List Nat
 | .b (.v k)=>[k]
 | .a k=>[k]
 |_=>[]
def vD(o:Op)(s:S)(n:Nat)(v:V):List (Nat×Key):=match o with
 | .nilCheck x=>match oo s x,v with
   |some (.val k),.w (.a (.ptr (.v j) _))=>if s.n<=j then(Hj s (.val k)).map λq=>(j,q)else[]
   |_,_=>[]
 | .fieldAddr _ x _=>match oo s x,v with
   |some y,.w (.a (.val k))=>(Hj s y).map λq=>(k,q)
   |_,_=>[]
 | .indexAddr _ x _=>match oo s x,v with
   |some y,.w (.a (.val k))=>(Hj s y).map λq=>(k,q)
   |_,_=>[]
 | .call c=>match c.callee,v with
   | .value (.func _),.w (.a (.val k))=>(c.args.toList.flatMap λx=>match oo s x with|some y=>Hj s y|none=>[]).map λq=>(k,q)
   |_,_=>[]
 | .convert _ _ x=>match oo s x,v with
   |some a,.w (.a (.sl (.v k) _ _))=>(fR a).map λq=>(k,q)
   |some a,.w (.a (.val k))=>(Hj s a).map λq=>(k,q)
   |_,_=>[]
 | .slice _ x .. =>match oo s x,v with
   |some a,.w (.a (.sl (.v k) _ _))=>(fR a).map λq=>(k,q)
   |_,_=>[]
 | .range _ x=>match oo s x with
   |some a=>(fR a).map λq=>(n,q)
   |_=>[]
 | .load _ x=>match oo s x,v with
   |some (.mz k _ _ _),.w (.a (.ptr r _))=>[(k,.b r),(k+me,.b r)]
   |some (.mz k _ _ _),.w (.agg l)=>l.flatMap λ
    | .ptr r _=>[(k,.b r),(k+me,.b r)]
    | .val j=>[(k,.a j),(k+me,.a j)]
    | .sl (.v j) _ _=>[(j,.a k)]
    |_=>[]
   |some y,v=>((Fl v).flatMap λk=>(fR y).map λq=>(k,q))++(Ob v).flatMap λk=>(Hj s y).map λq=>(k,q)
   |_,_=>[]
 | .lookup _ x _ _=>match oo s x with
   |some y=>((Fl v).flatMap λk=>(Hj s y).map λq=>(k,q))++(Ob v).flatMap λk=>(Hj s y).flatMap λq=>(agN q).flatMap λj=>[(j,.b (.v k)),(j+me,.b (.v k))]
   |_=>[]
 | .entry x=>match oo s x with
   |some y=>(Fl v).flatMap λk=>((fR y).flatMap (oU s.lk)).map λq=>(k,q)
   |_=>[]
 |_=>[]
def ady(c:Call):Bool:=match c.callee with
 | .builtin .append=>true
 |_=>false
def YU(P:Program)(bt:jo):Op->List Operand×Bool
 | .mapUpdate t m _ _| .insert t m _ _=>([m],match P.underlying t with|some (.map _ e)=>Hi P e||adw P e|_=>false)
 | .mapEntry _ m _=>([m],false)
 | .entryStore t m _ _=>([m],match P.underlying t with|some (.map _ e)=>Hi P e||adw P e||slT P e|_=>false)
 | .store t ad _=>([ad],Hi P t||(bt.dN&&slT P t))
 | .call c=>match c.callee with
   | .builtin _=>(c.args.toList.take 1,match c.argTypes.toList with
     |t::_=>match P.underlying t with
      |some (.slice e)=>alD P e||(bt.apa&&ady c)
      |_=>false
     |[]=>false)
   |_=>(N9 c,true)
 | .load _ x=>([x],false)
 | .lookup _ x _ _=>([x],false)
 |o=>(TN o,true)
def alE(P:Program)(bt:jo)(n:Nat)(o:Oper):xJ:=if agM o.op then⟨[],.gY [],[],n⟩else match o.op with
 | .next _ false=>⟨[.c,.v,.v],.nx n (n+1) (n+2),[],n+3⟩
 | .range _ _=>⟨[.n,.p],.w (.a (.ptr (.v n) 0)),[(.b (.v n),.prop (n+1))],n+2⟩
 | .entry _=>match o.dst with
   |some d=>match bt.aT.find? (·.1==d)with
    |some x=>
     let b:=Qp P bt true n x.2
     ⟨b.1,.gY b.2.1,b.2.2.1,b.2.2.2⟩
    |none=>shO P bt true n o.type
   |none=>shO P bt true n o.type
 | .mapEntry t _ _=>match P.underlying t with
   |some (.map _ e)=>
    let b:=Qp P bt true n [e]
    ⟨b.1++[.i],.gY (b.2.1++[.a (.int .i64 (.v b.2.2.2))]),b.2.2.1,b.2.2.2+1⟩
   |_=>shO P bt true n o.type
 |_=>shO P bt true n o.type
def agO(P:Program)(bt:jo)(n:Nat)(o:Oper):xJ:=match o.op,o.dst with
 | .entry _,some d=>match bt.aT.find? (·.1==d)with
   |some x=>
    let b:=Qp P bt false n x.2
    ⟨b.1,.gY b.2.1,b.2.2.1,b.2.2.2⟩
   |none=>shO P bt false n o.type
 |_,_=>shO P bt false n o.type
def DR(P:Program)(bt:jo)(s:S)(o:Oper):xJ:=match o.op with
 | .nilCheck x=>match ev s x with
   |some (.w (.a (.val k)))=>if bt.dN&& !adw P o.type then⟨[.n],.w (.a (.ptr (.v s.n) 0)),[],s.n+1⟩else⟨[],.w (.a (.val k)),[],s.n⟩
   |some v=>⟨[],v,[],s.n⟩
   |none=>agO P bt s.n o
 | .fieldAddr .. =>⟨[.v],.w (.a (.val s.n)),[],s.n+1⟩
 | .indexAddr .. =>⟨[.v],.w (.a (.val s.n)),[],s.n+1⟩
 |_=>agO P bt s.n o
def K8:Op->Bool
 | .next _ _=>true
 |_=>false
def agP:Op->Bool
 | .call c=>match c.callee with
   | .builtin .append=>true
   |_=>false
 |_=>false
def Oc:Op->Bool
 | .select _ _=>true
 |_=>false
def agQ(bt:jo)(s:S)(o:Oper)(n:Nat)(AG:List Key):adu:=if adx o.op then⟨[],[],n⟩else if agP o.op then(if bt.dN&& !bt.apa then tX bt s.h n (AG.filter λk=> !((qx o.op).flatMap λt=>match ev s (.tmp t)with|some v=>rK v|none=>[]).contains k)else⟨[],[],n⟩)else if bt.stc.isEmpty then tX bt s.h n AG else K7 bt s.h n AG
def agR(YT:List Key)(b:Bool)(cons:Hp)(ks:List Key):Hp:=if b then cons.filter λx=>YT.contains x.1 else cons.filter λx=> !ks.contains x.1
def Od(s:S):Nat->Key->List Key
 |0,_=>[]
 |d+1,k=>(oU s.lk k).flatMap λq=>if(oq s.h q).isSome then[q]else q::Od s d q
def agS(o:Op)(s:S)(k:Key):List Key:=k::(if K8 o then[]else Od s 4 k)
def agT(o:Op)(s:S)(ks:List Key):List Key:=if K8 o then ks else jv s.h s.lk 60 ks []
def agU(P:Program)(bt:jo):Op->Bool
 | .load t _=>bt.ck.contains t
 | .lookup t _ _ _=>match P.underlying t with
   |some (.map _ e)=>bt.ck.contains e
   |_=>false
 |_=>false
def K9(P:Program)(bt:jo)(o:Oper):Bool:=(agL P o.op&& !agU P bt o.op)||match o.dst with
 |some d=>bt.mkd.contains d
 |none=>false
def AH(P:Program)(bt:jo)(s:S)(o:Oper)(K:S->T):T:=
 if Oc o.op then .fail 9 else
 match Qq s (qx o.op)with
 |none=>.fail 10
 |some ar=>
  let AG:=ar.flatMap λx=>rK x.2
  let ks:=jv s.h s.lk 60 AG []
  let cons:=tW s.h ks
  if !K6 cons (s.h.filter λx=>ks.contains x.1)then .fail 13 else
  if AF o.op&& !K9 P bt o then
   let r:=DR P bt s o
   if s.fm&&decide (r.n=s.n+r.ss.length)then
    -- what is read is apm by what it was read from:no part of its own
    let ss:=r.ss
    let s':={s with n:=r.n,lk:=vD o.op s s.n r.v++s.lk}
    .read o.op o.type ar cons ss r.v (K (s'.put o.dst r.v))
   else .fail 11
  else
   let r:=alE P bt s.n o
   let fo:=YU P bt o.op
   let TP:=(fo.1.flatMap λx=>match ev s x with|some v=>rK v|none=>[]).flatMap (agS o.op s)
   let b:=agQ bt s o r.n TP.eraseDups
   let rest:=s.h.filter λx=> !ks.contains x.1
   let YV:=agR bt.YT (fo.2&& !K8 o.op) cons (agT o.op s TP)
   if s.fm&&decide (b.n=s.n+(r.ss++b.ss).length)then
    let rb:=r.h++b.h
    let nb:=rb++YV.filter λx=> !(rb.any λy=>decide (y.1=x.1))
    .op o.op o.type ar cons (r.ss++b.ss) r.v nb (K ({s with n:=b.n,h:=nb++rest,lk:=vD o.op s s.n r.v++s.lk}.put o.dst r.v))
   else .fail 12
def AI:List A->List Nat
 |[]=>[]
 | .ptr (.v k) _::_=>[k]
 | .val k::_=>[k]
 |_::r=>AI r
def abQ:V->List A
 | .w x=>x.list
 | .gY l=>l.flatMap W.list
 | .nx _ _ _=>[]
def Hk(v:V)(i:Nat):List Key:=match v with
 | .gY l=>(((l[i]?).map W.list).getD []).flatMap fR
 |_=>[]
def adz:Key->List Nat
 | .b (.v k)=>[k]
 | .a k=>[k]
 |_=>[]
def s9(bt:jo)(f:FuncId)(args:List W)(v:V):List (Nat×Key):=
 ((bt.agG.filter λx=>x.1==f).flatMap λx=>(Hk v x.2.1).flatMap λk=>(adz k).flatMap λn=>(Hk v x.2.2).map λq=>(n,q))++
 (bt.link.filter λx=>x.1==f).flatMap λx=>(AI (abQ v)).flatMap λk=>match args[x.2]? with
   |some w=>(w.list.flatMap fR).map λq=>(k,q)
   |none=>[]
def YW(bt:jo)(s:S)(f:FuncId)(args:List W):List Key:=match bt.bU.find? (·.1==f)with
 |some x=>x.2.flatMap λi=>match args[i%100]? with
  |some w=>(w.list.flatMap fR).flatMap λk=>if 100<=i then k::oU s.lk k else[k]
  |none=>[]
 |none=>(args.flatMap λx=>x.list.flatMap fR).flatMap λk=>k::Od s 4 k
def adA(bt:jo)(f:FuncId)(cons:Hp)(ks:List Key):Hp:=if(bt.bU.find? (·.1==f)).isSome then cons.filter λx=> !ks.contains x.1 else[]
def Oe(P:Program)(bt:jo)(s:S)(o:Oper)(f:FuncId)(args:List W)(K:S->T):T:=
 match P.funcs[f]? with
 |none=>.fail 20
 |some fn=>
  if bt.cut.contains f then .fail 29 else
  let AG:=args.flatMap λx=>x.list.flatMap fR
  let ks:=jv s.h s.lk 60 AG []
  let cons:=tW s.h ks
  let rest:=s.h.filter λx=> !ks.contains x.1
  if !K6 cons (s.h.filter λx=>ks.contains x.1)then .fail 22 else
  let r:=shR P bt true s.n fn.resultTypes.toList
  let TQ:=YW bt s f args
  let b:=tX bt s.h r.n (TQ.eraseDups)
  if s.fm&&fn.body.isSome&&decide (r.n=s.n+r.ss.length)&&decide (b.n=s.n+(r.ss++b.ss).length)then
   if bt.aF.contains f then .call f args cons r.ss r.v (r.h++cons) (K ({s with n:=r.n,h:=r.h++cons++rest,lk:=s9 bt f args r.v++s.lk}.put o.dst r.v))else
   let nb:=r.h++b.h++adA bt f cons TQ
   .call f args cons (r.ss++b.ss) r.v nb (K ({s with n:=b.n,h:=nb++rest,lk:=s9 bt f args r.v++s.lk}.put o.dst r.v))
  else .fail 21
def Hl(s:S)(d:Option Tmp)(c:C)(v:BR->A)(K:S->T):T:=
 if s.fm&&c.fm s.n then .new (K ({s with n:=s.n+1,h:=(.b (.v s.n),c)::s.h}.put d (.w (.a (v (.v s.n))))))else .fail 30
def DS(place:Nat->Option (Nat×Nat))(cells:List A):List (Nat×W)->Option (List A)
 |[]=>some cells
 |(i,w)::rest=>match place i with
  |none=>none
  |some (off,size)=>
   if w.list.length≠size||off+w.list.length>cells.length then none
   else DS place (cells.take off++w.list++cells.drop (off+w.list.length)) rest
def yR(P:Program)(t:TypeId):Option (List A):=match P.info? t with
 |some i=>match i.zero with
  |some v=>(Hh v).map W.list
  |none=>none
 |none=>none
def partsOf(s:S)(l:List (Nat×Operand)):Option (List (Nat×W)):=mapM' (λx=>(N4 s x.2).map λw=>(x.1,w)) l
def zM{α:Type}:Nat->List α->List α
 |0,_=>[]
 |n+1,l=>l++zM n l
def agV(h:Hp)(k:Key):Hp:=h.filter λx=> !decide (x.1=k)
def Fm(P:Program)(bt:jo)(s:S)(o:Oper)(c:Call)(K:S->T):T:=match c.callee with
 | .value (.func f)=>match mapM' (N4 s) c.args.toList with
   |some ws=>match P.funcs[f]? with
    |some fn=>if fn.body.isSome then Oe P bt s o f ws K else AH P bt s o K
    |none=>.fail 44
   |none=>.fail 45
 | .value x=>match oo s x,mapM' (N4 s) c.args.toList with
   |some (.func f cs),some ws=>Oe P bt s o f (ws++cs.map λq=>.a (.ptr q.1 q.2)) K
   |_,_=>.fail 46
 |_=>AH P bt s o K
def AJ(P:Program)(s:S)(o:Oper)(t:TypeId)(len:Nat)(parts:Array (Nat×Operand))(K:S->T):T:=match P.underlying t with
 |some (.slice el)=>match(if len*iA P el=0 then some []else yR P el),partsOf s parts.toList with
  |some z,some ps=>if(P.info? el).isSome/\(len*iA P el=0\/z.length=iA P el)then match DS (λi=>some (i*iA P el,iA P el)) (zM len z) ps with
    |some l=>if len*iA P el<=16777216 then Hl s o.dst (.cells l el) (λr=>.sl (.b r 0) (.n len) (.n len)) K else .fail 36
    |none=>.fail 37
   else .fail 38
  |_,_=>.fail 38
 |_=>.fail 39
def AK(P:Program)(s:S)(o:Oper)(t:TypeId)(parts:Array (Nat×Operand))(K:S->T):T:=match P.underlying t with
 |some (.struct fs)=>match yR P t,partsOf s parts.toList with
  |some z,some ps=>if fs.toList.all (λf=>(P.info? f.type).isSome)then match DS (λi=>(fs[i]?).map λf=>(f.offset,iA P f.type)) z ps with
    |some l=>K (s.put o.dst (.w (.agg l)))
    |none=>.fail 33
   else .fail 34
  |_,_=>.fail 34
 |some (.array _ el)=>match yR P t,partsOf s parts.toList with
  |some z,some ps=>if(P.info? el).isSome then match DS (λi=>some (i*iA P el,iA P el)) z ps with
    |some l=>K (s.put o.dst (.w (.agg l)))
    |none=>.fail 33
   else .fail 34
  |_,_=>.fail 34
 |_=>.fail 35
def AM(P:Program)(bt:jo)(s:S)(o:Oper)(t:TypeId)(ad x:Operand)(K:S->T):T:=match oo s ad,N4 s x with
 |some (.ptr r off),some w=>match oq s.h (.b r)with
  |some (.cells l ty)=>
   if w.list.length=iA P t/\(P.info? t).isSome/\off+w.list.length<=l.length/\(s.h.filter λx=>decide (x.1=.b r))=[(.b r,.cells l ty)]then
    K ({s with h:=(.b r,.cells (l.take off++w.list++l.drop (off+w.list.length)) ty)::agV s.h (.b r)}.put o.dst (.gY []))
   else .fail 40
  |_=>AH P bt s o K
 |_,_=>AH P bt s o K
def Fo(s:S)(o:Oper)(c a b:Operand)(K:S->T):T:=match oo s c with
 |some (.bool e)=>brE s e (λs=>match ev s a with|some v=>K (s.put o.dst v)|none=>.fail 41) (λs=>match ev s b with|some v=>K (s.put o.dst v)|none=>.fail 42)
 |_=>.fail 43
def TR(P:Program)(bt:jo)(s:S)(o:Oper)(K:S->T):T:=match o.op with
 | .alloc e=>match yR P e with
   |some l=>Hl s o.dst (.cells l e) (λr=>.ptr r 0) K
   |none=>.fail 31
 | .box e x=>match N4 s x with
   |some w=>Hl s o.dst (.cells w.list e) (λr=>.ptr r 0) K
   |none=>.fail 32
 | .makeMap _ none=>Hl s o.dst .vB .map K
 | .build t parts=>AK P s o t parts K
 | .buildSlice t len parts=>AJ P s o t len parts K
 | .store t ad x=>AM P bt s o t ad x K
 | .pick c a b=>Fo s o c a b K
 | .call c=>Fm P bt s o c K
 |_=>AH P bt s o K
def TT(P:Program)(bt:jo)(s:S)(o:Oper)(K:S->T):T:=match xI P s o.op with
 |some (es,v)=>DQ es (λs=>K (s.put o.dst v)) s
 |none=>TR P bt s o K
def AN(ops:Array Oper)(s:S)(o:Oper)(run skip:S->T):T:=match o.guard with
 |none=>run s
 |some (j,Qr)=>match(ops[j]?).bind (·.dst)with
  |none=>.fail 50
  |some d=>match s.t[d]? with
   |some (some (.gY []))=>skip s
   |_=>match oo s (.tmp d)with
    |some (.bool e)=>brE s e (λs=>if Qr then run s else skip s) (λs=>if Qr then skip s else run s)
    |_=>.fail 51
def jI:Op->Bool
 | .defer _=>false
 |_=>true
def Aa(s:S)(o:Oper):Option (Nat×List W):=match o.op with
 | .call c=>match c.callee with
   | .value x=>match oo s x,mapM' (N4 s) c.args.toList with
     |some (.val k),some ws=>some (k,ws)
     |_,_=>none
   |_=>none
 |_=>none
def TU(bt:jo)(args:List W)(v:V):List (Nat×Key):=if bt.vlk then(AI (abQ v)).flatMap λk=>(args.flatMap λw=>w.list.flatMap fR).map λq=>(k,q)else[]
def nt(P:Program)(bt:jo)(s:S)(o:Oper)(v:Nat)(args:List W)(K:S->T):T:=
 let ks:=jv s.h s.lk 60 (Key.a v::bt.vt++args.flatMap λx=>x.list.flatMap fR) []
 let cons:=tW s.h ks
 let rest:=s.h.filter λx=> !ks.contains x.1
 if !K6 cons (s.h.filter λx=>ks.contains x.1)then .fail 23 else
 let r:=shO P bt true s.n o.type
 let rt:=(Key.a v::bt.vt).eraseDups
 let b:=tX bt s.h r.n rt
 let nb:=r.h++b.h++cons.filter λx=> !rt.contains x.1
 if s.fm&&decide (b.n=s.n+(r.ss++b.ss).length)then
  .om v args cons (r.ss++b.ss) r.v nb (K ({s with n:=b.n,h:=nb++rest,lk:=TU bt args r.v++s.lk}.put o.dst r.v))
 else .fail 24
def Ab(s:S)(o:Oper):Option (Nat×String×List W):=match o.op with
 | .call c=>match c.callee with
   | .invoke x name=>match oo s x,mapM' (N4 s) c.args.toList with
     |some (.val k),some ws=>some (k,name,ws)
     |_,_=>none
   |_=>none
 |_=>none
def TV(P:Program)(bt:jo)(s:S)(o:Oper)(v:Nat)(name:String)(args:List W)(K:S->T):T:=
 let ks:=jv s.h s.lk 60 (Key.a v::bt.vt++args.flatMap λx=>x.list.flatMap fR) []
 let cons:=tW s.h ks
 let rest:=s.h.filter λx=> !ks.contains x.1
 if !K6 cons (s.h.filter λx=>ks.contains x.1)then .fail 25 else
 let r:=shO P bt true s.n o.type
 let rt:=(Key.a v::bt.vt++args.flatMap λx=>x.list.flatMap fR).eraseDups
 let b:=tX bt s.h r.n rt
 let nb:=r.h++b.h++cons.filter λx=> !rt.contains x.1
 if s.fm&&decide (b.n=s.n+(r.ss++b.ss).length)then
  .abM v name args cons (r.ss++b.ss) r.v nb (K ({s with n:=b.n,h:=nb++rest,lk:=TU bt args r.v++s.lk}.put o.dst r.v))
 else .fail 26
def Of(P:Program)(bt:jo)(s:S)(o:Oper)(K:S->T):T:=match Aa s o with
 |some (v,args)=>nt P bt s o v args K
 |none=>match Ab s o with
  |some (v,name,args)=>TV P bt s o v name args K
  |none=>TT P bt s o K
def TW(P:Program)(bt:jo)(ops:Array Oper):List Oper->S->(S->T)->T
 |[],s,K=>K s
 |o::r,s,K=>AN ops s o (λs=>Of P bt s o λs=>TW P bt ops r s K) (λs=>TW P bt ops r (s.put o.dst (.gY [])) K)
def alF(P:Program)(t:TypeId):Bool:=match P.underlying t with
 |some (.map _ _)=>true
 |_=>false
def alG:Op->Bool
 | .nilCheck _=>true
 | .fieldAddr .. =>true
 | .indexAddr .. =>true
 | .slice .. =>true
 |_=>false
def TX(bt:jo):Op->Bool
 | .call c=>match c.callee with
   | .value (.func f)=>bt.dv&&bt.aF.contains f
   |_=>false
 |_=>false
def Qs:Op->Bool
 | .call c=>match c.callee with
   | .value (.tmp _)=>true
   | .invoke _ _=>true
   |_=>false
 |_=>false
def alH:Key->W
 | .b r=>.a (.ptr r 0)
 | .a k=>.a (.val k)
def TY(P:Program)(bt:jo)(s:S)(o:Oper):S×List Key:=match xI P s o.op with
 |some (_,v)=>(s.put o.dst v,[])
 |none=>
  let s':=match o.dst with
   |some d=>{s with t:=s.t.set d none}
   |none=>s
  if AF o.op&& !K9 P bt o then(if alF P o.type||Hi P o.type||(bt.dN&&(slT P o.type||alG o.op))then(match o.dst with
   |some d=>{s with t:=s.t.set d (some (.gY ((jv s.h s.lk 60 ((qx o.op).flatMap λt=>match ev s (.tmp t)with|some v=>rK v|none=>[]) []).map alH)))}
   |none=>s)else s',[])
  else if TX bt o.op then(s',[])else(s',jv s.h s.lk 60 (((qx o.op).flatMap λt=>match ev s (.tmp t)with|some v=>rK v|none=>[])++if Qs o.op then bt.vt else[]) [])
def Og(P:Program)(bt:jo):List Oper->S->List (List Key)
 |[],_=>[]
 |o::r,s=>(TY P bt s o).2::Og P bt r (TY P bt s o).1
def Fp(ops:Array Oper)(listed:Array Bool):List Nat:=(List.range ops.size).filter λi=>
 !listed.getD i true&&((ops[i]?).map λo=>o.after.toList.all λe=> !Region.binds .any e||listed.getD e.on false).getD false
theorem DT ops listed:Region.ready .any ops listed=Fp ops listed:=by
 simp only[Region.ready,Fp,Array.all_toList]
def Fq(ops:Array Oper)(o:Oper):List Tmp:=qx o.op++(match o.guard with
 |some (g,_)=>((ops[g]?).bind (·.dst)).toList
 |none=>[])
theorem Qt ops o:o.looksAt ops=Fq ops o:=by
 simp only[Oper.looksAt,Fq,qx,Oa];rfl
def La(ops:Array Oper)(x y:Oper):Bool:=
 (match x.dst with
  |some d=> !(Fq ops y).contains d&&y.dst != some d
  |none=>true)&&
 (match y.dst with
  |some d=> !(Fq ops x).contains d
  |none=>true)
theorem Qu ops x y:x.apart ops y=La ops x y:=by
 simp only[Oper.apart,La,Qt];rfl
def TZ(ops:Array Oper)(listed:Array Bool)(i:Nat):Bool:=match ops[i]? with
 |none=>false
 |some oi=>(List.range ops.size).all λj=>j==i||listed.getD j true||match ops[j]? with
   |some oj=>oj.after.toList.any (λe=>Region.binds .any e&&e.on==i)||La ops oi oj
   |none=>true
theorem Hn ops listed i:Region.free .any ops listed i=TZ ops listed i:=by
 simp only[Region.free,TZ,Qu,Array.any_toList];rfl
def Lb(ops:Array Oper):Bool:=ops.toList.all λo=>match o.op with| .select .. =>false|_=>true
theorem Qv ops:Region.noSelect ops=Lb ops:=by
 simp only[Region.noSelect,Lb,Array.all_toList];rfl
def fX(ops:Array Oper)(tk:List (List Key))(h0:Hp)(listed:Array Bool):Hp:=h0.filter λx=>(List.range ops.size).all λj=> !listed.getD j false|| !(tk.getD j []).contains x.1
def ot(ops:Array Oper)(tk:List (List Key))(h0:Hp)(D:List Nat):Hp:=h0.filter λx=>(List.range ops.size).all λj=>D.contains j|| !(tk.getD j []).contains x.1
def abR(ops:Array Oper)(i:Nat):List Oper->Nat->List Nat->List Nat
 |[],_,D=>D
 |o::r,j,D=>abR ops i r (j+1) (if o.after.toList.any λe=>Region.binds .any e&&(e.on==i||D.contains e.on)then j::D else D)
def Ho(ops:Array Oper)(listed:Array Bool)(tk:List (List Key))(i:Nat)(D:List Nat):Bool:=
 !D.contains i&&decide (tk.getD i []=[])&&D.all λj=> !listed.getD j true&&match ops[j]? with
  |some o=>o.after.toList.any λe=>Region.binds .any e&&(e.on==i||D.contains e.on)
  |none=>false
def YX(ops:Array Oper)(s:S)(o:Oper):Option Bool:=match o.guard with
 |none=>some true
 |some (j,Qr)=>match(ops[j]?).bind (·.dst)with
  |none=>none
  |some d=>match s.t[d]? with
   |some (some (.gY []))=>some false
   |_=>match oo s (.tmp d)with
    |some (.bool e)=>(tU s.kn e).map λb=>b==Qr
    |_=>none
def T0(P:Program)(bt:jo)(hs:Hp)(s:S)(o:Oper):Option (List (Nat×V)×Hp×xJ):=
 if bt.dv&&AF o.op&& !K9 P bt o&& !Oc o.op then match Qq s (qx o.op)with
  |none=>none
  |some ar=>
   let cons:=tW s.h (jv s.h s.lk 60 (ar.flatMap λx=>rK x.2) [])
   let r:=DR P bt s o
   if kC cons&&cons.all (λx=>hs.contains x)&&s.fm&&decide (r.n=s.n+r.ss.length)then some (ar,cons,r)else none
 else none
def Hq(P:Program)(bt:jo)(ops:Array Oper)(hs:Hp)(s:S)(o:Oper):Bool:=match YX ops s o with
 |none=>false
 |some false=>true
 |some true=>(xI P {s with h:=hs} o.op).isSome||(T0 P bt hs s o).isSome
def firstFree(P:Program)(bt:jo)(ops:Array Oper)(tk:List (List Key))(h0:Hp)(listed:Array Bool)(s:S):List Nat->Option (Nat×Oper×List Nat)
 |[]=>none
 |i::r=>match ops[i]? with
  |none=>none
  |some o=>if TZ ops listed i then
    if Ho ops listed tk i []&&Hq P bt ops (ot ops tk h0 []) s o then some (i,o,[])
    else
     let D:=abR ops i ops.toList 0 []
     if Ho ops listed tk i D&&Hq P bt ops (ot ops tk h0 D) s o then some (i,o,D)else firstFree P bt ops tk h0 listed s r
   else firstFree P bt ops tk h0 listed s r
def adB(f:Nat->T):List Nat->T
 |[]=>.fail 64
 |[i]=>f i
 |i::r=>.all (f i) (adB f r)
def adC(ops:Array Oper)(s:S)(i:Nat):Option E:=match ops[i]? with
 |none=>none
 |some o=>match o.guard with
  |none=>none
  |some (j,_)=>match(ops[j]?).bind (·.dst)with
   |none=>none
   |some d=>match oo s (.tmp d)with
    |some (.bool e)=>if(tU s.kn e).isSome then none else some e
    |_=>none
def xK(ops:Array Oper):List Nat->S->(S->T)->T
 |[],s,K=>K s
 |i::r,s,K=>match adC ops s i with
  |some e=>brE s e (λs=>xK ops r s K) (λs=>xK ops r s K)
  |none=>xK ops r s K
def Oh(P:Program)(bt:jo)(ops:Array Oper)(tk:List (List Key))(h0:Hp)(listed:Array Bool)(rs:List Nat)(rec:Array Bool->S->T)(s:S):T:=
 match firstFree P bt ops tk h0 listed s rs with
 |some (i,o,D)=>AN ops s o (λs=>match xI P {s with h:=ot ops tk h0 D} o.op with
   |some (es,v)=>DQ es (λs=>rec (listed.setIfInBounds i true) (s.put o.dst v)) s
   |none=>match T0 P bt (ot ops tk h0 D) s o with
    |some (ar,cons,r)=>.read o.op o.type ar cons r.ss r.v (rec (listed.setIfInBounds i true) ({s with n:=r.n,lk:=vD o.op s s.n r.v++s.lk}.put o.dst r.v))
    |none=>.fail 61)
  (λs=>rec (listed.setIfInBounds i true) (s.put o.dst (.gY [])))
 |none=>adB (λi=>match ops[i]? with
   |none=>.fail 62
   |some o=>AN ops s o (λs=>Of P bt s o λs=>if(fX ops tk h0 (listed.setIfInBounds i true)).all (λx=>s.h.contains x)then rec (listed.setIfInBounds i true) s else .fail 63)
     (λs=>rec (listed.setIfInBounds i true) (s.put o.dst (.gY [])))) rs
def Lc(P:Program)(bt:jo)(ops:Array Oper)(tk:List (List Key))(h0:Hp):Nat->Array Bool->S->(S->T)->T
 |0,listed,s,K=>if Fp ops listed=[]then K s else .fail 60
 |fuel+1,listed,s,K=>
  let rs:=Fp ops listed
  if rs=[]then K s
  else if(firstFree P bt ops tk h0 listed s rs).isSome then Oh P bt ops tk h0 listed rs (λl s=>Lc P bt ops tk h0 fuel l s K) s
  else xK ops rs s λs=>Oh P bt ops tk h0 listed rs (λl s=>Lc P bt ops tk h0 fuel l s K) s
def jJ:Code->List Tmp
 | .region _ ops _=>ops.toList.filterMap (·.dst)
 | .seq a b=>jJ a++jJ b
 | .cond _ a b=>jJ a++jJ b
 | .block _ b=>jJ b
 | .loop b=>jJ b
 | .rangeFunc _ _ a b=>jJ a++jJ b
 | .scope b=>jJ b
 |_=>[]
def agW(n:Nat):A->pH
 | .ptr _ _=>⟨[.n],[.ptr (.v n) 0],[],n+1⟩
 | .sl .nil _ _=>⟨[.a,.n,.n,.p],[.sl (.v n) (.v (n+1)) (.v (n+2))],[(.a n,.prop (n+3))],n+4⟩
 | .sl _ _ _=>⟨[.a,.n,.n],[.sl (.v n) (.v (n+1)) (.v (n+2))],[],n+3⟩
 | .map _=>⟨[.n],[.map (.v n)],[],n+1⟩
 |x=>adt n x
def T6(n:Nat):List A->pH
 |[]=>⟨[],[],[],n⟩
 |x::r=>
  let a:=agW n x
  let b:=T6 a.n r
  ⟨a.ss++b.ss,a.l++b.l,a.h++b.h,b.n⟩
def Fs(ks:List Nat):Nat->Nat->List A->pH
 |_,n,[]=>⟨[],[],[],n⟩
 |i,n,x::r=>
  if ks.contains i then
   let a:=agW n x
   let b:=Fs ks (i+1) a.n r
   ⟨a.ss++b.ss,a.l++b.l,a.h++b.h,b.n⟩
  else
   let b:=Fs ks (i+1) n r
   ⟨b.ss,x::b.l,b.h,b.n⟩
def T7(ce:List (Key×List Nat))(k:Key)(n:Nat)(l:List A):pH:=match ce.find? (·.1=k)with
 |some x=>Fs x.2 0 n l
 |none=>T6 n l
def W.alI:W->List A->W
 | .a _,[x]=>.a x
 | .a x,_=>.a x
 | .agg _,l=>.agg l
def alJ(x y:A):List (Key×Key):=match fR x,fR y with
 |[k],[q]=>if k=q then[]else[(k,q)]
 |_,_=>[]
def T8:List A->List A->List (Key×Key)
 |x::r,y::q=>alJ x y++T8 r q
 |_,_=>[]
structure Ld where
 s:S
 ss:List So
 Db:List (Key×Key)
 ex:Hp:=[]
def Oi:List Tmp->Ld->Ld
 |[],hd=>hd
 |t::r,hd=>match hd.s.t[t]? with
  |some (some (.w w))=>
   let f:=T6 hd.s.n w.list
   Oi r ⟨{hd.s with n:=f.n,t:=hd.s.t.set t (some (.w (w.alI f.l)))},hd.ss++f.ss,hd.Db++T8 w.list f.l,hd.ex++f.h⟩
  |some (some (.gY _))=>Oi r {hd with s:={hd.s with t:=hd.s.t.set t none}}
  |_=>Oi r hd
def Qw(Db:List (Key×Key))(k:Key):Key:=match Db.find? (·.1=k)with
 |some x=>x.2
 |none=>k
def DU(ce:List (Key×List Nat))(ab:List TypeId)(hv:List Key):Hp->Ld->Hp->Ld
 |[],hd,acc=>{hd with s:={hd.s with h:=acc}}
 |(k,c)::r,hd,acc=>
  if hv.contains k then match c,hd.Db.any (λx=>x.1=k&&match x.2 with| .a _=>true|_=>false)with
   | .cells l ty,false=>
     if ab.contains ty then DU ce ab hv r ⟨{hd.s with n:=hd.s.n+1},hd.ss++[.p],hd.Db,hd.ex⟩ (acc++[(k,.prop hd.s.n)])else
     let f:=T7 ce k hd.s.n l
     DU ce ab hv r ⟨{hd.s with n:=f.n},hd.ss++f.ss,hd.Db++T8 l f.l,hd.ex++f.h⟩ (acc++[(k,.cells f.l ty)])
   |_,_=>DU ce ab hv r ⟨{hd.s with n:=hd.s.n+1},hd.ss++[.p],hd.Db,hd.ex⟩ (acc++[(k,.prop hd.s.n)])
  else DU ce ab hv r hd (acc++[(k,c)])
def agX(bt:jo)(b:Nat):List (Key×List Nat):=(bt.TK.filter (·.1==b)).map (·.2)
def abS:List Tmp->List Tmp->List Tmp
 |[],acc=>acc
 |t::r,acc=>abS r (if acc.contains t then acc else acc++[t])
def adD(t:List (Option V)):List (Option V):=t.map λ
 |some (.nx ..)=>none
 |x=>x
def abT(bt:jo)(b:Nat):List (Nat×Key):=(bt.iV.filter (·.1==b)).map (·.2)
def oX(bt:jo)(body:Code)(s:S):Ld:=
 let hv:=match bt.hv.find? (·.1==s.blk)with
  |some x=>x.2
  |none=>[]
 let dr:=match bt.snk.find? (·.1==s.blk)with
  |some x=>x.2
  |none=>[]
 let a:=Oi (abS (jJ body) []) ⟨s,[],[],[]⟩
 let b:=DU (agX bt s.blk) bt.iS hv s.h a []
 let Db:=b.Db
 let lk2:=Db.flatMap λx=>match x.2 with
  | .b (.v j)=>(oU (abT bt s.blk++s.lk) x.1).map λq=>(j,Qw Db q)
  | .a j=>(oU (abT bt s.blk++s.lk) x.1).map λq=>(j,Qw Db q)
  |_=>[]
 {b with s:={b.s with t:=adD b.s.t,h:=(b.s.h.filterMap λx=>if dr.contains x.1 then none else if(Db.any (·.1=x.1))&& !hv.contains x.1 then none else some (Qw Db x.1,x.2))++b.ex,dp:=s.dp+1,lk:=lk2++s.lk}}
def alL(base:Nat):A->A->Option (List (Nat×FV))
 | .int k (.v j),.int k' e=>if base<=j/\k=k' then some [(j,.e (.o1 .neg (.o1 .neg e)))]else some []
 | .bool (.v j),.bool e=>if base<=j then some [(j,.e (.o1 .not (.o1 .not e)))]else some []
 | .str (.v j),.str e=>if base<=j then some [(j,.e (.o2 .cat e (.s [])))]else some []
 | .ptr (.v j) _,.ptr r _=>if base<=j then some [(j,.n r)]else some []
 | .sl (.v j) _ _,.sl s l c=>if base<=j then some [(j,.a s),(j+1,.e (.o2 .Hg l (.n 0))),(j+2,.e (.o2 .Hg c (.n 0)))]else some []
 | .map (.v j),.map r=>if base<=j then some [(j,.n r)]else some []
 | .val j,x=>if base<=j then some [(j,.v x)]else some []
 |_,_=>some []
def T9(base:Nat):List A->List A->List (Nat×FV)
 |x::r,y::q=>((alL base x y).getD [])++T9 base r q
 |_,_=>[]
def Oj(base:Nat):List (Option V)->List (Option V)->List (Nat×FV)
 |some (.w x)::r,some (.w y)::q=>T9 base x.list y.list++Oj base r q
 |_::r,_::q=>Oj base r q
 |_,_=>[]
def Ol(l:List (Nat×FV))(j:Nat):Option FV:=(l.find? (·.1==j)).map (·.2)
def DW(base:Nat)(l:List (Nat×FV)):Key->Key
 | .b (.v j)=>if base<=j then match Ol l j with
    |some (.n r)=>.b r
    |_=>.b (.v j)
   else .b (.v j)
 | .a j=>if base<=j then match Ol l j with
    |some (.a (.v m))=>.a m
    |some (.a (.b r _))=>.b r
    |some (.v x)=>((fR x).head?).getD (.a j)
    |_=>.a j
   else .a j
 |k=>k
def Hr(base:Nat)(s:S)(l:List (Nat×FV)):Hp->List (Nat×FV)
 |[]=>l
 |(k,.cells c _)::r=>match oq s.h (DW base l k)with
  |some (.cells d _)=>Hr base s (l++T9 base c d) r
  |_=>Hr base s l r
 |_::r=>Hr base s l r
def Ua(base:Nat)(s:S)(l:List (Nat×FV)):Hp->List (Nat×FV)
 |[]=>l
 |(k,.prop j)::r=>if base<=j then
    let ks:=jv s.h (if(oq s.h (DW base l k)).isSome then s.lk.filterMap λx=>if me<=x.1 then some (x.1 - me,x.2)else none else s.lk) 60 [DW base l k] []
    Ua base s (l++[(j,.p (tW s.h ks))]) r
  else Ua base s l r
 |_::r=>Ua base s l r
def AO(base:Nat)(s:S)(own:List Key)(l:List (Nat×FV)):Hp->List (Nat×FV)
 |[]=>l
 |(k,.prop j)::r=>if base<=j then
    let k':=DW base l k
    let ks:=jv s.h (if(oq s.h k').isSome then s.lk.filterMap λx=>if me<=x.1 then some (x.1 - me,x.2)else none else s.lk) 60 [k'] []
    AO base s own (l++[(j,.p (tW s.h (ks.filter λq=>decide (q=k')|| !own.contains q)))]) r
  else AO base s own l r
 |_::r=>AO base s own l r
def Ht(base:Nat)(hd:S)(s:S):List FV:=
 let a:=Oj base hd.t s.t
 let b:=Hr base s a hd.h
 let c:=AO base s (hd.h.map λx=>DW base b x.1) b hd.h
 (List.range' base (hd.n - base)).map λj=>(Ol c j).getD (.n (.g 0))
def YY(base:Nat)(hd:S)(s:S):List FV:=
 let a:=Oj base hd.t s.t
 let b:=Hr base s a hd.h
 let c:=AO base s (hd.h.map λx=>DW base b x.1) b hd.h
 (List.range' base (hd.n - base)).map λj=>(Ol c j).getD (.n (.g 0))
def okA(base:Nat)(fr:List FV)(x y:A):Bool:=(decide (x=y)&&x.fm base)||match x,y with
 | .int k (.v j),.int k' e=>decide (base<=j)&&decide (k=k')&&decide (fr[j - base]? =some (.e (.o1 .neg (.o1 .neg e))))
 | .bool (.v j),.bool e=>decide (base<=j)&&decide (fr[j - base]? =some (.e (.o1 .not (.o1 .not e))))
 | .str (.v j),.str e=>decide (base<=j)&&decide (fr[j - base]? =some (.e (.o2 .cat e (.s []))))
 | .ptr (.v j) o,.ptr r o'=>decide (base<=j)&&decide (o=o')&&decide (fr[j - base]? =some (.n r))
 | .sl (.v j) (.v j1) (.v j2),.sl s l c=>decide (base<=j)&&decide (base<=j1)&&decide (base<=j2)&&decide (fr[j - base]? =some (.a s))&&decide (fr[j1 - base]? =some (.e (.o2 .Hg l (.n 0))))&&decide (fr[j2 - base]? =some (.e (.o2 .Hg c (.n 0))))
 | .map (.v j),.map r=>decide (base<=j)&&decide (fr[j - base]? =some (.n r))
 | .val j,x=>decide (base<=j)&&decide (fr[j - base]? =some (.v x))
 |_,_=>false
def Ub(base:Nat)(fr:List FV):List A->List A->Bool
 |[],[]=>true
 |x::r,y::q=>okA base fr x y&&Ub base fr r q
 |_,_=>false
def okW(base:Nat)(fr:List FV):W->W->Bool
 | .a x,.a y=>okA base fr x y
 | .agg l,.agg m=>Ub base fr l m
 |_,_=>false
def vy(base:Nat)(fr:List FV):List (Option V)->List (Option V)->Bool
 |[],[]=>true
 |none::r,_::q=>vy base fr r q
 |some (.w x)::r,some (.w y)::q=>okW base fr x y&&vy base fr r q
 |some (.gY x)::r,some (.gY y)::q=>decide (x=y)&&x.all (W.fm base)&&vy base fr r q
 |_,_=>false
def okK(base:Nat)(fr:List FV):Key->Key->Bool
 | .b (.v j),.b r=>if base<=j then decide (fr[j - base]? =some (.n r))else decide (r=.v j)
 | .b (.g n),.b r=>decide (r=.g n)
 | .a j,k=>if base<=j then match fr[j - base]? with
    |some (.a (.v m))=>decide (k=.a m)
    |some (.a (.b r _))=>decide (k=.b r)
    |_=>false
   else decide (k=.a j)
 |_,_=>false
def isB:Key->Bool
 | .b _=>true
 | .a _=>false
def xL(base:Nat)(fr:List FV)(h:Hp):Hp->Option Hp
 |[]=>some []
 |(k,c)::r=>match xL base fr h r with
  |none=>none
  |some l=>match c with
   | .cells x ty=>match h.find? (λy=>isB k&&okK base fr k y.1&&(match y.2 with| .cells z ty'=>Ub base fr x z&&decide (ty=ty')|_=>false))with
     |some y=>some (y::l)
     |none=>none
   | .vB=>if k.fm base&&h.contains (k,.vB)then some ((k,.vB)::l)else none
   | .rI=>if k.fm base&&h.contains (k,.rI)then some ((k,.rI)::l)else none
   | .prop j=>if base<=j then match fr[j - base]? with
      |some (.p q)=>some (q++l)
      |_=>none
     else if k.fm base&&h.contains (k,.prop j)then some ((k,.prop j)::l)else none
def FV.so:FV->List So
 | .n _=>[.n]
 | .a _=>[.a]
 | .v _=>[.v]
 | .p _=>[.p]
 | .e (.o1 .neg _)=>[.i]
 | .e (.o1 .not _)=>[.c]
 | .e (.o2 .cat _ _)=>[.s]
 | .e (.o2 .Hg _ _)=>[.n]
 | .e _=>[]
def Hu(base:Nat)(ss:List So)(hd s:S)(fr:List FV):Bool:=
 vy base fr hd.t s.t&&(match xL base fr s.h hd.h with
  |some l=>kC l&&l.all (λx=>s.h.contains x)
  |none=>false)&&decide (fr.flatMap FV.so=ss)&&decide (fr.length=ss.length)&&decide (hd.n=base+ss.length)&&hd.kn.all (λx=>x.1.fm base)&&(decide (hd.df=s.df)&&hd.df.all (BR.fm base))
def agY(base:Nat)(ss:List So)(hd s:S)(fr:List FV):Nat:=
 (if vy base fr hd.t s.t then 0 else 1)+(match xL base fr s.h hd.h with
   |some l=>(if kC l then 0 else 2)+(if l.all (λx=>s.h.contains x)then 0 else 4)
   |none=>8)+(if decide (fr.flatMap FV.so=ss)then 0 else 16)+(if decide (fr.length=ss.length)then 0 else 32)+(if decide (hd.n=base+ss.length)then 0 else 64)+(if hd.kn.all (λx=>x.1.fm base)then 0 else 128)+(if decide (hd.df=s.df)&&hd.df.all (BR.fm base)then 0 else 256)+(if s.fm then 0 else 512)+(if decide (hd.kn=s.kn)then 0 else 1024)
def Hv(base:Nat)(fr:List FV)(h:Hp)(m:Hp):Hp:=m.filter λx=>(xL base fr h [x]).isNone
inductive Ex where
 |oY|exit (id:Nat)|ret
structure Rg where
 s1:S
 c:Hp
 rest:Hp
 Th:List Key
 hd:Ld
 fr:List FV
 pss:List So
 TJ:List W
 pch:Hp
 pn:Nat
def agZ(ab:List TypeId)(hv:List Key)(rest:Hp)(s:S):Ld:=
 let b:=DU [] ab hv rest ⟨{s with h:=[]},[],[],[]⟩ []
 let Db:=b.Db
 let lk2:=Db.flatMap λx=>match x.2 with
  | .b (.v j)=>(oU s.lk x.1).map λq=>(j,Qw Db q)
  | .a j=>(oU s.lk x.1).map λq=>(j,Qw Db q)
  |_=>[]
 {b with s:={b.s with t:=s.t,kn:=s.kn,h:=(b.s.h.filterMap λx=>if(Db.any (·.1=x.1))&& !hv.contains x.1 then none else some (Qw Db x.1,x.2))++b.ex,dp:=s.dp+1,lk:=lk2++s.lk,df:=[]}}
def Ud{α:Type}(l:List (Nat×List α))(b:Nat):List α:=match l.find? (·.1==b)with
 |some x=>x.2
 |none=>[]
def Rg.start(r:Rg):S:={r.s1 with h:=r.rest,df:=[]}
def uA(P:Program)(bt:jo)(s:S)(gv:A):Rg:=
 let s1:S:={s with n:=s.n+1,h:=(.b (.v s.n),.rI)::s.h,df:=.v s.n::s.df}
 let Th:=Ud bt.shr s.blk
 let ks:=jv s.h s.lk 60 (fR gv) []
 let c:=s1.h.filter λx=>ks.contains x.1&& !Th.contains x.1
 let rest:=s1.h.filter λx=> !(ks.contains x.1&& !Th.contains x.1)
 let hd:=agZ bt.iS (Ud bt.hv s.blk) rest s1
 let p:=Qp P bt true hd.s.n (Ud bt.YA s.blk)
 ⟨s1,c,rest,Th,hd,Ht s1.n hd.s {s1 with h:=rest,df:=[]},p.1,p.2.1,p.2.2.1,p.2.2.2⟩
def ag0(t:List (Option V))(ps:List Tmp)(ws:List W):List (Option V):=(ps.zip ws).foldl (λt x=>t.set x.1 (some (.w x.2))) t
def Rg.round(r:Rg)(ps:List Tmp):S:={r.hd.s with n:=r.pn,h:=r.pch++r.hd.s.h,t:=ag0 r.hd.s.t ps r.TJ}
def Rg.ok(r:Rg)(gv:A)(rd:Bool)(s:S)(ps:List Tmp):Bool:=
 !rd&&(gv.fm s.n&&AA r.s1.n r.c)&&s.fm&&Hu r.s1.n r.hd.ss r.hd.s r.start r.fr&&r.hd.s.fm&&decide (r.pn=r.hd.s.n+r.pss.length)&&decide (r.TJ.length=ps.length)
def Rg.YZ(r:Rg)(s:S):S:={s with t:=r.hd.s.t}
def Rg.DX(r:Rg)(s:S):S:={s with t:=r.s1.t,h:=r.c++s.h,df:=r.s1.df}
def Rg.Ue(r:Rg)(s:S):S:={r.hd.s with h:=r.c++r.hd.s.h,df:=r.s1.df,dp:=s.dp}
def JH.toS(j:JH)(s:S):S:={s with t:=j.tv.foldl (λt x=>t.set x.1 x.2) s.t,h:=j.h,n:=j.n,lk:=j.lk++s.lk}
def alM(bt:jo)(k:Nat×Nat):Option JH:=match bt.jn.find? (·.1==k)with
 |some x=>x.2
 |none=>if(if Nat.ble 1000000 k.1 then bt.jb&& !bt.nj.contains k.1 else bt.jd)then some {YS:=true}else none
def ag1(k:Nat×Nat)(base:Nat)(s:S):T:=.all (.fail 9100) (.all (.again k.1 [.n (.v k.2),.n (.v base)]) (.all (.ret (.gY []) s.h) (.all (.ret (.gY []) (s.lk.map λx=>(x.2,.prop x.1))) (s.t.foldr (λv r=>.all (match v with|some v=>.ret v []|none=>.fail 0) r) (.fail 1)))))
def ag2(k:Nat×Nat)(j:JH)(s:S)(run:S->(S->T)->T)(K:S->T):T:=
 .join j.ss (run {s with dp:=s.dp+1} λs2=>if j.YS then ag1 k s.n s2 else if Hu s.n j.ss (j.toS s) s2 (YY s.n (j.toS s) s2)then .again (s2.dp - (s.dp+1)) (YY s.n (j.toS s) s2)else .all (.fail 9200) (.all (.again k.1 [.n (.v k.2),.n (.v (agY s.n j.ss (j.toS s) s2 (YY s.n (j.toS s) s2)))]) (.ret (.gY []) (Hv s.n (YY s.n (j.toS s) s2) s2.h j.h)))) (if j.YS then .all (.fail 87) (.again k.1 [.n (.v k.2)])else K (j.toS s))
def DY(bt:jo)(k:Nat×Nat)(s:S)(run:S->(S->T)->T)(K:S->T):T:=match alM bt k with
 |some j=>ag2 k j s run K
 |none=>run s K
def Uf(ops:Array Oper)(s:S):Nat×Nat:=(((ops.toList.filterMap (·.dst)).head?).getD 0,s.n)
def Y0:Operand->Nat
 | .tmp t=>2000000+t
 |_=>2000000
def exec(P:Program)(bt:jo)(rd:Bool):Code->S->(Ex->S->T)->T
 | .skip,s,K=>K .oY s
 | .region _ ops false,s,K=>if ops.toList.all (λo=>jI o.op)then
    (if ops.toList.any (λo=>o.guard.isSome)then DY bt (3000000+(Uf ops s).1,s.n) s (λs K=>TW P bt ops ops.toList s K) (λs=>K .oY s)else TW P bt ops ops.toList s λs=>K .oY s)
   else .fail 66
 | .region _ ops true,s,K=>
   if kC s.h&&AA s.n s.h&&Lb ops&&ops.toList.all (λo=>jI o.op)then
    DY bt (Uf ops s) s (λs K=>Lc P bt ops (Og P bt ops.toList s) s.h ops.size (Array.replicate ops.size false) s K) λs=>K .oY s
   else .fail 65
 | .seq a b,s,K=>exec P bt rd a s λe s=>match e with
   | .oY=>exec P bt rd b s K
   |e=>K e s
 | .cond c a b,s,K=>match oo s c with
   |some (.bool e)=>DY bt (Y0 c,s.n) s (λs K2=>brE s e (λs=>exec P bt rd a s λx s=>match x with
     | .oY=>K2 s
     |x=>K x s) (λs=>exec P bt rd b s λx s=>match x with
     | .oY=>K2 s
     |x=>K x s)) λs=>K .oY s
   |_=>.fail 70
 | .block id b,s,K=>DY bt (1000000+id,s.n) s (λs K2=>exec P bt rd b {s with blk:=id} λe s=>match e with
   | .exit i=>if i=id then K2 s else K (.exit i) s
   | .oY=>K2 s
   |e=>K e s) λs=>K .oY s
 | .loop b,s,K=>
   let hd:=oX bt b s
   let fr:=Ht s.n hd.s s
   if Hu s.n hd.ss hd.s s fr&&s.fm&&decide (hd.s.kn=s.kn)&&decide (hd.s.dp=s.dp+1)then
    .loop hd.ss fr (exec P bt rd b hd.s λe s2=>match e with
     | .oY=>
       let Ug:=Ht s.n hd.s s2
       if Hu s.n hd.ss hd.s s2 Ug then .again (s2.dp - hd.s.dp) Ug else .all (.fail (8000+s.blk)) (.ret (.gY []) (Hv s.n Ug s2.h hd.s.h))
     |e=>K e s2)
   else .fail (81+1000*agY s.n hd.ss hd.s s fr)
 | .rangeFunc g ps KQ b,s,K=>match oo s g with
   |none=>.fail 82
   |some gv=>
    let r:=uA P bt s gv
    if r.ok gv rd s ps.toList then
     .new (.K1 gv r.c (r.hd.s.h.filter λx=>r.Th.contains x.1) r.hd.ss r.fr r.pss r.TJ r.pch
      (exec P bt true KQ (r.round ps.toList) λx sA=>match x with
        | .oY=>exec P bt true b sA λx s2=>match x with
          | .oY=>
            let Ug:=Ht r.s1.n r.hd.s (r.YZ s2)
            if Hu r.s1.n r.hd.ss r.hd.s (r.YZ s2) Ug then .again (s2.dp - r.hd.s.dp) Ug else .all (.fail (8000+s.blk)) (.ret (.gY []) (Hv r.s1.n Ug s2.h r.hd.s.h))
          |x=>K x (r.DX s2)
        |_=>.fail 84)
      (K .oY (r.Ue s)))
    else .all (.fail 85) (.ret (.gY []) (Hv r.s1.n r.fr r.rest r.hd.s.h))
 | .exit id,s,K=>K (.exit id) s
 | .ret,s,K=>K .ret s
 | .scope b,s,K=>exec P bt rd b s K
 | .label _,s,K=>K .oY s
 |_,_,_=>.fail 90
def AP(P:Program)(s:S):ResultVar->Option W
 | .tmp t=>match ev s (.tmp t)with
   |some (.w x)=>some x
   |_=>none
 | .cell a t=>match oo s (.tmp a)with
   |some (.ptr r off)=>match oq s.h (.b r)with
    |some (.cells l _)=>AC P t l off
    |_=>none
   |_=>none
def Ft(v:V)(ks:List Key)(s:S):T:=
 let h:=tW s.h (jv s.h [] 200 (ks++rK v) [])
 if K6 h s.h then .ret v h else .fail 98
def leave(P:Program)(fn:Func)(ks:List Key)(s:S):T:=match mapM' (AP P s) fn.results.toList with
 |some [x]=>Ft (.w x) ks s
 |some l=>Ft (.gY l) ks s
 |none=>.fail 95
def Qx(df:List BR)(x:Key×C):Bool:=df.any λr=>decide (x=(.b r,.rI))
def Fu:List BR->Bool
 |[]=>true
 |x::r=> !r.contains x&&Fu r
def ag3(s:S):Bool:=Fu s.df&&s.df.all λr=>s.h.contains (.b r,.rI)
def Uh(s:S):S:={s with h:=s.h.filter λx=> !Qx s.df x,df:=[]}
def Fv(P:Program)(fn:Func)(ks:List Key)(s:S):T:=if ag3 s then leave P fn ks (Uh s)else .fail 99
def adE(bt:jo)(ks:List Key)(s:S):List Key:=if bt.K3 then ks.flatMap (oU s.lk)else[]
def adF(P:Program)(bt:jo)(fn:Func)(s:S):List Key:=if bt.dN then(fn.results.toList.flatMap λr=>match AP P s r with|some x=>x.list.flatMap fR|none=>[]).flatMap (Od s 4)else[]
def tree(P:Program)(bt:jo)(fn:Func)(args:List W)(h:Hp)(n:Nat):T:=match fn.body with
 |some c=>exec P bt false c ⟨args.map (λw=>some (.w w))++List.replicate (fn.ntmps - args.length) (some (.gY [])),h,n,[],[],0,0,[]⟩ λe s=>match e with
  | .oY=>Fv P fn (h.map (·.1)++adE bt (h.map (·.1)) s++adF P bt fn s) s
  | .ret=>Fv P fn (h.map (·.1)++adE bt (h.map (·.1)) s++adF P bt fn s) s
  | .exit _=>.fail 96
 |none=>.fail 97
theorem kD(ρ x:cd){k}(h:k<ρ.length):look (ρ++x) k=look ρ k:=by
 induction ρ generalizing k with
 |nil=>simp at h
 |cons a r ih=>cases k with
  |zero=>rfl
  |succ k=>exact ih (by simpa using h)
theorem ou(ρ:cd) u(x:cd):look (ρ++u::x) ρ.length=u:=by
 induction ρ with
 |nil=>rfl
 |cons a r ih=>exact ih
theorem E.app{ρ:cd}{e:E}(h:e.fm ρ.length=true) x:e.den (ρ++x)=e.den ρ:=by
 induction e with
 |v k=>exact kD ρ x (by simpa[E.fm]using h)
 |o1 f a ih=>simp only[E.fm]at h;simp only[E.den,ih h]
 |o2 f a b iha ihb=>simp only[E.fm,Bool.and_eq_true]at h;simp only[E.den,iha h.1,ihb h.2]
 |_=>rfl
theorem BR.app{ρ:cd}{r:BR}(h:r.fm ρ.length=true) x:r.den (ρ++x)=r.den ρ:=by
 cases r with
 |v k=>simp only[BR.den];rw[kD ρ x (by simpa[BR.fm]using h)]
 |g n=>rfl
theorem SA.app{ρ:cd}{r:SA}(h:r.fm ρ.length=true) x:r.den (ρ++x)=r.den ρ:=by
 cases r with
 |nil=>rfl
 |v k=>simp only[SA.den];rw[kD ρ x (by simpa[SA.fm]using h)]
 |b r o=>simp only[SA.den];rw[BR.app (by simpa[SA.fm]using h)]
theorem A.app{ρ:cd}{y:A}(h:y.fm ρ.length=true) x:y.den (ρ++x)=y.den ρ:=by
 cases y<;>simp only[A.fm,Bool.and_eq_true,decide_eq_true_eq,Nat.blt_eq]at h<;>simp only[A.den]
 case int=>rw[E.app h]
 case bool=>rw[E.app h]
 case str=>rw[E.app h]
 case ptr=>rw[BR.app h]
 case mz=>rw[kD ρ x h.1,E.app h.2]
 case sl=>rw[SA.app h.1.1,E.app h.1.2,E.app h.2]
 case map=>rw[BR.app h]
 case val=>rw[kD ρ x h]
 case func f cs=>
  congr 2;refine List.map_congr_left λc hc=>?_;simp only[K0];rw[BR.app (List.all_eq_true.1 h c hc)]
theorem As.app{ρ:cd}{l:List A}(h:l.all (A.fm ρ.length)=true) x:l.map (A.den (ρ++x))=l.map (A.den ρ):=
 List.map_congr_left λy hy=>A.app (List.all_eq_true.1 h y hy) x
theorem W.app{ρ:cd}{y:W}(h:y.fm ρ.length=true) x:y.den (ρ++x)=y.den ρ:=by
 cases y with
 |a y=>exact A.app h x
 |agg l=>simp only[W.den];rw[As.app h]
theorem V.app{ρ:cd}{y:V}(h:y.fm ρ.length=true) x:y.den (ρ++x)=y.den ρ:=by
 cases y with
 |w y=>exact W.app h x
 |gY l=>
  simp only[V.den];congr 2;exact List.map_congr_left λy hy=>W.app (List.all_eq_true.1 h y hy) x
 |nx c k v=>
  simp only[V.fm,Bool.and_eq_true,decide_eq_true_eq,Nat.blt_eq]at h;simp only[V.den,kD ρ x h.1.1,kD ρ x h.1.2,kD ρ x h.2]
theorem AQ{ρ:cd}{y}(h:(y.1.fm ρ.length&&y.2.fm ρ.length)=true) x:jH (ρ++x) y=jH ρ y:=by
 obtain⟨k,c⟩:=y;simp only[Bool.and_eq_true]at h;obtain⟨hk,hc⟩:=h;cases c with
 |prop j=>simp only[jH];rw[kD ρ x (by simpa[C.fm]using hc)]
 |cells l ty=>cases k with
  |b r=>simp only[jH];rw[BR.app hk,As.app hc]
  |a j=>rfl
 |vB=>cases k with
  |b r=>simp only[jH];rw[BR.app hk]
  |a j=>rfl
 |rI=>cases k with
  |b r=>simp only[jH];rw[BR.app hk]
  |a j=>rfl
theorem rL{ρ:cd}{h}(hb:AA ρ.length h=true) x:cT (ρ++x) h=cT ρ h:=by
 induction h with
 |nil=>rfl
 |cons y r ih=>
  simp only[AA,List.all_cons,Bool.and_eq_true]at hb;have e:=AQ (ρ:=ρ) (y:=y) (by simp[hb.1]) x;have ih':=ih (by unfold AA;exact hb.2);cases r with
  |nil=>exact e
  |cons z q=>simp only[cT]at ih'⊢;rw[e,ih']
theorem co(ρ:cd) x(r:Hp) R h:(cT ρ (x::r)).p R h↔(aj (jH ρ x) (cT ρ r)).p R h:=by
 cases r with
 |nil=>exact⟨λH=>aD H,λH=>ai H⟩
 |cons y q=>exact Iff.rfl
theorem pI{ρ:cd}{l m}{R h}:(cT ρ (l++m)).p R h↔(aj (cT ρ l) (cT ρ m)).p R h:=by
 induction l generalizing h with
 |nil=>exact⟨λH=>aW H,λH=>ah H⟩
 |cons x r ih=>
  rw[List.cons_append,co];constructor
  ·intro H;exact ae (aC (ae H (λ_ h=>h) λ_ h=>(ih).1 h)) (λ_ h=>(co ρ x r _ _).2 h) λ_ h=>h
  ·intro H;exact ae (au (ae H (λ_ h=>(co ρ x r _ _).1 h) λ_ h=>h)) (λ_ h=>h) λ_ h=>(ih).2 h
theorem mf{ρ:cd} q{l}{R h}(H:(cT ρ l).p R h):(aj (cT ρ (l.filter q)) (cT ρ (l.filter λx=> !q x))).p R h:=by
 induction l generalizing h with
 |nil=>exact aD trivial
 |cons x r ih=>
  have H1:=(co ρ x r R h).1 H;cases hq:q x with
  |true=>
   rw[List.filter_cons,List.filter_cons];simp only[hq,if_true,Bool.not_true,Bool.false_eq_true,if_false];exact ae (aC (ae H1 (λ_ h=>h) λ_ h=>ih h)) (λ_ h=>(co ρ x _ _ _).2 h) λ_ h=>h
  |false=>
   rw[List.filter_cons,List.filter_cons];simp only[hq,if_true,Bool.not_false,Bool.false_eq_true,if_false];have H2:=ae H1 (λ_ h=>h) λ_ h=>ih h;have H3:=ak (aC (ae H2 (λ_ h=>h) λ_ h=>ak h));exact ae H3 (λ_ h=>h) λ_ h=>(co ρ x _ _ _).2 h
theorem AR{ρ:cd}{l}{x}(hx:x∈l){R h}(H:(cT ρ l).p R h):(jH ρ x).p R h:=by
 induction l generalizing h with
 |nil=>cases hx
 |cons y r ih=>
  have H1:=(co ρ y r R h).1 H;cases hx with
  |head=>exact ai H1
  |tail _ hr=>exact ih hr (ah H1)
theorem Hw{ρ:cd}{l}{x}(hx:x∈l){R h}(H:(cT ρ l).p R h):(aj (jH ρ x) (cT ρ (l.erase x))).p R h:=by
 induction l generalizing h with
 |nil=>cases hx
 |cons y r ih=>
  have H1:=(co ρ y r R h).1 H
  by_cases e:y=x
  ·subst e;rw[List.erase_cons_head];exact H1
  ·rw[List.erase_cons_tail (by simpa using e)]
   have hr:x∈r:=by
    cases hx with
    |head=>exact absurd rfl e
    |tail _ hr=>exact hr
   have H2:=ae H1 (λ_ h=>h) λ_ h=>ih hr h;have H3:=au (ae (aC H2) (λ_ h=>ak h) λ_ h=>h);exact ae H3 (λ_ h=>h) λ_ h=>(co ρ y _ _ _).2 h
theorem pJ{ρ:cd}{m}:∀ {l:Hp},kC m=true->(∀x∈m,x∈l)->∀ {R h:PH},(cT ρ l).p R h->(cT ρ m).p R h:=by
 induction m with
 |nil=>intro _ _ _ _ _ _;trivial
 |cons x r ih=>
  intro l hn hs R h H;simp only[kC,Bool.and_eq_true,Bool.not_eq_true',List.contains_eq_mem,decide_eq_false_iff_not]at hn;have H1:=Hw (hs x (List.mem_cons_self ..)) H;refine(co ρ x r R h).2 (ae H1 (λ_ h=>h) λ_ h=>ih hn.2 (λy hy=>?_) h);exact(List.mem_erase_of_ne (λe=>hn.1 (by rw[<-e];exact hy))).2 (hs y (List.mem_cons_of_mem _ hy))
theorem DZ{h}{k}{c}(e:oq h k=some c):(k,c)∈h:=by
 induction h with
 |nil=>cases e
 |cons x r ih=>
  obtain⟨y,d⟩:=x;simp only[oq]at e;split at e
  ·rename_i hy;subst hy;cases e;exact List.mem_cons_self ..
  ·exact List.mem_cons_of_mem _ (ih e)
def Tm(ρ:cd)(t:List (Option V))(a:Act):Prop:=a.tmps.size=t.length/\∀(i:Nat) (v:V),t[i]? =some (some v)->a.tmps[i]? =some (v.den ρ)
def rN(ρ:cd)(r:BR):Deferred:={target:=.collected (r.den ρ),args:= #[]}
structure Ok(ρ:cd)(s:S)(a:Act)(w0 w:World)(R h F:PH):Prop where
 rI:a.defers=s.df.map (rN ρ)
 tm:Tm ρ s.t a
 len:ρ.length=s.n
 kn:∀x∈s.kn,(x.1.den ρ).bool=x.2
 hp:(cT ρ s.h).p R h
 rO:Sat w R h F
 same:Same w0 w
theorem Tm.put{ρ:cd}{t}{a}(h:Tm ρ t a)(d:Tmp) v:Tm ρ (t.set d (some v)) (a.put (some d) (v.den ρ)):=by
 refine⟨by simp[Act.put,h.1],λi u hi=>?_⟩;simp only[Act.put]
 by_cases e:d=i
 ·subst e
  have hl:d<t.length:=by
   rcases Nat.lt_or_ge d t.length with g|g
   ·exact g
   ·rw[List.set_eq_of_length_le g,List.getElem?_eq_none g]at hi;cases hi
  rw[List.getElem?_set_self hl]at hi;simp only[Option.some.injEq]at hi;subst hi;rw[Array.getElem?_setIfInBounds_self_of_lt (by rw[h.1];exact hl)]
 ·rw[List.getElem?_set_ne e]at hi;rw[Array.getElem?_setIfInBounds_ne e];exact h.2 i u hi
theorem Ok.put{ρ:cd}{s}{a}{w0 w}{R h F}(k:Ok ρ s a w0 w R h F) d v:Ok ρ (s.put d v) (a.put d (v.den ρ)) w0 w R h F:=by
 cases d with
 |none=>exact k
 |some d=>exact⟨k.rI,k.tm.put d v,k.len,k.kn,k.hp,k.rO,k.same⟩
theorem Tm.app{ρ:cd}{t}{a}(h:Tm ρ t a)(hb:(t.all λ|some v=>v.fm ρ.length|none=>true)=true) x:Tm (ρ++x) t a:=
 ⟨h.1,λi v hi=>by rw[V.app (by have:=List.all_eq_true.1 hb _ (List.mem_of_getElem? hi);exact this)];exact h.2 i v hi⟩
theorem Ok.app{ρ:cd}{s}{a}{w0 w}{R h F}(k:Ok ρ s a w0 w R h F)(hb:s.fm=true) x n(hn:n=s.n+x.length):Ok (ρ++x) {s with n:=n} a w0 w R h F:=by
 simp only[S.fm,Bool.and_eq_true]at hb;obtain⟨⟨⟨h1,h2⟩,h4⟩,h3⟩:=hb;rw[<-k.len]at h1 h2 h3 h4;refine⟨?_,k.tm.app h1 x,by simp[k.len,hn],λy hy=>?_,?_,k.rO,k.same⟩
 ·rw[k.rI];exact List.map_congr_left λr hr=>by unfold rN;rw[BR.app (List.all_eq_true.1 h4 r hr)]
 ·rw[E.app (List.all_eq_true.1 h3 y hy)];exact k.kn y hy
 ·show(cT (ρ++x) s.h).p R h;rw[rL h2];exact k.hp
theorem AS{v}{x}(h:AB v=some x)(ρ:cd):x.den ρ=v:=by
 unfold AB at h;split at h<;>first|(cases h;done)|(cases h;rfl)
theorem AT{α β:Type}{f:α->Option β}:∀ {l:List α} {m:List β},mapM' f l=some m->l.map f=m.map some
 |[],m,h=>by cases h;rfl
 |x::r,m,h=>by
  simp only[mapM']at h;split at h
  ·rename_i y hy;split at h
   ·rename_i q hq;cases h;simp[hy,AT hq]
   ·cases h
  ·cases h
theorem Le{l}{m}(h:mapM' AB l=some m)(ρ:cd):m.map (A.den ρ)=l:=by
 induction l generalizing m with
 |nil=>cases h;rfl
 |cons x r ih=>
  simp only[mapM']at h;split at h
  ·rename_i y hy;split at h
   ·rename_i q hq;cases h;simp[AS hy,ih hq]
   ·cases h
  ·cases h
theorem D0{v}{x}(h:Hh v=some x)(ρ:cd):x.den ρ=v:=by
 unfold Hh at h;split at h
 ·rename_i cs;simp only[Option.map_eq_some_iff]at h;obtain⟨m,hm,rfl⟩:=h;simp only[W.den];rw[Le hm]
 ·simp only[Option.map_eq_some_iff]at h;obtain⟨m,hm,rfl⟩:=h;exact AS hm ρ
theorem jz{ρ:cd}{s}{a}(h:Tm ρ s.t a){x}{v}(e:ev s x=some v):a.eval x=v.den ρ:=by
 cases x with
 |tmp t=>
  simp only[ev]at e;split at e
  ·rename_i o ho;subst e;have:=h.2 t v (by assumption);simp[Act.eval,this]
  ·cases e
 |const c=>
  simp only[ev,Option.map_eq_some_iff]at e;obtain⟨w,hw,rfl⟩:=e;exact(D0 hw ρ).symm
 |global g=>simp only[ev,Option.some.injEq]at e;subst e;rfl
 |func f=>simp only[ev,Option.some.injEq]at e;subst e;rfl
theorem cz{ρ:cd}{s}{a}(h:Tm ρ s.t a){x}{v}(e:oo s x=some v):a.eval x=v.den ρ:=by
 unfold oo at e;split at e
 ·rename_i y hy;cases e;exact jz h hy
 ·cases e
theorem vE{ρ:cd}{s}{a}(h:Tm ρ s.t a){x}{v}(e:N4 s x=some v):a.eval x=v.den ρ:=by
 unfold N4 at e;split at e
 ·rename_i y hy;cases e;exact jz h hy
 ·cases e
theorem Lf{ρ:cd}{l}(h:∀x∈l,(x.1.den ρ).bool=x.2){e}{b}(k:Fh l e=some b):(e.den ρ).bool=b:=by
 induction l with
 |nil=>cases k
 |cons x r ih=>
  have hx:(x.1.den ρ).bool=x.2:=h x (List.mem_cons_self ..);obtain⟨y,c⟩:=x;simp only at hx;simp only[Fh]at k;split at k
  ·rename_i he;cases k;subst he;exact hx
  ·split at k
   ·rename_i he;cases k;subst he;simp only[E.den,F1.app,en.bool]at hx;simp only[<-hx,Bool.not_not];rfl
   ·split at k
    ·rename_i he;cases k;subst he;simp only[E.den,F1.app,en.bool];simp only[<-hx];rfl
    ·exact ih (λz hz=>h z (List.mem_cons_of_mem _ hz)) k
theorem ng{ρ:cd}{l}(h:∀x∈l,(x.1.den ρ).bool=x.2){e}{b}(k:tU l e=some b):(e.den ρ).bool=b:=by
 unfold tU at k;split at k
 ·rename_i c hc;cases k;cases e<;>simp only[isLit]at hc<;>first|(cases hc;done)|(cases hc;rfl)
 ·exact Lf h k
theorem ox(ρ:cd) e:((N5 e).den ρ).bool= !(e.den ρ).bool:=by cases e<;>simp[N5,E.den,F1.app,en.bool]
section
variable {P:Program}{w:World}
theorem run_underlying{t}{d}(h:P.underlying t=some d):(underlying t).run P w=.ok d w:=by
 simp[underlying,program,h,Sem.run]
theorem mA{t}{d}(h:P.underlying t=some d):∃i,P.info? t=some i:=by
 unfold Program.underlying at h;split at h
 ·rename_i hh;exact⟨_,hh⟩
 ·rename_i hh;exact⟨_,hh⟩
 ·cases h
theorem run_typeInfo{t}{i}(h:P.info? t=some i):(typeInfo t).run P w=.ok i w:=by
 simp[typeInfo,program,h,Sem.run]
theorem run_sizeOf{t}{i}(h:P.info? t=some i):(sizeOf t).run P w=.ok (iA P t) w:=by
 simp only[sizeOf,Sem.run_bind,run_typeInfo h,Result.andThen_ok,iA,h,Sem.run_pure]
theorem iB{t}{d}(h:P.underlying t=some d):(isAgg t).run P w=.ok (gZ P t) w:=by
 simp only[isAgg,Sem.run_bind,run_underlying h,Result.andThen_ok,gZ,h];cases d<;>rfl
theorem run_load{a}{v}(h:w.cell? a=some v):(load a).run P w=.ok v w:=by
 simp[load,Sem.run,h]
theorem addr_add b off n:(⟨b,off,none⟩:Addr).add n=⟨b,off+n,none⟩:=by
 unfold Addr.add;split<;>simp_all
theorem run_loadCellsFrom{b off}(vs:List Value):∀(i:Nat) (acc:dI),(∀j v,vs[j]? =some v->w.cell? ⟨b,off+(i+j),none⟩=some v)->
 (loadCellsFrom ⟨b,off,none⟩ i vs.length acc).run P w=.ok (acc++vs.toArray) w:=by
 induction vs with
 |nil=>intro i acc _;simp[loadCellsFrom]
 |cons x r ih=>
  intro i acc h;have h0:=h 0 x rfl;rw[Nat.add_zero]at h0;simp only[List.length_cons,loadCellsFrom,addr_add,Sem.run_bind,run_load h0,Result.andThen_ok];rw[ih (i+1) (acc.push x) (λj v hj=>by have:=h (j+1) v (by simpa using hj);rw[show i+1+j=i+(j+1) by omega];exact this)];simp
theorem run_loadCells{b off}(vs:List Value)(h:∀j v,vs[j]? =some v->w.cell? ⟨b,off+j,none⟩=some v):
 (loadCells ⟨b,off,none⟩ vs.length).run P w=.ok vs.toArray w:=by
 unfold loadCells;rw[run_loadCellsFrom vs 0 #[] (λj v hj=>by simpa using h j v hj)];simp
theorem Ui{ρ:cd}{t}{l}{off}{x}(h:AC P t l off=some x):(part t (l.map (A.den ρ)).toArray off).run P w=.ok (x.den ρ) w:=by
 unfold AC at h;split at h
 ·cases h
 ·rename_i d hd;obtain⟨i,hi⟩:=mA hd;split at h
  ·rename_i ha;split at h
   ·cases h;simp only[part,Sem.run_bind,iB hd,Result.andThen_ok,ha,if_true,run_sizeOf hi,Sem.run_pure,W.den];congr 3;rw[List.map_take,List.map_drop];simp[List.extract_toArray]
   ·cases h
  ·rename_i ha;simp only[Option.map_eq_some_iff]at h;obtain⟨y,hy,rfl⟩:=h;have Fw:gZ P t=false:=by simpa using ha
   simp only[part,Sem.run_bind,iB hd,Result.andThen_ok,Fw,Bool.false_eq_true,if_false,List.getElem?_toArray,List.getElem?_map,hy,Option.map_some,Sem.run_pure,W.den]
end
theorem Uj{w}{R h F}(s:Sat w R h F){b}{c:dI}{ty}(e:h b=some (.cells c ty (0,0))) k:w.cell? ⟨b,k,none⟩=c[k]? :=by
 unfold World.cell?;rw[s.oh b _ e];rfl
theorem AU{ρ:cd}{r}{l}{ty}{R h}(H:(jH ρ (.b r,.cells l ty)).p R h):h (r.den ρ)=some (.cells (l.map (A.den ρ)).toArray ty (0,0)):=H
theorem eZ{k:IntKind}{x}(h:k.min<=x/\x<=k.max):k.wrap x=x:=by
 obtain⟨h1,h2⟩:=h;cases k<;>simp[IntKind.min,IntKind.max,IntKind.signed,IntKind.bits,IntKind.wrap]at* <;>omega
theorem D1{ρ:cd}{e:E}(h:e.prop ρ):(e.den ρ).bool=true:=(l9 ρ e).1 h
theorem AV{ρ:cd}{k}{e}(h:(rng k e).prop ρ):k.min<=(e.den ρ).int/\(e.den ρ).int<=k.max:=by
 unfold rng at h;split at h
 ·split at h
  ·rename_i hh;exact hh
  ·exact h
 ·exact h
theorem j4{e}{l}{ρ:cd}(h:∀y∈tV e l,y.prop ρ):e.prop ρ/\∀y∈l,y.prop ρ:=by
 unfold tV at h;split at h
 ·exact⟨rfl,h⟩
 ·exact⟨h _ (List.mem_cons_self ..),λy hy=>h y (List.mem_cons_of_mem _ hy)⟩
theorem Qy{op}{a b e}(h:arith op a b=some e)(ρ:cd) k:Op.intArith op k (a.den ρ).int (b.den ρ).int=pure (.int k (k.wrap (e.den ρ).int)):=by
 unfold arith at h;split at h<;>cases h<;>rfl
theorem AW(ρ:cd) f a b:((vC f a b).den ρ).bool=((E.o2 f a b).den ρ).bool:=by
 unfold vC;split<;>rfl
theorem pK(ρ:cd) f a b:(vC f a b).prop ρ↔(E.o2 f a b).prop ρ:=by
 rw[l9,l9,AW]
theorem Hx(ρ:cd) e:(N5 e).prop ρ↔¬e.prop ρ:=by
 rw[l9,l9,ox];simp
theorem AX{P}{w}{ρ:cd}{op}{k}{a b}{es}{r}(h:Fi op k a b=some (es,r))(hn:∀e∈es,e.prop ρ) t:
 (binOp op t (.int k (a.den ρ).int) (.int k (b.den ρ).int)).run P w=.ok (r.den ρ) w:=by
 have ht:∀x y:Int,(x==y)=decide (x=y):=λx y=>rfl;cases op<;>simp only[Fi]at h<;>try (cases h;done)
 case add|sub|mul=>
  split at h
  ·rename_i e he;have hd:=Qy he ρ k;split at h
   ·cases h;have:=AV (j4 hn).1;simp[binOp,hd,A.den,eZ this]
   ·cases h;simp[binOp,hd,A.den,E.den,F1.app]
  ·cases h
 case quo=>
  split at h
  ·rename_i x y;split at h
   ·rename_i hy;cases h;simp[binOp,Op.intDiv,E.den,hy.1,A.den,eZ hy.2]
   ·cases h
  ·cases h;obtain⟨h1,h2⟩:=j4 hn;obtain⟨h3,_⟩:=j4 h2;have h4:=AV h3;rw[Hx,pK]at h1;have h5:¬(b.den ρ).int=0:=h1;simp only[E.den,F2.app,pG]at h4;simp[binOp,Op.intDiv,h5,A.den,E.den,F2.app,eZ h4]
 case rem=>
  split at h
  ·rename_i x y;split at h
   ·rename_i hy;cases h;simp[binOp,Op.intDiv,E.den,hy,A.den]
   ·cases h
  ·cases h;obtain⟨h1,h2⟩:=j4 hn;rw[Hx,pK]at h1;have h5:¬(b.den ρ).int=0:=h1;simp[binOp,Op.intDiv,h5,A.den,E.den,F2.app]
 case and|or|xor|andNot=>
  cases h;simp[binOp,Op.intBits,A.den,E.den,F2.app,en.int,bits]
 case eql|lss|leq|gtr|geq=>
  cases h;simp[binOp,Op.intCmp,A.den,AW,E.den,F2.app,ht]
 case neq=>
  cases h;simp[binOp,Op.intCmp,A.den,ox,AW,E.den,F2.app,bne,ht]
theorem mg{P}{w}{op}{t}{x y}{a b}(h1:¬(a=.nilIface/\b=.nilIface))(h2:∀c d,¬(a=.agg c/\b=.agg d)):
 (eqGuard op t x y a b).run P w=.ok () w:=by
 unfold eqGuard;cases op<;>first|rfl|skip
 all_goals
  simp only[Bool.not_true,Bool.false_eq_true,if_false];split
  ·exact absurd ⟨rfl,rfl⟩ h1
  ·exact absurd ⟨rfl,rfl⟩ (h2 _ _)
  ·rfl
theorem gh{P}{w}{t}{x y}{b}
 (e:∀n,(Op.equalIn (n+1) t x y).run P w=.ok b w):(Op.equal t x y).run P w=.ok b w:=e 9999
theorem qy{P}{w:World}{ρ:cd}{t:TypeId}{a b:A}{e:E}(hb:rJ b=true)(ka:gn P t a=true)(kb:gn P t b=true)(he:AD a=some e):
 (Op.equal t (a.den ρ) (b.den ρ)).run P w=.ok (e.den ρ).bool w/\(Op.equal t (b.den ρ) (a.den ρ)).run P w=.ok (e.den ρ).bool w:=by
 unfold gn at ka;split at ka<;>first|(cases ka;done)|skip
 case h_1 h|h_2 h|h_3 h|h_4 h|h_6 h|h_7 h=>
  cases b<;>simp only[rJ,gn,h]at hb kb<;>first|(cases hb;done)|(cases kb;done)|skip
  cases he;refine⟨gh λn=>?_,gh λn=>?_⟩<;>simp[Op.equalIn,run_underlying h,A.den,E.den]
 case h_5 s l c h=>
  cases b with
  |sl s' l' c'=>
   have:s'=.nil:=by
    unfold rJ at hb;split at hb<;>first|(cases hb;done)|skip
    all_goals rename_i hh;first|(cases hh;done)|(cases hh;rfl)
   subst this;cases s with
   |nil=>cases he;refine⟨gh λn=>?_,gh λn=>?_⟩<;>simp[Op.equalIn,run_underlying h,A.den,SA.den,E.den]
   |v k=>
    cases he;refine⟨gh λn=>?_,gh λn=>?_⟩<;>simp only[Op.equalIn,Sem.run_bind,run_underlying h,Result.andThen_ok,A.den,SA.den,N5,E.den,F1.app,lE]<;>cases(look ρ k).adr<;>rfl
   |b r o=>cases he;refine⟨gh λn=>?_,gh λn=>?_⟩<;>simp[Op.equalIn,run_underlying h,A.den,SA.den,E.den]
  |_=>simp only[rJ,gn,h]at hb kb<;>first|(cases hb;done)|(cases kb;done)
theorem run_equal_bool{P}{w}{t}(h:N6 P t=true) a b:(Op.equal t (.bool a) (.bool b)).run P w=.ok (a==b) w:=by
 unfold N6 at h;split at h
 ·rename_i hd;exact gh λn=>by simp only[Op.equalIn,Sem.run_bind,run_underlying hd,Result.andThen_ok,Sem.run_pure]
 ·cases h
theorem Uk(a b:ax):((⟨a.toArray⟩:ByteArray).toList==(⟨b.toArray⟩:ByteArray).toList)=decide (a=b):=by
 rw[ByteArray.toList_mk,ByteArray.toList_mk];exact Bool.eq_iff_iff.2 (by simp)
theorem oy{P}{t}{a}(h:gn P t a=true)(ρ:cd):a.den ρ≠.nilIface/\∀c,a.den ρ≠.agg c:=by
 unfold gn at h;split at h<;>first|(cases h;done)|simp[A.den]
theorem iX{P}{w}{t}{x y}{b}(hx:(∃o,x=.pointer o)\/(∃o l c,x=.slice o l c)\/(∃o,x=.map o)\/x=.nilFunc\/(∃f g c,x=.func f g c))
 (h:(Op.equal t x y).run P w=.ok b w):(binOp .eql t x y).run P w=.ok (.bool b) w/\(binOp .neq t x y).run P w=.ok (.bool (!b)) w:=by
 rcases hx with⟨o,rfl⟩|⟨o,l,c,rfl⟩|⟨o,rfl⟩|rfl|⟨f,g,c,rfl⟩<;>
  refine⟨?_,?_⟩<;>simp only[binOp,Sem.run_bind,h,Result.andThen_ok,Sem.run_pure]
theorem mU{P}{t}{a}(h:gn P t a=true)(ρ:cd):
 (∃o,a.den ρ=.pointer o)\/(∃o l c,a.den ρ=.slice o l c)\/(∃o,a.den ρ=.map o)\/a.den ρ=.nilFunc\/(∃f g c,a.den ρ=.func f g c):=by
 unfold gn at h;split at h<;>first|(cases h;done)|simp[A.den]
theorem Ul{P}{w}{ρ:cd}{op}{t}{a b}{es}{r}(h:adq P op t a b=some (es,r))(hn:∀e∈es,e.prop ρ)(x y:Operand):
 (do eqGuard op t x y (a.den ρ) (b.den ρ);binOp op t (a.den ρ) (b.den ρ):Sem Value).run P w=.ok (r.den ρ) w:=by
 rw[Sem.run_bind]
 have guard:(∀k,a≠.val k)->a≠.adn->(eqGuard op t x y (a.den ρ) (b.den ρ)).run P w=.ok () w:=λh1 h2=>
  mg (λh=>by cases a<;>simp_all [A.den]) (λc d h=>by cases a<;>simp_all [A.den])
 unfold adq at h;split at h
 ·cases h;rw[guard (by simp) (by simp)];have h1:=(j4 hn).1;rw[pK]at h1;have h2:¬(E.den ρ _).int<0:=Int.not_lt.2 (show(0:Int)<=_ from h1);simp[binOp,Op.shift,A.den,E.den,F2.app,h2]
 ·cases h;rw[guard (by simp) (by simp)];have h1:=(j4 hn).1;rw[pK]at h1;have h2:¬(E.den ρ _).int<0:=Int.not_lt.2 (show(0:Int)<=_ from h1);simp[binOp,Op.shift,A.den,E.den,F2.app,h2]
 ·split at h
  ·rename_i hk;subst hk;rw[guard (by simp) (by simp)];exact AX h hn t
  ·cases h
 ·split at h
  ·rename_i hb;cases h;rw[guard (by simp) (by simp)];simp only[Result.andThen_ok,binOp,A.den,Sem.run_bind,run_equal_bool hb,Sem.run_pure,E.den,F2.app,lE]
  ·cases h
 ·split at h
  ·rename_i hb;cases h;rw[guard (by simp) (by simp)];simp only[Result.andThen_ok,binOp,A.den,Sem.run_bind,run_equal_bool hb,Sem.run_pure,ox,E.den,F2.app,lE]
  ·cases h
 ·cases h;rw[guard (by simp) (by simp)];simp only[Result.andThen_ok,A.den,binOp_string_eql,Uk,Sem.run_pure,E.den,F2.app,lE]
 ·cases h;rw[guard (by simp) (by simp)];simp only[Result.andThen_ok,A.den,binOp_string_neq,Uk,Sem.run_pure,ox,E.den,F2.app,lE]
 ·cases h;rw[guard (by simp) (by simp)];have h1:=hn _ (List.mem_cons_self ..);simp only[E.prop,E.den,F1.app,F2.app,pG,rH]at h1;rename_i sa sb
  have h2:¬((((⟨(sa.den ρ).str.toArray⟩:ByteArray).size+(⟨(sb.den ρ).str.toArray⟩:ByteArray).size:Nat):Int)>IntKind.i64.max):=by
   simp only[ByteArray.size,List.size_toArray,IntKind.max,IntKind.signed,IntKind.bits];simp only[if_true];omega
  simp only[Result.andThen_ok,A.den,binOp,Op.stringOp,h2,if_false,Sem.run_pure,E.den,F2.app,DP];congr 3
 ·cases h;rw[guard (by simp) (by simp)];simp only[Result.andThen_ok,A.den,binOp_string_lss,ByteArray.toList_mk,Sem.run_pure,E.den,F2.app,lE]
 ·split at h
  ·rename_i hc;simp only[Bool.and_eq_true]at hc;simp only[Option.map_eq_some_iff]at h;obtain⟨e,he,h⟩:=h;cases h;obtain⟨n1,n2⟩:=oy hc.1.2 ρ;rw[mg (λh=>n1 h.1) (λc d h=>n2 c h.1)];exact(iX (mU hc.1.2 ρ) (qy hc.1.1 hc.1.2 hc.2 he).1).1
  ·split at h
   ·rename_i hc;simp only[Bool.and_eq_true]at hc;simp only[Option.map_eq_some_iff]at h;obtain⟨e,he,h⟩:=h;cases h;obtain⟨n1,n2⟩:=oy hc.1.2 ρ;rw[mg (λh=>n1 h.1) (λc d h=>n2 c h.1)];exact(iX (mU hc.1.2 ρ) (qy hc.1.1 hc.2 hc.1.2 he).2).1
   ·cases h
 ·split at h
  ·rename_i hc;simp only[Bool.and_eq_true]at hc;simp only[Option.map_eq_some_iff]at h;obtain⟨e,he,h⟩:=h;cases h;obtain⟨n1,n2⟩:=oy hc.1.2 ρ;rw[mg (λh=>n1 h.1) (λc d h=>n2 c h.1)];simp only[A.den,ox];exact(iX (mU hc.1.2 ρ) (qy hc.1.1 hc.1.2 hc.2 he).1).2
  ·split at h
   ·rename_i hc;simp only[Bool.and_eq_true]at hc;simp only[Option.map_eq_some_iff]at h;obtain⟨e,he,h⟩:=h;cases h;obtain⟨n1,n2⟩:=oy hc.1.2 ρ;rw[mg (λh=>n1 h.1) (λc d h=>n2 c h.1)];simp only[A.den,ox];exact(iX (mU hc.1.2 ρ) (qy hc.1.1 hc.2 hc.1.2 he).2).2
   ·cases h
 ·cases h
theorem dD{P}{w}{s}{v}(h:s.run P w=.ok v w):(do pure (.value (<-s)):Sem Next).run P w=.ok (.value v) w:=by
 rw[Sem.run_bind,h];rfl
theorem vF{ρ:cd}{s:S}{k}(kn:∀x∈s.kn,(x.1.den ρ).bool=x.2)(h:tU s.kn (.o1 .isSome (.v k))=some true):∃a,(look ρ k).adr=some a:=by
 have:=ng kn h;simp only[E.den,F1.app,lE]at this;exact Option.isSome_iff_exists.1 this
theorem D2{e}{i}(h:natLit e=some i):e=.i (i:Int):=by
 unfold natLit at h;split at h
 ·split at h
  ·cases h;congr 1;omega
  ·cases h
 ·cases h
theorem Y1{e}{i}(h:ads e=some i):e=.n i:=by
 unfold ads at h;split at h
 ·cases h;rfl
 ·cases h
section
variable {P:Program}{w:World}{ρ:cd}
theorem run_indexAt_slice{t el}(ht:P.underlying t=some (.slice el)){i}(hi:P.info? el=some i){b}{len cap:Nat}{k}{x:Int}(h0:0<=x)(h1:x<len):
 (Instr.indexAt t (.slice (some b) len cap) (.int k x)).run P w=.ok (.pointer (some (b.add (x.toNat*iA P el)))) w:=by
 have hx:0<=x/\x<(len:Int):=⟨h0,h1⟩;simp[Instr.indexAt,asIntOf,Sem.run_bind,run_underlying ht,hx,run_sizeOf hi]
theorem run_indexAt_array{t el}{n}(ht:P.underlying t=some (.array n el)){i}(hi:P.info? el=some i){b}{k}{x:Int}(h0:0<=x)(h1:x<n):
 (Instr.indexAt t (.pointer (some b)) (.int k x)).run P w=.ok (.pointer (some (b.add (x.toNat*iA P el)))) w:=by
 have hx:0<=x/\x<(n:Int):=⟨h0,h1⟩;simp[Instr.indexAt,asIntOf,Sem.run_bind,run_underlying ht,hx,run_sizeOf hi,Instr.sureAddr]
theorem yS{t}{fs}(ht:P.underlying t=some (.struct fs)){f}{fd}(hf:fs[f]? =some fd)(hz:iA P fd.type≠0){b}:
 (Instr.fieldAt t (.pointer (some b)) f).run P w=.ok (.pointer (some (b.add fd.offset))) w:=by
 cases hi:P.info? fd.type with
 |none=>simp[iA,hi]at hz
 |some i=>simp[Instr.fieldAt,Sem.run_bind,run_underlying ht,hf,Instr.sureAddr,fieldPlace,run_sizeOf hi,hz]
theorem AY{t}{r:BR}{off}{l}{ty}{x}{R h F}(rO:Sat w R h F)(hc:h (r.den ρ)=some (.cells (l.map (A.den ρ)).toArray ty (0,0)))(hp:AC P t l off=some x):
 (Instr.loadAt t (.pointer (some ⟨r.den ρ,off,none⟩))).run P w=.ok (x.den ρ) w:=by
 have hcell:=Uj rO hc;unfold AC at hp;split at hp
 ·cases hp
 ·rename_i d hd;obtain⟨i,hi⟩:=mA hd;simp only[Instr.loadAt,Instr.sureAddr,Sem.run_bind,Sem.run_pure,Result.andThen_ok,loadVar,iB hd];split at hp
  ·rename_i ha;split at hp
   ·rename_i hl;cases hp;have hlen:((l.map (A.den ρ)).drop off |>.take (iA P t)).length=iA P t:=by simp;omega
    have hr:=run_loadCells (P:=P) (w:=w) (b:=r.den ρ) (off:=off) ((l.map (A.den ρ)).drop off |>.take (iA P t)) (λj v hj=>by
     rw[hcell];rw[List.getElem?_take]at hj;split at hj
     ·rw[List.getElem?_drop]at hj;simpa using hj
     ·cases hj)
    rw[hlen]at hr;simp only[ha,if_true,Sem.run_bind,run_sizeOf hi,Result.andThen_ok,hr,Sem.run_pure,W.den,List.map_take,List.map_drop]
   ·cases hp
  ·rename_i ha;have Fw:gZ P t=false:=by simpa using ha
   simp only[Option.map_eq_some_iff]at hp;obtain⟨y,hy,rfl⟩:=hp;simp only[Fw,Bool.false_eq_true,if_false];refine run_load ?_;rw[hcell];simp[hy,W.den]
end
theorem Lh{P}{w}{ρ:cd}{s}{a}{fn}{first jy}{dst}{ty}{pos}{after}{guard}{es}{v}
 (h:K4 s fn first jy=some (es,v)) (tm:Tm ρ s.t a):(execOp a.eval ⟨dst,.makeFunc fn first jy,ty,pos,after,guard⟩).run P w=.ok (.value (v.den ρ)) w:=by
 unfold K4 at h;split at h
 ·rename_i hf;split at h
  ·rename_i vs hv;simp only[Option.map_eq_some_iff]at h;obtain⟨u,hu,h⟩:=h;cases h;refine dD ?_;have e1:=AT hv;have e2:=AT hu
   have key:∀(l:List Operand) (vs:List V) (cs:List (BR×Nat)),l.map (ev s)=vs.map some->vs.map TL=cs.map some->l.map a.eval=cs.map (K0 ρ):=by
    intro l
    induction l with
    |nil=>intro vs cs h1 h2;cases vs with
     |nil=>cases cs with
      |nil=>rfl
      |cons _ _=>cases h2
     |cons _ _=>cases h1
    |cons x r ih=>intro vs cs h1 h2;cases vs with
     |nil=>cases h1
     |cons y q=>cases cs with
      |nil=>cases h2
      |cons c m=>
       simp only[List.map_cons,List.cons.injEq]at h1 h2⊢;refine⟨?_,ih q m h1.2 h2.2⟩;rw[jz tm h1.1];have:=h2.1;unfold TL at this;split at this
       ·cases this;rfl
       ·cases this
   have e3:=key jy.toList vs u e1 e2
   have hf':first= #[]:=by
    cases first;simp_all
   subst hf';simp only[Instr.makeFunc,Sem.run_pure,V.den,W.den,A.den];rw[<-e3];cases jy;simp
  ·cases h
 ·cases h
theorem Li{P}{w}{ρ:cd}{s}{a}{t}{x ix}{dst}{ty}{pos}{after}{guard}{es}{v}
 (h:K5 P s t x ix=some (es,v)) (tm:Tm ρ s.t a) (hn:∀e∈es,e.prop ρ):(execOp a.eval ⟨dst,.indexAddr t x ix,ty,pos,after,guard⟩).run P w=.ok (.value (v.den ρ)) w:=by
 unfold K5 at h;split at h
 ·rename_i el k len _ _ e hd hx hi;split at h
  ·rename_i hs;obtain⟨Um,Lj⟩:=Option.isSome_iff_exists.1 hs;cases h;have h0:=j4 hn;have h1:=h0.1;rw[pK]at h1;have h2:=h0.2 _ (List.mem_cons_self ..);have h3:=h0.2 _ (List.mem_cons_of_mem _ (List.mem_cons_self ..));have h3':∃b,(look ρ k).adr=some b:=Option.isSome_iff_exists.1 (D1 h3);obtain⟨b,hb⟩:=h3';refine dD ?_;rw[cz tm hx,cz tm hi];simp only[A.den,SA.den,hb,V.den,W.den,Option.map_some];rw[run_indexAt_slice hd Lj (show(0:Int)<=(e.den ρ).int from h1) (show(e.den ρ).int<(((len.den ρ).nat:Nat):Int)from h2)];simp[Addr.add]
  ·cases h
 ·rename_i el r off len _ _ e hd hx hi;split at h
  ·rename_i i n xD Un;split at h
   ·rename_i hs;obtain⟨Um,Lj⟩:=Option.isSome_iff_exists.1 hs.2;cases h;obtain rfl:=D2 xD;obtain rfl:=Y1 Un;refine dD ?_;rw[cz tm hx,cz tm hi];simp only[A.den,SA.den,E.den,pG,rH,V.den,W.den];rw[run_indexAt_slice hd Lj (by omega) (by omega)];simp[addr_add]
   ·cases h
  ·cases h
 ·rename_i n el r off _ e hd hx hi;split at h
  ·rename_i i xD;split at h
   ·rename_i hs;obtain⟨Um,Lj⟩:=Option.isSome_iff_exists.1 hs.2;cases h;obtain rfl:=D2 xD;refine dD ?_;rw[cz tm hx,cz tm hi];simp only[A.den,E.den,pG,V.den,W.den];rw[run_indexAt_array hd Lj (by omega) (by omega)];simp[addr_add]
   ·cases h
  ·cases h
 ·cases h
theorem Fx{P}{w}{ρ:cd}{s}{a}{c}{dst:Option Tmp}{ty:TypeId}{pos:String}{after:Array Edge}{guard:Option (Nat×Bool)}{es:List E}{v:V}
 (h:AE P s c=some (es,v)) (tm:Tm ρ s.t a):(execOp a.eval ⟨dst,.call c,ty,pos,after,guard⟩).run P w=.ok (.value (v.den ρ)) w:=by
 obtain⟨callee,args,argTypes⟩:=c;unfold AE at h;split at h
 ·rename_i x t h1 h2 h3;simp only at h1 h2 h3;subst h1;obtain rfl:args= #[x]:=by cases args;simp_all
  obtain rfl:argTypes= #[t]:=by cases argTypes;simp_all
  unfold N7 at h;split at h
  ·rename_i hd hx;cases h;simp only[execOp,resolve,Sem.run_bind,Sem.run_pure,Result.andThen_ok,invoke,builtin,List.map_toArray,List.map_cons,List.map_nil,cz tm hx,A.den];simp only[Builtin.len_,List.getElem?_toArray,List.getElem?_cons_zero,Sem.run_bind,run_underlying hd,Result.andThen_ok,Sem.run_pure,goInt,V.den,W.den,A.den];congr 3;split<;>simp_all [E.den,F1.app]
  ·rename_i hd hx;cases h;simp only[execOp,resolve,Sem.run_bind,Sem.run_pure,Result.andThen_ok,invoke,builtin,List.map_toArray,List.map_cons,List.map_nil,cz tm hx,A.den];simp only[Builtin.len_,List.getElem?_toArray,List.getElem?_cons_zero,Sem.run_bind,run_underlying hd,Result.andThen_ok,Sem.run_pure,goInt,V.den,W.den,A.den,ByteArray.size,List.size_toArray];congr 3;split<;>simp_all [E.den,F1.app]
  ·rename_i hd hx;cases h;simp only[execOp,resolve,Sem.run_bind,Sem.run_pure,Result.andThen_ok,invoke,builtin,List.map_toArray,List.map_cons,List.map_nil,cz tm hx,A.den];simp only[Builtin.len_,List.getElem?_toArray,List.getElem?_cons_zero,Sem.run_bind,run_underlying hd,Result.andThen_ok,Sem.run_pure,goInt,V.den,W.den,A.den,E.den,pG]
  ·cases h
 ·rename_i x t h1 h2 h3;simp only at h1 h2 h3;subst h1;obtain rfl:args= #[x]:=by cases args;simp_all
  obtain rfl:argTypes= #[t]:=by cases argTypes;simp_all
  unfold N8 at h;split at h
  ·rename_i hd hx;cases h;simp only[execOp,resolve,Sem.run_bind,Sem.run_pure,Result.andThen_ok,invoke,builtin,List.map_toArray,List.map_cons,List.map_nil,cz tm hx,A.den];simp[Builtin.cap_,Sem.run_bind,run_underlying hd,goInt,V.den,W.den,A.den,E.den,F1.app]
  ·cases h
 ·rename_i x y h1 h2;simp only at h1 h2;subst h1;obtain rfl:args= #[x,y]:=by cases args;simp_all
  unfold Fj at h;split at h
  ·rename_i k a _ k' b hx hy;split at h
   ·rename_i hk;subst hk;cases h;simp only[execOp,resolve,Sem.run_bind,Sem.run_pure,Result.andThen_ok,invoke,builtin,List.map_toArray,List.map_cons,List.map_nil,cz tm hx,cz tm hy,A.den];simp only[Builtin.max_,List.foldlM_cons,List.foldlM_nil,Builtin.max2,Sem.run_bind,Sem.run_pure,Result.andThen_ok,V.den,W.den,A.den,E.den,F2.app,pG];congr 3;split<;>omega
   ·cases h
  ·cases h
 ·rename_i x y h1 h2;simp only at h1 h2;subst h1;obtain rfl:args= #[x,y]:=by cases args;simp_all
  unfold Fj at h;split at h
  ·rename_i k a _ k' b hx hy;split at h
   ·rename_i hk;subst hk;cases h;simp only[execOp,resolve,Sem.run_bind,Sem.run_pure,Result.andThen_ok,invoke,builtin,List.map_toArray,List.map_cons,List.map_nil,cz tm hx,cz tm hy,A.den];simp only[Builtin.min_,List.foldlM_cons,List.foldlM_nil,Builtin.min2,Sem.run_bind,Sem.run_pure,Result.andThen_ok,V.den,W.den,A.den,E.den,F2.app,pG];congr 3;split<;>omega
   ·cases h
  ·cases h
 ·cases h
theorem AZ{P}{w}{ρ:cd}{s}{a:Act}{o:Oper}{es:List E}{v:V}(h:xI P s o.op=some (es,v))(tm:Tm ρ s.t a)(kn:∀x∈s.kn,(x.1.den ρ).bool=x.2)
 (hs:∃R h F,Sat w R h F/\(cT ρ s.h).p R h) (hn:∀e∈es,e.prop ρ):(execOp a.eval o).run P w=.ok (.value (v.den ρ)) w:=by
 obtain⟨R,H,F,rO,hp⟩:=hs;obtain⟨dst,op,ty,pos,after,guard⟩:=o;simp only at h;unfold xI at h;split at h
 · -- move
   simp only[Option.map_eq_some_iff]at h;obtain⟨u,hu,h⟩:=h;cases h;simp only[execOp,jz tm hu,Sem.run_pure]
 ·simp only[Option.map_eq_some_iff]at h;obtain⟨u,hu,h⟩:=h;cases h;simp only[execOp,jz tm hu,Sem.run_pure]
 · -- pick
   split at h
   ·rename_i c x y e hc;have hcd:=cz tm hc;split at h
    ·rename_i hk;have:=ng kn hk;simp only[Option.map_eq_some_iff]at h;obtain⟨u,hu,h⟩:=h;cases h;simp only[execOp,hcd,A.den,asBool,Sem.run_bind,Sem.run_pure,Result.andThen_ok,this,if_true,jz tm hu]
    ·rename_i hk;have:=ng kn hk;simp only[Option.map_eq_some_iff]at h;obtain⟨u,hu,h⟩:=h;cases h;simp only[execOp,hcd,A.den,asBool,Sem.run_bind,Sem.run_pure,Result.andThen_ok,this,Bool.false_eq_true,if_false,jz tm hu]
    ·split at h
     ·rename_i p q hx hy;cases h;simp only[execOp,hcd,A.den,asBool,Sem.run_bind,Sem.run_pure,Result.andThen_ok,cz tm hx,cz tm hy,V.den,W.den];congr 2
      have hpe:((TM e p q).den ρ).bool=if(e.den ρ).bool then(p.den ρ).bool else(q.den ρ).bool:=by
       unfold TM;split<;>simp only[E.den,F2.app,lE,ox]<;>cases(e.den ρ).bool<;>simp
      rw[hpe];split<;>rfl
     ·cases h
   ·cases h
 · -- nilCheck
   split at h
   ·rename_i hx;cases h;simp only[execOp,jz tm hx,V.den,W.den,A.den,Sem.run_pure]
   ·rename_i hx;cases h;simp only[execOp,jz tm hx,V.den,W.den,A.den,Sem.run_pure]
   ·rename_i hx;split at h
    ·rename_i hk;cases h;obtain⟨b,hb⟩:=vF kn hk;simp only[execOp,jz tm hx,V.den,W.den,A.den,hb,Option.map_some,Sem.run_pure]
    ·cases h
   ·cases h
 · -- fieldAddr
   split at h
   ·rename_i hd;split at h
    ·rename_i fd hf;split at h
     ·cases h
     ·rename_i hz;split at h
      ·rename_i hx;cases h;refine dD ?_;rw[cz tm hx];simp only[A.den,yS hd hf hz,addr_add,V.den,W.den]
      ·rename_i hx;split at h
       ·rename_i hk;cases h;obtain⟨b,hb⟩:=vF kn hk;refine dD ?_;rw[cz tm hx];simp only[A.den,hb,Option.map_some,yS hd hf hz,V.den,W.den];congr 3;unfold Addr.add
        repeat' split
        all_goals simp_all<;>omega
       ·cases h
      ·cases h
    ·cases h
   ·cases h
 · -- field
   split at h
   ·rename_i hd;split at h
    ·rename_i fd hf;split at h
     ·rename_i hx;simp only[Option.map_eq_some_iff]at h;obtain⟨u,hu,h⟩:=h;cases h;refine dD ?_;rw[vE tm hx];simp only[Instr.field,Sem.run_bind,run_underlying hd,Result.andThen_ok,hf,W.den,asAgg,Sem.run_pure,Ui hu,V.den]
     ·cases h
    ·cases h
   ·cases h
 · -- extract
   split at h
   ·rename_i hx;simp only[Option.map_eq_some_iff]at h;obtain⟨u,hu,h⟩:=h;cases h;refine dD ?_;rw[jz tm hx];simp only[V.den,Instr.extract,List.getElem?_toArray,List.getElem?_map,hu,Option.map_some,Sem.run_pure]
   ·rename_i hx;split at h
    ·rename_i hi0;cases h;subst hi0;refine dD ?_;rw[jz tm hx];simp only[V.den,W.den,A.den,E.den];cases(look ρ _).bool<;>simp[Instr.extract]
    ·cases h
   ·cases h
 · -- load
   split at h
   ·rename_i hx;split at h
    ·rename_i hf;simp only[Option.map_eq_some_iff]at h;obtain⟨u,hu,h⟩:=h;cases h;refine dD ?_;rw[cz tm hx];simp only[A.den,V.den];exact AY rO (AU (AR (DZ hf) hp)) hu
    ·cases h
   ·cases h
 · -- binOp
   split at h
   ·rename_i hx hy;simp only[Option.map_eq_some_iff]at h;obtain⟨u,hu,h⟩:=h;cases h;refine dD ?_;rw[cz tm hx,cz tm hy];exact Ul hu hn _ _
   ·cases h
 · -- not
   split at h
   ·rename_i hx;cases h;refine dD ?_;rw[cz tm hx];simp only[A.den,Op.unary,Sem.run_pure,V.den,W.den,ox]
   ·cases h
 · -- neg
   split at h
   ·rename_i hx;simp only[Option.map_eq_some_iff]at h;obtain⟨u,hu,h⟩:=h;cases h;refine dD ?_;rw[cz tm hx];have:=AX (P:=P) (w:=w) (t:=0) hu hn;simp only[binOp,E.den,pG]at this;simpa only[A.den,Op.unary,V.den,W.den,ne_eq,not_true_eq_false,if_false]using this
   ·cases h
 · -- convert
   split at h
   ·rename_i hs hd hx;split at h
    ·split at h
     ·cases h;refine dD ?_;rw[cz tm hx];have:=AV (j4 hn).1;simp[convert,Sem.run_bind,run_underlying hs,run_underlying hd,A.den,Conv.intToInt,eZ this,V.den,W.den]
     ·cases h;refine dD ?_;rw[cz tm hx];simp[convert,Sem.run_bind,run_underlying hs,run_underlying hd,A.den,Conv.intToInt,V.den,W.den,E.den,F1.app]
    ·cases h
   ·rename_i hs hd hx;cases h;refine dD ?_;rw[cz tm hx];simp[convert,Sem.run_bind,run_underlying hs,run_underlying hd,A.den,V.den,W.den]
   ·cases h
 ·exact Lh h tm
 ·exact Li h tm hn
 ·exact Fx h tm
 ·cases h
end RX
section
theorem PH.own.lt{h:PH}{w}(o:h.own w){k}{x}(e:h k=some x):k<w.heap.size:=by
 have:=o k x e;rcases Nat.lt_or_ge k w.heap.size with g|g
 ·exact g
 ·rw[Array.getElem?_eq_none g]at this;cases this
theorem PH.own.free{h:PH}{w}(o:h.own w):h w.heap.size=Option.none:=by
 cases e:h w.heap.size with
 |none=>rfl
 |some x=>exact absurd (o.lt e) (Nat.lt_irrefl _)
theorem PH.own.alloc{h:PH}{w}(o:h.own w) x:h.own (w.alloc x):=λk y e=>by
 have:=o.lt e;show(w.heap.push x)[k]? =some y;rw[Array.getElem?_push,aq (by omega)];exact o k y e
theorem Sat.alloc{w}{R h F}(s:Sat w R h F) x:Sat (w.alloc x) R ((PH.one w.heap.size x).un h) F/\(PH.one w.heap.size x).dj h:=by
 have dn:∀g:PH,g.own w->(PH.one w.heap.size x).dj g:=λg o k=>by
  by_cases e:k=w.heap.size
  ·subst e;exact .inr o.free
  ·exact .inl (aq e)
 refine⟨⟨(PH.ol (dn R s.oR) s.uz.symm).symm,s.He,PH.ol (dn F s.oF) s.xG,s.oR.alloc x,λk y e=>?_,s.oF.alloc x,s.gl⟩,dn h s.oh⟩;rcases PH.oe e with e|e
 ·obtain⟨rfl,rfl⟩:=PH.pF e;show(w.heap.push _)[w.heap.size]? =_;rw[Array.getElem?_push,aB rfl]
 ·exact s.oh.alloc x k y e
theorem Same.alloc w x:Same w (w.alloc x):=⟨rfl,rfl,rfl,by rw[World.size_alloc];omega⟩
theorem Sat.bU{w w'}{R h F}(s:Sat w R h F){b}{x y}(hb:h b=some x)(hw:∀k,k≠b->w'.heap[k]? =w.heap[k]?)(hy:w'.heap[b]? =some y):Sat w' R (λk=>if k=b then some y else h k) F:=by
 have hR:R b=none:=(s.uz b).resolve_right (by rw[hb];simp);have hF:F b=none:=(s.xG b).resolve_left (by rw[hb];simp);refine⟨λk=>?_,s.He,λk=>?_,λk o e=>?_,λk o e=>?_,λk o e=>?_,s.gl⟩
 ·by_cases e:k=b
  ·subst e;exact .inl hR
  ·simp only[e,if_false];exact s.uz k
 ·by_cases e:k=b
  ·subst e;exact .inr hF
  ·simp only[e,if_false];exact s.xG k
 ·rw[hw k (λe'=>by subst e';rw[hR]at e;cases e)];exact s.oR k o e
 ·by_cases e':k=b
  ·subst e';simp only[if_true]at e;rw[hy];exact e
  ·simp only[e',if_false]at e;rw[hw k e'];exact s.oh k o e
 ·rw[hw k (λe'=>by subst e';rw[hF]at e;cases e)];exact s.oF k o e
theorem Sat.drew{w}{R h F}(s:Sat w R h F) n:Sat {w with drawn:=n} R h F:=⟨s.uz,s.He,s.xG,s.oR,s.oh,s.oF,s.gl⟩
theorem Same.drew w n:Same w {w with drawn:=n}:=⟨rfl,rfl,rfl,Nat.le_refl _⟩
namespace RX
structure Ctx where
 P:Program
 post:Value->HP
 w0:World
 F:PH
 ρ:cd
 R:PH
 L:List (cd->Prop)
def Nx(c:Ctx)(K:S->T)(a:Act)(w:World):Prop:=
 ∃ρ s R h L,c.ρ<+:ρ/\c.R.le R/\c.L<:+L/\L.length=s.dp/\Ok ρ s a c.w0 w R h c.F/\(K s).den c.P c.post L ρ
theorem Nx.mk{P}{post}{w0 w}{F R h}{ρ:cd}{L}{K}{s}{a}(ok:Ok ρ s a w0 w R h F)(hl:L.length=s.dp)(hd:(K s).den P post L ρ):
 Nx ⟨P,post,w0,F,ρ,R,L⟩ K a w:=⟨ρ,s,R,h,L,List.prefix_refl _,PH.le.refl _,List.suffix_refl _,hl,ok,hd⟩
theorem Nx.mono{c c'}{K K'}{a}{w}(n:Nx c' K' a w)(hP:c'.P=c.P)(hp:c'.post=c.post)(hw:c'.w0=c.w0)(hF:c'.F=c.F)(hρ:c.ρ<+:c'.ρ)(hR:c.R.le c'.R)(hL:c.L<:+c'.L)
 (hK:∀s,K' s=K s):Nx c K a w:=by
 obtain⟨ρ,s,R,h,L,p1,p2,p3,p4,p5,p6⟩:=n;rw[hK,hP,hp]at p6;rw[hw,hF]at p5;exact⟨ρ,s,R,h,L,hρ.trans p1,hR.trans p2,hL.trans p3,p4,p5,p6⟩
section
variable {P:Program}{post:Value->HP}{w0 w:World}{F R h:PH}{ρ:cd}{L:List (cd->Prop)}{s:S}{a:Act}
theorem Ok.Ll(ok:Ok ρ s a w0 w R h F){e}{b}(hb:(e.den ρ).bool=b):Ok ρ {s with kn:=(e,b)::s.kn} a w0 w R h F:=
 ⟨ok.rI,ok.tm,ok.len,λx hx=>by cases hx with
   |head=>exact hb
   |tail _ hx=>exact ok.kn x hx,ok.hp,ok.rO,ok.same⟩
theorem Hy{es}{K}(ok:Ok ρ s a w0 w R h F)(hd:(DQ es K s).den P post L ρ):
 ∃kn,Ok ρ {s with kn:=kn} a w0 w R h F/\(∀e∈es,e.prop ρ)/\(K {s with kn:=kn}).den P post L ρ:=by
 induction es generalizing s with
 |nil=>exact⟨s.kn,ok,(λe he=>by cases he),hd⟩
 |cons e r ih=>
  simp only[DQ]at hd;split at hd
  ·rename_i hk;obtain⟨kn,h1,h2,h3⟩:=ih ok hd
   exact⟨kn,h1,λx hx=>by cases hx with
    |head=>exact(l9 ρ e).2 (ng ok.kn hk)
    |tail _ hx=>exact h2 x hx,h3⟩
  ·split at hd
   ·obtain⟨he,hd⟩:=hd;have hd:=hd he;obtain⟨kn,h1,h2,h3⟩:=ih (ok.Ll (D1 he)) hd
    exact⟨kn,h1,λx hx=>by cases hx with
     |head=>exact he
     |tail _ hx=>exact h2 x hx,h3⟩
   ·exact hd.elim
theorem Fy{e}{kt kf}(ok:Ok ρ s a w0 w R h F)(hd:(brE s e kt kf).den P post L ρ):
 ∃kn,Ok ρ {s with kn:=kn} a w0 w R h F/\(((e.den ρ).bool=true/\(kt {s with kn:=kn}).den P post L ρ)\/((e.den ρ).bool=false/\(kf {s with kn:=kn}).den P post L ρ)):=by
 unfold brE at hd;split at hd
 ·rename_i hk;exact⟨s.kn,ok,.inl ⟨ng ok.kn hk,hd⟩⟩
 ·rename_i hk;exact⟨s.kn,ok,.inr ⟨ng ok.kn hk,hd⟩⟩
 ·split at hd
  ·obtain⟨h1,h2⟩:=hd;cases hb:(e.den ρ).bool with
   |true=>exact⟨_,ok.Ll hb,.inl ⟨rfl,h1 ((l9 ρ e).2 hb)⟩⟩
   |false=>exact⟨_,ok.Ll hb,.inr ⟨rfl,h2 (λhp=>by rw[(l9 ρ e).1 hp]at hb;cases hb)⟩⟩
  ·exact hd.elim
theorem pM:∀ {ss:List So} {ρ:cd} {f:cd->HP} {R h:PH},(KR ss ρ f).p R h->∃xs:cd,xs.length=ss.length/\(f (ρ++xs)).p R h
 |[],ρ,f,R,h,H=>⟨[],rfl,by rw[List.append_nil];exact H⟩
 | .n::r,ρ,f,R,h,⟨x,H⟩| .i::r,ρ,f,R,h,⟨x,H⟩| .c::r,ρ,f,R,h,⟨x,H⟩| .s::r,ρ,f,R,h,⟨x,H⟩| .a::r,ρ,f,R,h,⟨x,H⟩| .v::r,ρ,f,R,h,⟨x,H⟩| .p::r,ρ,f,R,h,⟨x,H⟩=>by
   obtain⟨xs,hl,hx⟩:=pM H;exact⟨_::xs,by simp[hl],by simpa using hx⟩
theorem vG:∀ {ss:List So} {ρ:cd} {f:cd->Prop},N3 ss ρ f->∃xs:cd,xs.length=ss.length/\f (ρ++xs)
 |[],ρ,f,H=>⟨[],rfl,by rw[List.append_nil];exact H⟩
 | .n::r,ρ,f,⟨x,H⟩| .i::r,ρ,f,⟨x,H⟩| .c::r,ρ,f,⟨x,H⟩| .s::r,ρ,f,⟨x,H⟩| .a::r,ρ,f,⟨x,H⟩| .v::r,ρ,f,⟨x,H⟩| .p::r,ρ,f,⟨x,H⟩=>by
   obtain⟨xs,hl,hx⟩:=vG H;exact⟨_::xs,by simp[hl],by simpa using hx⟩
theorem Uo v:(eD v).oneCell'=true:=by cases v<;>rfl
theorem A.one(ρ:cd)(x:A):(x.den ρ).oneCell'=true:=by
 cases x<;>first|rfl|exact Uo _
theorem Qz{v:Value}(h:v.oneCell'=true):v.cells= #[v]:=by cases v<;>first|rfl|cases h
theorem A.cells(ρ:cd)(x:A):(x.den ρ).cells= #[x.den ρ]:=Qz (A.one ρ x)
theorem W.cells(ρ:cd)(x:W):(x.den ρ).cells=(x.list.map (A.den ρ)).toArray:=by
 cases x with
 |a x=>simp[W.den,W.list,A.cells]
 |agg l=>simp[W.den,W.list,Value.cells]
theorem Om{d}{c}{v}{K}(ok:Ok ρ s a w0 w R h F)(hl:L.length=s.dp)(hd:(Hl s d c v K).den P post L ρ) o
 (hc:∀x:Nat,jH (ρ++[.n x]) (.b (.v s.n),c)=HP.one x o) (vv:Nat->Value) (hv:∀x:Nat,(v (.v s.n)).den (ρ++[.n x])=vv x):
 Nx ⟨P,post,w0,F,ρ,R,L⟩ K (a.put d (vv w.heap.size)) (w.alloc o):=by
 unfold Hl at hd;split at hd
 ·rename_i hb;simp only[Bool.and_eq_true]at hb;have hd:=hd w.heap.size;obtain⟨s1,d1⟩:=ok.rO.alloc o;have k1:=ok.app hb.1 [.n w.heap.size] (s.n+1) rfl;refine⟨ρ++[.n w.heap.size],_,R,(PH.one w.heap.size o).un h,L,List.prefix_append _ _,PH.le.refl _,List.suffix_refl _,?_,?_,hd⟩
  ·cases d<;>exact hl
  ·have k2:Ok (ρ++[.n w.heap.size]) {s with n:=s.n+1,h:=(.b (.v s.n),c)::s.h} a w0 (w.alloc o) R ((PH.one w.heap.size o).un h) F:=
    ⟨k1.rI,k1.tm,k1.len,k1.kn,(co _ _ _ _ _).2 ⟨_,_,d1,PH.dC _ _,PH.cP d1,by rw[hc];exact PH.cX _ _,k1.hp⟩,s1,ok.same.trans (Same.alloc w o)⟩
   have:=k2.put d (.w (.a (v (.v s.n))));rw[show(V.w (.a (v (.v s.n)))).den (ρ++[.n w.heap.size])=vv w.heap.size from hv _]at this;exact this
 ·exact hd.elim
end
end RX
end
namespace RX
section
variable {P:Program}{post:Value->HP}{w0 w:World}{F R h:PH}{ρ:cd}{L:List (cd->Prop)}{s:S}{a:Act}
theorem Hz f d op ty p af g:
 execOp f ⟨d,op,ty,p,af,g⟩=execOp f ⟨none,op,ty, "",#[],none⟩:=by cases op<;>rfl
theorem HA(tm:Tm ρ s.t a):∀ {ts:List Tmp} {ar:List (Nat×V)},Qq s ts=some ar->∀t∈ts,ib ρ ar (.tmp t)=a.eval (.tmp t)
 |[],_,_,t,ht=>by cases ht
 |x::r,ar,e,t,ht=>by
  simp only[Qq]at e;split at e
  ·rename_i v hv;simp only[Option.map_eq_some_iff]at e;obtain⟨l,hl,rfl⟩:=e;have hx:=jz tm hv
   by_cases hxt:x=t
   ·subst hxt;rw[hx];simp[ib]
   ·have ht':t∈r:=by
     cases ht with
     |head=>exact absurd rfl hxt
     |tail _ h=>exact h
    rw[<-HA tm hl t ht'];have:(x==t)=false:=by simpa using hxt
    simp[ib,this]
  ·cases e
theorem HE{o}{ar}(tm:Tm ρ s.t a)(hs:Oc o.op=false)(e:Qq s (qx o.op)=some ar):execOp a.eval o=fp ρ o.op o.type ar:=by
 obtain⟨d,op,ty,p,af,g⟩:=o;unfold fp;rw[Hz a.eval d op ty p af g];refine execOp_congr _ (λcs b hh=>?_) λx hx=>?_
 ·simp only at hh hs;subst hh;cases hs
 ·cases x with
  |tmp t=>
   refine(HA tm e t ?_).symm;unfold qx;exact List.mem_filterMap.2 ⟨.tmp t,by rw[<-Oa];simpa using hx,rfl⟩
  |_=>rfl
theorem Ok.hand(ok:Ok ρ s a w0 w R h F) q:∃h1 h2,Sat w R h1 (h2.un F)/\h2.dj F/\(cT ρ (s.h.filter q)).p R h1/\(cT ρ (s.h.filter λx=> !q x)).p R h2:=by
 obtain⟨h1,h2,d,l1,l2,a1,a2⟩:=mf q ok.hp;exact⟨h1,h2,ok.rO.cut d l1 l2,ok.rO.xG.le l2 (PH.le.refl _),a1,a2⟩
theorem Ok.back(ok:Ok ρ s a w0 w R h F)(hb:s.fm=true){w'}{R' h1 h2}(sm:Same w w')(s1:Sat w' R' h1 (h2.un F))(d:h2.dj F)(lR:R.le R'){xs}{n}(hn:n=s.n+xs.length){nb rest}{lk}
 (hr:∀x∈rest,x∈s.h) (p2:(cT ρ rest).p R h2) (p1:(cT (ρ++xs) nb).p R' h1)  dst  v:
 Ok (ρ++xs) ({s with n:=n,h:=nb++rest,lk:=lk}.put dst v) (a.put dst (v.den (ρ++xs))) w0 w' R' (h1.un h2) F:=by
 have YB:=hb;simp only[S.fm,Bool.and_eq_true]at hb
 have iY:AA ρ.length rest=true:=List.all_eq_true.2 λx hx=>by
  have:=List.all_eq_true.1 hb.1.1.2 x (hr x hx);rw[ok.len];exact this
 obtain⟨s2,d12⟩:=s1.join d;have k1:=ok.app YB xs n hn
 have k2:Ok (ρ++xs) {s with n:=n,h:=nb++rest,lk:=lk} a w0 w' R' (h1.un h2) F:=
  ⟨k1.rI,k1.tm,k1.len,k1.kn,pI.2 ⟨h1,h2,d12,PH.dC _ _,PH.cP d12,p1,by rw[rL iY];exact(cT ρ rest).mono lR (PH.le.refl _) p2⟩,s2,ok.same.trans sm⟩
 exact k2.put dst v
theorem nv{m l}(c:K6 m l=true){R h}(H:(cT ρ l).p R h):(cT ρ m).p R h:=by
 simp only[K6,Bool.and_eq_true]at c;exact pJ c.1 (λx hx=>by simpa using List.all_eq_true.1 c.2 x hx) H
theorem rQ{bt}{o}{K}{Q}(ok:Ok ρ s a w0 w R h F)(hl:L.length=s.dp)(hd:(AH P bt s o K).den P post L ρ):
 o.wp P a w (Nx ⟨P,post,w0,F,ρ,R,L⟩ K) Q:=by
 unfold AH at hd;split at hd
 ·exact hd.elim
 rename_i QA;have ag5:Oc o.op=false:=by simpa using QA
 split at hd
 ·exact hd.elim
 rename_i ar har;have adH:=HE ok.tm ag5 har;unfold Oper.wp;rw[adH];simp only at hd;split at hd
 ·exact hd.elim
 rename_i rR;simp only[Bool.not_eq_true',Bool.not_eq_false]at rR;split at hd
 ·split at hd
  ·rename_i hb;simp only[Bool.and_eq_true,decide_eq_true_eq,Nat.blt_eq]at hb;obtain⟨xs,lj,hr,hk⟩:=vG hd;obtain⟨h1,h2,s1,d1,p1,p2⟩:=ok.hand (λx=>(jv s.h s.lk 60 (ar.flatMap λx=>rK x.2) []).contains x.1);rw[hr w R h1 _ s1 (nv rR p1)];have k1:=ok.app hb.1 xs _ (hb.2.trans (by rw[lj]));have k2:Ok (ρ++xs) {s with n:=(DR P bt s o).n,lk:=vD o.op s s.n (DR P bt s o).v++s.lk} a w0 w R h F:=⟨k1.rI,k1.tm,k1.len,k1.kn,k1.hp,k1.rO,k1.same⟩;refine⟨ρ++xs,_,R,h,L,List.prefix_append ρ xs,PH.le.refl _,List.suffix_refl _,?_,k2.put _ _,hk⟩;cases o.dst<;>exact hl
  ·exact hd.elim
 ·split at hd
  ·rename_i hb;simp only[Bool.and_eq_true,decide_eq_true_eq,Nat.blt_eq]at hb;obtain⟨hb,hn⟩:=hb;obtain⟨h1,h2,s1,d1,p1,p2⟩:=ok.hand (λx=>(jv s.h s.lk 60 (ar.flatMap λx=>rK x.2) []).contains x.1);obtain⟨nx,v,w',fg,hout,sm,R',mK,lR,s2,hB⟩:=hd w R h1 _ s1 (nv rR p1);obtain⟨xs,lj,hv,hk,hnb⟩:=pM hB;rw[fg]
   have key:Nx ⟨P,post,w0,F,ρ,R,L⟩ K (a.put o.dst v) w':=by
    rw[hv];refine⟨_,_,R',mK.un h2,L,List.prefix_append ρ xs,lR,List.suffix_refl _,?_,ok.back hb sm s2 d1 lR ?_ (λx hx=>(List.mem_filter.1 hx).1) p2 hnb _ _,hk⟩
    ·cases o.dst<;>exact hl
    ·rw[lj];exact hn
   cases nx<;>simp only[abJ]at hout<;>first|(cases hout;done)|skip
   ·cases hout;exact key
   ·cases hout;exact key
  ·exact hd.elim
theorem vH(tm:Tm ρ s.t a):∀ {l:List Operand} {ws:List W},mapM' (N4 s) l=some ws->l.map a.eval=ws.map (W.den ρ)
 |[],ws,e=>by cases e;rfl
 |x::r,ws,e=>by
  simp only[mapM']at e;split at e
  ·rename_i y hy;split at e
   ·rename_i q hq;cases e;simp[vE tm hy,vH tm hq]
   ·cases e
  ·cases e
def NG(P:Program):Prop:=∀(f:FuncId) (fn:Func),P.funcs[f]? =some fn->(fn.name== "runtime.NumGoroutine")=false
theorem HF(hg:NG P){bt}{o}{K}{Q}{f}{args}(ok:Ok ρ s a w0 w R h F)(hl:L.length=s.dp)(hd:(Oe P bt s o f args K).den P post L ρ)
 (hx:(execOp a.eval o).run P w=(callFunc f (args.map (W.den ρ)).toArray).run P w):o.wp P a w (Nx ⟨P,post,w0,F,ρ,R,L⟩ K) Q:=by
 unfold Oe at hd;split at hd
 ·exact hd.elim
 rename_i fn hfn;split at hd
 ·exact hd.elim
 simp only at hd;split at hd
 ·exact hd.elim
 rename_i rR;simp only[Bool.not_eq_true',Bool.not_eq_false]at rR;split at hd
 ·rename_i hb;simp only[Bool.and_eq_true,decide_eq_true_eq,Nat.blt_eq]at hb;obtain⟨⟨⟨hb,On⟩,xD⟩,Un⟩:=hb
  have fg:(callFunc f (args.map (W.den ρ)).toArray).run P w=.ok (.enter f (args.map (W.den ρ)).toArray) w:=by
   have hnb:fn.body.isNone=false:=by cases hq:fn.body<;>simp_all
   have hnn:=hg f fn hfn;simp only[callFunc,program,Sem.run_bind,Sem.run,Result.andThen_ok,hfn,hnn,hnb,Bool.false_eq_true,if_false];rfl
  unfold Oper.wp;rw[hx,fg,Oper.upon_enter];obtain⟨h1,h2,s1,d1,p1,p2⟩:=ok.hand (λx=>(jv s.h s.lk 60 (args.flatMap λx=>x.list.flatMap fR) []).contains x.1);split at hd
  ·refine(hd w R h1 _ s1 (nv rR p1)).mono λe w' ⟨v,he,sm,R',mK,lR,s2,hB⟩=>?_;obtain⟨xs,lj,hv,hk,hnb⟩:=pM hB;subst he;simp only;rw[hv];refine⟨_,_,R',mK.un h2,L,List.prefix_append ρ xs,lR,List.suffix_refl _,?_,ok.back (lk:=s9 bt f args (shR P bt true s.n fn.resultTypes.toList).v++s.lk) hb sm s2 d1 lR (xD.trans (by rw[lj])) (λx hx=>(List.mem_filter.1 hx).1) p2 hnb o.dst _,hk⟩;cases o.dst<;>exact hl
  ·refine(hd w R h1 _ s1 (nv rR p1)).mono λe w' ⟨v,he,sm,R',mK,lR,s2,hB⟩=>?_;obtain⟨xs,lj,hv,hk,hnb⟩:=pM hB;subst he;simp only;rw[hv];refine⟨_,_,R',mK.un h2,L,List.prefix_append ρ xs,lR,List.suffix_refl _,?_,ok.back (lk:=s9 bt f args (shR P bt true s.n fn.resultTypes.toList).v++s.lk) hb sm s2 d1 lR (Un.trans (by rw[lj])) (λx hx=>(List.mem_filter.1 hx).1) p2 hnb o.dst _,hk⟩;cases o.dst<;>exact hl
 ·exact hd.elim
end
theorem yT{v}{x}(h:Hh v=some x)(ρ:cd):v.cells=(x.list.map (A.den ρ)).toArray:=by
 rw[<-D0 h ρ,W.cells]
theorem HH{P}{w}{t}{l}(h:yR P t=some l)(ρ:cd):∃v,(zeroValue t).run P w=.ok v w/\v.cells=(l.map (A.den ρ)).toArray:=by
 unfold yR at h;split at h
 ·rename_i i hi;split at h
  ·rename_i v hv;simp only[Option.map_eq_some_iff]at h;obtain⟨x,hx,rfl⟩:=h;exact⟨v,by simp only[zeroValue,Sem.run_bind,run_typeInfo hi,Result.andThen_ok,hv,Sem.run_pure],yT hx ρ⟩
  ·cases h
 ·cases h
theorem A0{P}{w} t v:(newVar t v).run P w=.ok ⟨w.heap.size,0,none⟩ (w.alloc (.cells v.cells t)):=by
 simp only[newVar,newRow,newObj,Sem.run_bind,Sem.run,Result.andThen_ok,Sem.run_pure];rfl
theorem adJ{ρ:cd}{l:List A}{n}(hn:ρ.length=n)(h:l.all (A.fm n)=true) x:(l.map (A.den (ρ++x))).toArray=(l.map (A.den ρ)).toArray:=by
 subst hn;rw[As.app h]
theorem Up vs:∀(k off:Nat) (cs:dI),off+k+vs.length<=cs.size->
 ((vs.zipIdx k).foldl (λcs (x:Value×Nat)=>cs.setIfInBounds (off+x.2) x.1) cs).toList=cs.toList.take (off+k)++vs++cs.toList.drop (off+k+vs.length):=by
 induction vs with
 |nil=>intro k off cs _;simp
 |cons v r ih=>
  intro k off cs h;simp only[List.length_cons]at h;rw[List.zipIdx_cons,List.foldl_cons,ih (k+1) off _ (by simp;omega)];apply List.ext_getElem?;intro i;simp only[Array.toList_setIfInBounds,List.getElem?_append,List.length_append,List.length_take,List.length_set,Array.length_toList,List.getElem?_take,List.getElem?_drop,List.length_cons,List.getElem?_set];have e1:min (off+(k+1)) cs.size=off+k+1:=by omega
  have e2:min (off+k) cs.size=off+k:=by omega
  rw[e1,e2]
  by_cases c1:i<off+k
  ·simp only[show i<off+k+1 from by omega,show i<off+k+1+r.length from by omega,show i<off+k+(r.length+1)from by omega,show i<off+(k+1)from by omega,c1,if_true,show ¬off+k=i from by omega,if_false]
  ·by_cases c2:i=off+k
   ·subst c2;simp[show off+k<cs.size from by omega];omega
   ·by_cases c3:i<off+k+1+r.length
    ·simp only[show ¬i<off+k+1 from by omega,c3,show i<off+k+(r.length+1)from by omega,c1,if_true,if_false];rw[show i - (off+k)=(i - (off+k+1))+1 from by omega,List.getElem?_cons_succ]
    ·simp only[c3,show ¬i<off+k+(r.length+1)from by omega,if_false];rw[aq (by omega)];congr 1;omega
theorem vI{ρ:cd}{place}:∀ {ps:List (Nat×W)} {cells l:List A},DS place cells ps=some l->
 Instr.fill place (cells.map (A.den ρ)).toArray (ps.map λx=>(x.1,x.2.den ρ))=some (l.map (A.den ρ)).toArray
 |[],cells,l,h=>by cases h;rfl
 |(i,x)::r,cells,l,h=>by
  simp only[DS]at h;simp only[List.map_cons,Instr.fill];split at h
  ·cases h
  ·rename_i off size hp;rw[hp];simp only;split at h
   ·cases h
   ·rename_i hc;simp only[ne_eq,Bool.or_eq_true,decide_eq_true_eq,not_or,Decidable.not_not,Nat.not_lt]at hc;have hs:(x.den ρ).cells.size=size:=by rw[W.cells];simp[hc.1]
    rw[aq (by rw[hs];simp only[ne_eq,not_true_eq_false,decide_false,Bool.false_or,decide_eq_true_eq,List.size_toArray,List.length_map,Nat.not_lt];rw[hc.1]at hc;exact hc.2)];rw[<-vI h];congr 1;rw[W.cells];apply Array.toList_inj.1;have hz:((x.list.map (A.den ρ)).toArray.zipIdx).toList=(x.list.map (A.den ρ)).zipIdx:=by simp
    rw[<-Array.foldl_toList,hz];rw[Up _ 0 off _ (by simp;exact hc.2)];simp[List.map_take,List.map_drop]
theorem rS{ρ:cd}{s}{a}(tm:Tm ρ s.t a):∀ {l:List (Nat×Operand)} {ps:List (Nat×W)},partsOf s l=some ps->l.map (λx=>(x.1,a.eval x.2))=ps.map λx=>(x.1,x.2.den ρ)
 |[],ps,h=>by cases h;rfl
 |(i,x)::r,ps,h=>by
  unfold partsOf at h;simp only[mapM']at h;split at h
  ·rename_i y hy;split at h
   ·rename_i q hq;cases h;simp only[Option.map_eq_some_iff]at hy;obtain⟨u,hu,rfl⟩:=hy;simp only[List.map_cons,vE tm hu];rw[rS tm (show partsOf s r=some q from hq)]
   ·cases h
  ·cases h
section
variable {P:Program}{post:Value->HP}{w0 w:World}{F R h:PH}{ρ:cd}{L:List (cd->Prop)}{s:S}{a:Act}{bt:jo}{o:Oper}{K:S->T}{Q:Exit->Act->World->Prop}
theorem mh{v}{w'}{nx}(hr:(execOp a.eval o).run P w=.ok (.value v) w')(h:nx (a.put o.dst v) w'):o.wp P a w nx Q:=by
 unfold Oper.wp;rw[hr];exact h
theorem Uq{w'}{nx}(hr:(execOp a.eval o).run P w=.ok .skip w')(h:nx (a.put o.dst undef) w'):o.wp P a w nx Q:=by
 unfold Oper.wp;rw[hr];exact h
theorem oZ(s:S) d v:(s.put d v).dp=s.dp:=by cases d<;>rfl
theorem uB{d}{l}{ty}{v}(ok:Ok ρ s a w0 w R h F)(hl:L.length=s.dp)(hd:(Hl s d (.cells l ty) v K).den P post L ρ)
 (vv:Nat->Value) (hv:∀x:Nat,(v (.v s.n)).den (ρ++[.n x])=vv x):
 Nx ⟨P,post,w0,F,ρ,R,L⟩ K (a.put d (vv w.heap.size)) (w.alloc (.cells (l.map (A.den ρ)).toArray ty)):=by
 have rE:=hd;unfold Hl at rE;split at rE
 ·rename_i hb;simp only[Bool.and_eq_true]at hb;refine Om ok hl hd _ (λx=>?_) vv hv;simp only[jH,BR.den];rw[<-ok.len,ou,adJ ok.len hb.2];rfl
 ·exact rE.elim
theorem Ur{r}{l}{ty}{off}{t}{x:W}(ok:Ok ρ s a w0 w R h F)(hw:x.list.length=iA P t)(hi:(P.info? t).isSome=true)(ho:off+x.list.length<=l.length)
 (hu:(s.h.filter λx=>decide (x.1=.b r))=[(.b r,.cells l ty)]):
 ∃w' h',(Instr.storeAt t (.pointer (some ⟨r.den ρ,off,none⟩)) (x.den ρ)).run P w=.ok () w'/\
  Ok ρ {s with h:=(.b r,.cells (l.take off++x.list++l.drop (off+x.list.length)) ty)::agV s.h (.b r)} a w0 w' R h' F:=by
 obtain⟨h1,h2,d,l1,l2,a1,a2⟩:=mf (λx=>decide (x.1=Key.b r)) ok.hp;rw[hu]at a1;have e1:h1 (r.den ρ)=some (.cells (l.map (A.den ρ)).toArray ty (0,0)):=a1;have eh:=l1 _ _ e1;have ew:=ok.rO.oh _ _ eh;obtain⟨Um,Lj⟩:=Option.isSome_iff_exists.1 hi
 have hst:=run_storeCells_at (P:=P) (r.den ρ) off ty (x.list.map (A.den ρ)) 0 (l.map (A.den ρ)).toArray w ew (by simpa using ho) (λv hv=>by
  obtain⟨y,_,rfl⟩:=List.mem_map.1 hv;exact A.one ρ y)
 simp only[Nat.add_zero,List.length_map]at hst
 have fg:(Instr.storeAt t (.pointer (some ⟨r.den ρ,off,none⟩)) (x.den ρ)).run P w=.ok () (w.setRow (r.den ρ) ((l.take off++x.list++l.drop (off+x.list.length)).map (A.den ρ)).toArray):=by
  simp only[Instr.storeAt,Instr.sureAddr,Sem.run_bind,Sem.run_pure,Result.andThen_ok,storeVar,run_sizeOf Lj,W.cells,List.size_toArray,List.length_map,hw,ne_eq,not_true_eq_false,if_false,hst];congr 2;simp[List.map_take,List.map_drop]
 have s2:=ok.rO.bU (w':=w.setRow (r.den ρ) ((l.take off++x.list++l.drop (off+x.list.length)).map (A.den ρ)).toArray) (y:=.cells ((l.take off++x.list++l.drop (off+x.list.length)).map (A.den ρ)).toArray ty (0,0)) eh
  (λk hk=>setRow_other w _ k _ hk) (setRow_heap w _ _ _ ty (0,0) ew)
 refine⟨_,_,fg,⟨ok.rI,ok.tm,ok.len,ok.kn,?_,s2,ok.same.trans ⟨rfl,rfl,rfl,by simp⟩⟩⟩;refine(co _ _ _ _ _).2 ⟨PH.one (r.den ρ) (.cells ((l.take off++x.list++l.drop (off+x.list.length)).map (A.den ρ)).toArray ty (0,0)),h2,λk=>?_,λk o e=>?_,λk o e=>?_,PH.cX _ _,a2⟩
 ·by_cases e:k=r.den ρ
  ·subst e;exact .inr ((d _).resolve_left (by rw[e1];simp))
  ·exact .inl (aq e)
 ·obtain⟨rfl,rfl⟩:=PH.pF e;exact aB rfl
 ·have hne:k≠r.den ρ:=λe'=>by
   subst e';rcases d (r.den ρ)with e'|e'
   ·rw[e1]at e';cases e'
   ·rw[e]at e';cases e'
  simp only[hne,if_false];exact l2 k o e
theorem HI{t}{ad x}(ok:Ok ρ s a w0 w R h F)(hl:L.length=s.dp)(ho:o.op=.store t ad x)(hd:(AM P bt s o t ad x K).den P post L ρ):
 o.wp P a w (Nx ⟨P,post,w0,F,ρ,R,L⟩ K) Q:=by
 unfold AM at hd;split at hd
 ·rename_i r off y hx hy;split at hd
  ·rename_i l ty hf;split at hd
   ·rename_i hc;obtain⟨w',h',hr,o3⟩:=Ur ok hc.1 hc.2.1 hc.2.2.1 hc.2.2.2;refine Uq (w':=w') ?_ ?_
    ·simp only[execOp,ho,cz ok.tm hx,A.den,vE ok.tm hy,Sem.run_bind,hr,Result.andThen_ok,Sem.run_pure]
    ·exact⟨ρ,_,R,h',L,List.prefix_refl _,PH.le.refl _,List.suffix_refl _,by rw[oZ];exact hl,o3.put o.dst (.gY []),hd⟩
   ·exact hd.elim
  ·exact rQ ok hl hd
 ·exact rQ ok hl hd
theorem Lm{c x y}(ok:Ok ρ s a w0 w R h F)(hl:L.length=s.dp)(ho:o.op=.pick c x y)(hd:(Fo s o c x y K).den P post L ρ):
 o.wp P a w (Nx ⟨P,post,w0,F,ρ,R,L⟩ K) Q:=by
 unfold Fo at hd;split at hd
 ·rename_i e hc;have hcd:=cz ok.tm hc;obtain⟨kn,o3,h1⟩:=Fy ok hd;rcases h1 with⟨he,h1⟩|⟨he,h1⟩
  ·split at h1
   ·rename_i v hv;refine mh (v:=v.den ρ) (w':=w) ?_ ?_
    ·simp only[execOp,ho,hcd,A.den,asBool,Sem.run_bind,Sem.run_pure,Result.andThen_ok,he,if_true];rw[jz o3.tm hv]
    ·exact⟨ρ,_,R,h,L,List.prefix_refl _,PH.le.refl _,List.suffix_refl _,by rw[oZ];exact hl,o3.put o.dst v,h1⟩
   ·exact h1.elim
  ·split at h1
   ·rename_i v hv;refine mh (v:=v.den ρ) (w':=w) ?_ ?_
    ·simp only[execOp,ho,hcd,A.den,asBool,Sem.run_bind,Sem.run_pure,Result.andThen_ok,he,Bool.false_eq_true,if_false];rw[jz o3.tm hv]
    ·exact⟨ρ,_,R,h,L,List.prefix_refl _,PH.le.refl _,List.suffix_refl _,by rw[oZ];exact hl,o3.put o.dst v,h1⟩
   ·exact h1.elim
 ·exact hd.elim
theorem QB{fs:List Field}(hi:∀f∈fs,(P.info? f.type).isSome=true):fs.mapM (λf=>(P.info? f.type).map λi=>(f.offset,i.size))=some (fs.map λf=>(f.offset,iA P f.type)):=by
 induction fs with
 |nil=>rfl
 |cons f r ih=>
  obtain⟨i,Oo⟩:=Option.isSome_iff_exists.1 (hi f (List.mem_cons_self ..));simp[List.mapM_cons,Oo,ih λg hg=>hi g (List.mem_cons_of_mem _ hg),iA]
theorem A1{t}{l}(h:yR P t=some l)(ρ:cd):∃i v,P.info? t=some i/\i.zero=some v/\v.cells=(l.map (A.den ρ)).toArray:=by
 unfold yR at h;split at h
 ·rename_i i hi;split at h
  ·rename_i v hv;simp only[Option.map_eq_some_iff]at h;obtain⟨x,hx,rfl⟩:=h;exact⟨i,v,hi,hv,yT hx ρ⟩
  ·cases h
 ·cases h
theorem HJ{t}{parts}(ok:Ok ρ s a w0 w R h F)(hl:L.length=s.dp)(ho:o.op=.build t parts)(hd:(AK P s o t parts K).den P post L ρ):
 o.wp P a w (Nx ⟨P,post,w0,F,ρ,R,L⟩ K) Q:=by
 have iW:∀l:List A,P.built t (parts.map λ(i,x)=>(i,a.eval x)).toList=some (l.map (A.den ρ)).toArray->(K (s.put o.dst (.w (.agg l)))).den P post L ρ->o.wp P a w (Nx ⟨P,post,w0,F,ρ,R,L⟩ K) Q:=λl hb hk=>by
  refine mh (v:=(V.w (.agg l)).den ρ) (w':=w) ?_ ⟨ρ,_,R,h,L,List.prefix_refl _,PH.le.refl _,List.suffix_refl _,by rw[oZ];exact hl,ok.put o.dst _,hk⟩;simp only[execOp,ho];exact dD (run_build w t _ _ hb)
 have Us:∀ps,partsOf s parts.toList=some ps->(parts.map λ(i,x)=>(i,a.eval x)).toList=ps.map λx=>(x.1,x.2.den ρ):=λps hp=>by
  rw[<-rS ok.tm hp];simp
 unfold AK at hd;split at hd
 ·rename_i fs hu;split at hd
  ·rename_i z ps hz hp;split at hd
   ·rename_i hi;split at hd
    ·rename_i l hf;refine iW l ?_ hd;obtain⟨it,v,h1,h2,h3⟩:=A1 hz ρ;unfold Program.built;rw[h1,hu];simp only[h2]
     rw[QB (λf hf=>by
      have:=List.all_eq_true.1 hi f hf;exact this)]
     simp only[h3,Us ps hp];rw[<-vI hf];congr 1;funext i;simp
    ·exact hd.elim
   ·exact hd.elim
  ·exact hd.elim
 ·rename_i n el hu;split at hd
  ·rename_i z ps hz hp;split at hd
   ·rename_i hi;split at hd
    ·rename_i l hf;refine iW l ?_ hd;obtain⟨it,v,h1,h2,h3⟩:=A1 hz ρ;obtain⟨ie,hie⟩:=Option.isSome_iff_exists.1 hi;unfold Program.built;rw[h1,hu];simp only[h2,hie];simp only[h3,Us ps hp];rw[<-vI hf];simp only[iA,hie]
    ·exact hd.elim
   ·exact hd.elim
  ·exact hd.elim
 ·exact hd.elim
theorem Ut{α:Type}[Inhabited α](z:List α) n:∀i,i<n*z.length->(zM n z)[i]? =some (z[i%z.length]!):=by
 induction n with
 |zero=>intro i hi;simp at hi
 |succ n ih=>
  intro i hi;simp only[zM]
  by_cases h:i<z.length
  ·rw[List.getElem?_append_left h,Nat.mod_eq_of_lt h];simp[h]
  ·have hz:0<z.length:=by
    rcases Nat.eq_zero_or_pos z.length with e|e
    ·rw[e]at hi;simp at hi
    ·exact e
   rw[List.getElem?_append_right (by omega),ih (i - z.length) (by rw[Nat.succ_mul]at hi;omega)];rw[show i%z.length=(i - z.length)%z.length by rw[Nat.mod_eq_sub_mod (by omega)]]
theorem yU{α:Type}(z:List α) n:(zM n z).length=n*z.length:=by
 induction n with
 |zero=>simp[zM]
 |succ n ih=>simp[zM,ih,Nat.succ_mul];omega
theorem adK(z:List Value) n:(zM n z).toArray=(Array.range (n*z.length)).map (z.toArray[· %z.toArray.size]!):=by
 apply Array.ext_getElem?;intro i
 by_cases h:i<n*z.length
 ·rw[List.getElem?_toArray,Ut z n i h];simp[h]
 ·rw[List.getElem?_toArray,List.getElem?_eq_none (by rw[yU];omega),Array.getElem?_eq_none (by simpa using h)]
theorem Uu{α β:Type}(f:α->β) z n:(zM n z).map f=zM n (z.map f):=by
 induction n with
 |zero=>rfl
 |succ n ih=>simp[zM,ih]
theorem HQ{t}{len}{parts}(ok:Ok ρ s a w0 w R h F)(hl:L.length=s.dp)(ho:o.op=.buildSlice t len parts)(hd:(AJ P s o t len parts K).den P post L ρ):
 o.wp P a w (Nx ⟨P,post,w0,F,ρ,R,L⟩ K) Q:=by
 unfold AJ at hd;split at hd
 ·rename_i el hu;split at hd
  ·rename_i z ps hz hp;split at hd
   ·rename_i hi;obtain⟨hi,Y2⟩:=hi;obtain⟨ie,hie⟩:=Option.isSome_iff_exists.1 hi;split at hd
    ·rename_i l hf;split at hd
     ·rename_i hle
      have hn:=uB ok hl hd (λx=>.slice (some ⟨x,0,none⟩) len len) (λx=>by
       simp only[A.den,SA.den,BR.den,E.den,rH];rw[<-ok.len,ou];rfl)
      refine mh (v:=.slice (some ⟨w.heap.size,0,none⟩) len len) (w':=w.alloc (.cells (l.map (A.den ρ)).toArray el)) ?_ hn;simp only[execOp,ho];rw[Sem.run_bind]
      have hpd:(parts.map λ(x:Nat×Operand)=>(x.1,a.eval x.2)).toList=ps.map λx=>(x.1,x.2.den ρ):=by
       rw[<-rS ok.tm hp];simp
      have Y3:=vI (ρ:=ρ) hf;have alP:¬len*iA P el>2^24:=by simpa using hle
      have Oq:∀c:dI,(newRow el c).run P w=.ok ⟨w.heap.size,0,none⟩ (w.alloc (.cells c el)):=λc=>by
       simp only[newRow,newObj,Sem.run_bind,Sem.run,Result.andThen_ok,Sem.run_pure];rfl
      have fg:(Instr.buildSlice t len (parts.map λ(x:Nat×Operand)=>(x.1,a.eval x.2))).run P w=.ok (.slice (some ⟨w.heap.size,0,none⟩) len len) (w.alloc (.cells (l.map (A.den ρ)).toArray el)):=by
       by_cases h0:len*iA P el=0
       ·rw[aB h0]at hz;cases hz
        have QC:(zM len ([]:List A))=[]:=by
         apply List.eq_nil_of_length_eq_zero;rw[yU];simp
        rw[QC]at Y3;simp only[Instr.buildSlice,Sem.run_bind,run_underlying hu,Result.andThen_ok,run_sizeOf hie,h0,gt_iff_lt,Nat.not_lt_zero,if_false,if_true,Sem.run_pure,hpd];have e0:(Array.range 0).map (λi=>(#[]:dI)[i%(#[]:dI).size]!)= #[]:=by simp
        rw[e0];simp only[List.map_nil]at Y3;rw[Y3];simp only[Sem.run_bind,Oq,Result.andThen_ok,Sem.run_pure]
       ·rw[aq h0]at hz;obtain⟨v,hzr,hzc⟩:=HH (P:=P) (w:=w) hz ρ;have alS:z.length=iA P el:=Y2.resolve_left h0;rw[Uu,adK,List.length_map,alS]at Y3;simp only[Instr.buildSlice,Sem.run_bind,run_underlying hu,Result.andThen_ok,run_sizeOf hie,h0,alP,if_false,hzr,Sem.run_pure,hpd,hzc];rw[Y3];simp only[Sem.run_bind,Oq,Result.andThen_ok,Sem.run_pure]
      rw[fg];rfl
     ·exact hd.elim
    ·exact hd.elim
   ·exact hd.elim
  ·exact hd.elim
 ·exact hd.elim
theorem Ln(hg:NG P){c}(ok:Ok ρ s a w0 w R h F)(hl:L.length=s.dp)(ho:o.op=.call c)(hd:(Fm P bt s o c K).den P post L ρ):o.wp P a w (Nx ⟨P,post,w0,F,ρ,R,L⟩ K) Q:=by
 have A2:∀ws,mapM' (N4 s) c.args.toList=some ws->c.args.map a.eval=(ws.map (W.den ρ)).toArray:=λws hw=>by
  rw[<-vH ok.tm hw];cases c.args;simp
 unfold Fm at hd;split at hd
 ·rename_i f hc;split at hd
  ·rename_i ws hw;split at hd
   ·rename_i fn hfn;split at hd
    ·refine HF hg ok hl hd ?_;simp only[execOp,ho,resolve,hc,A2 ws hw,Sem.run_bind,Act.eval,Deferred.ofValue,Sem.run_pure,Result.andThen_ok,invoke];simp
    ·exact rQ ok hl hd
   ·exact hd.elim
  ·exact hd.elim
 ·rename_i x hx hc;split at hd
  ·rename_i f cs ws hf hw;refine HF hg ok hl hd ?_;simp only[execOp,ho,resolve,hc,A2 ws hw,Sem.run_bind,cz ok.tm hf,A.den,Deferred.ofValue,Sem.run_pure,Result.andThen_ok,invoke];congr 2;simp only[List.map_append,List.map_map];apply Array.toList_inj.1;simp;intro p r _;rfl
  ·exact hd.elim
 ·exact rQ ok hl hd
theorem Uv(hg:NG P)(ok:Ok ρ s a w0 w R h F)(hl:L.length=s.dp)(hd:(TR P bt s o K).den P post L ρ):o.wp P a w (Nx ⟨P,post,w0,F,ρ,R,L⟩ K) Q:=by
 unfold TR at hd;split at hd
 ·rename_i e ho;split at hd
  ·rename_i l hz
   have hn:=uB ok hl hd (λx=>pt x) (λx=>by
    simp only[A.den,BR.den];rw[<-ok.len,ou];rfl)
   refine mh (v:=pt w.heap.size) ?_ hn;obtain⟨v,hzr,hzc⟩:=HH (P:=P) (w:=w) hz ρ;simp only[execOp,ho,Instr.alloc,Sem.run_bind,hzr,Result.andThen_ok,A0,hzc,Sem.run_pure]
  ·exact hd.elim
 ·rename_i e x ho;split at hd
  ·rename_i y hy
   have hn:=uB ok hl hd (λx=>pt x) (λx=>by
    simp only[A.den,BR.den];rw[<-ok.len,ou];rfl)
   refine mh (v:=pt w.heap.size) ?_ hn;simp only[execOp,ho,Instr.box,Sem.run_bind,vE ok.tm hy,A0,W.cells,Result.andThen_ok,Sem.run_pure]
  ·exact hd.elim
 ·rename_i t ho
  have hn:=Om ok hl hd (.map #[] 0) (λx=>by
   simp only[jH,BR.den]
   rw[<-ok.len,ou];rfl) (λx=>.map (some x)) (λx=>by
    simp only[A.den,BR.den];rw[<-ok.len,ou];rfl)
  refine mh (v:=.map (some w.heap.size)) ?_ hn;simp only[execOp,ho,Option.map_none,Instr.makeMap,newObj,Sem.run_bind,Sem.run,Result.andThen_ok,Sem.run_pure];rfl
 ·rename_i t parts ho;exact HJ ok hl ho hd
 ·rename_i t len parts ho;exact HQ ok hl ho hd
 ·rename_i t ad x ho;exact HI ok hl ho hd
 ·rename_i c x y ho;exact Lm ok hl ho hd
 ·rename_i c ho;exact Ln hg ok hl ho hd
 ·exact rQ ok hl hd
theorem Uw(hg:NG P)(ok:Ok ρ s a w0 w R h F)(hl:L.length=s.dp)(hd:(TT P bt s o K).den P post L ρ):o.wp P a w (Nx ⟨P,post,w0,F,ρ,R,L⟩ K) Q:=by
 unfold TT at hd;split at hd
 ·rename_i es v hp;obtain⟨kn,o3,xM,hk⟩:=Hy ok hd;exact mh (AZ hp ok.tm ok.kn ⟨R,h,F,ok.rO,ok.hp⟩ xM) ⟨ρ,_,R,h,L,List.prefix_refl _,PH.le.refl _,List.suffix_refl _,by rw[oZ];exact hl,o3.put o.dst v,hk⟩
 ·exact Uv hg ok hl hd
end
section
variable {P:Program}{post:Value->HP}{w0 w:World}{F R h:PH}{ρ:cd}{L:List (cd->Prop)}{s:S}{a:Act}{bt:jo}{Q:Exit->Act->World->Prop}{ops:Array Oper}
theorem Y4(tm:Tm ρ s.t a){d}{x}(h:oo s (.tmp d)=some x):a.tmps[d]? =some (x.den ρ):=by
 unfold oo at h;split at h
 ·rename_i y hy;cases h;simp only[ev]at hy;split at hy
  ·rename_i o ho;subst hy;exact tm.2 d _ ho
  ·cases hy
 ·cases h
theorem xN{o}{run skip}(ok:Ok ρ s a w0 w R h F)(hd:(AN ops s o run skip).den P post L ρ):
 ∃kn,Ok ρ {s with kn:=kn} a w0 w R h F/\((Region.wanted o (yielded ops a.tmps)=true/\(run {s with kn:=kn}).den P post L ρ)\/(Region.wanted o (yielded ops a.tmps)=false/\(skip {s with kn:=kn}).den P post L ρ)):=by
 unfold AN at hd;split at hd
 ·rename_i hg;exact⟨s.kn,ok,.inl ⟨by simp[Region.wanted,hg],hd⟩⟩
 ·rename_i j Qr hg;split at hd
  ·exact hd.elim
  ·rename_i d hj;split at hd
   ·rename_i yV;have ht:=ok.tm.2 d _ yV
    have hy:yielded ops a.tmps j=none:=by
     unfold yielded;rw[hj];simp only[Option.bind_some,ht,V.den,List.map_nil]
    refine⟨s.kn,ok,.inr ⟨?_,hd⟩⟩;simp only[Region.wanted,hg,hy];rfl
   ·split at hd
    ·rename_i e he;obtain⟨kn,o3,hh⟩:=Fy ok hd;have ht:=Y4 ok.tm he
     have hy:yielded ops a.tmps j=some (e.den ρ).bool:=by
      unfold yielded;rw[hj];simp only[Option.bind_some,ht,A.den]
     refine⟨kn,o3,?_⟩;simp only[Region.wanted,hg,hy];rcases hh with⟨hb,hh⟩|⟨hb,hh⟩<;>rw[hb]<;>cases Qr<;>simp only[if_true,Bool.false_eq_true,if_false]at hh
     ·exact .inr ⟨rfl,hh⟩
     ·exact .inl ⟨rfl,hh⟩
     ·exact .inl ⟨rfl,hh⟩
     ·exact .inr ⟨rfl,hh⟩
    ·exact hd.elim
theorem Nx.up{K}{ρ':cd}{R'}{L'}{a'}{w'}(p1:ρ<+:ρ')(p2:R.le R')(p3:L<:+L')(n:Nx ⟨P,post,w0,F,ρ',R',L'⟩ K a' w'):Nx ⟨P,post,w0,F,ρ,R,L⟩ K a' w':=
 n.mono rfl rfl rfl rfl p1 p2 p3 λ_=>rfl
def WF(Fr:Fence):Prop:=Fr=Fence.wide\/∃l,Fr=Fence.wide.inRound l
theorem WF.fn{Fr}(h:WF Fr) f:Fr.fn f:=by rcases h with rfl|⟨l,rfl⟩<;>trivial
theorem WF.dep{Fr}(h:WF Fr):Fr.depth.isSome=true->1<=0:=by rcases h with rfl|⟨l,rfl⟩<;>(intro h;cases h)
theorem WF.calls{Fr}(h:WF Fr){n}{f}{args:dI}{w}{Z}(c:Calls P f args w Z):CallsIn Fr n P f args w Z:=by
 have c':CallsIn Fence.wide n P f args w Z:=callsIn_wide.2 c;rcases h with rfl|⟨l,rfl⟩
 ·exact c'
 ·exact c'
theorem WF.rows{Fr}(h:WF Fr){n}{row}{args:dI}{w}{Z}(c:Rows P row args w Z):RowsIn Fr n P row args w Z:=by
 have c':RowsIn Fence.wide n P row args w Z:=λfr cs _=>let⟨v,w',r,s⟩:=c fr cs;⟨v,w',r,stepsIn_wide.2 s⟩;rcases h with rfl|⟨l,rfl⟩
 ·exact c'
 ·exact c'
theorem WF.round{Fr}(h:WF Fr){n l}{f}{tmps:dI}{KQ body}{w}{Z}(c:RoundIn Fence.wide 0 P l f tmps KQ body w Z):RoundIn Fr n P l f tmps KQ body w Z:=by
 have c':RoundIn Fence.wide n P l f tmps KQ body w Z:=⟨trivial,λfr cs _=>c.2 fr cs (room_wide _)⟩;rcases h with rfl|⟨l,rfl⟩
 ·exact c'
 ·exact c'
theorem oz{o:Oper}(h:jI o.op=true):∀c,o.op≠.defer c:=λc e=>by rw[e]at h;cases h
theorem alT{Fr}(wf:WF Fr){o:Oper}(iZ:jI o.op=true){nx}(h:o.wp P a w nx Q):o.wpIn Fr 0 P a w nx Q:=by
 refine⟨λf _=>wf.fn f,?_⟩;rw[Oper.semAt_plain Fr _ _ (oz iZ)];unfold Oper.wp at h;generalize (execOp a.eval o).run P w=r at h⊢;cases r with
 |ok x w'=>
  cases x<;>simp only[Oper.upon]at h<;>simp only[Oper.uponIn]<;>first
   |exact h
   |exact⟨wf.dep,wf.calls h⟩
   |exact⟨wf.dep,wf.rows h⟩
   |exact h.elim
 |halt x w'=>cases x<;>simp only[Oper.upon]at h<;>simp only[Oper.uponIn]<;>exact h
theorem Fz{o}{v}{ws}(h:Aa s o=some (v,ws)):∃c x,o.op=.call c/\c.callee=.value x/\oo s x=some (.val v)/\mapM' (N4 s) c.args.toList=some ws:=by
 unfold Aa at h;split at h
 ·rename_i c ho;split at h
  ·rename_i x hc;split at h
   ·rename_i k q hx hw;cases h;exact⟨c,x,ho,hc,hx,hw⟩
   ·cases h
  ·cases h
 ·cases h
theorem jG.op{Fr}(wf:WF Fr){o:Oper}{c}{x}{fv}{args:dI}{A}{B}(t:jG P fv args A B)(ho:o.op=.call c)(hc:c.callee=.value x)(hx:a.eval x=eD fv)(A2:c.args.map a.eval=args)
 (s1:Sat w R h F) (p1:A.p R h) {nx} (hn:∀v' w' R' h',Same w w'->R.le R'->Sat w' R' h' F->(B v').p R' h'->nx (a.put o.dst v') w'):o.wpIn Fr 0 P a w nx Q:=by
 refine⟨λf _=>wf.fn f,?_⟩;rw[Oper.semAt_plain Fr _ _ (λd e=>by rw[ho]at e;cases e)];rcases t with⟨f,jy,rfl,⟨fn,hfn,On,hname⟩,t⟩|⟨l,rfl,t⟩
 ·have fg:(execOp a.eval o).run P w=.ok (.enter f (args++jy)) w:=by
   simp only[execOp,ho,resolve,hc,A2,Sem.run_bind,hx,eD,Deferred.ofValue,Sem.run_pure,Result.andThen_ok,invoke,callFunc,program,Sem.run,hfn,hname,On,Bool.false_eq_true,if_false,Array.empty_append]
  rw[fg,Oper.uponIn_enter];refine⟨wf.dep,wf.calls ((t w R h _ s1 p1).mono λe w' ⟨v',he,sm,R',mK,lR,s2,hB⟩=>?_)⟩;subst he;exact hn v' w' R' mK sm lR s2 hB
 ·obtain⟨fn,tmps,KQ,body,hy,hr⟩:=t w R h _ s1 p1
  have fg:(execOp a.eval o).run P w=.ok (.round l fn tmps KQ body) w:=by
   simp only[execOp,ho,resolve,hc,A2,Sem.run_bind,hx,eD,Deferred.ofValue,Sem.run_pure,Result.andThen_ok,invoke,Array.empty_append];exact hy
  rw[fg,Oper.uponIn_round];refine⟨wf.dep,wf.round (hr.mono λe w' ⟨v',he,sm,R',mK,lR,s2,hB⟩=>?_)⟩;subst he;exact hn v' w' R' mK sm lR s2 hB
theorem Ux{Fr}(wf:WF Fr){o}{K}{v}{ws}(hv:Aa s o=some (v,ws))(ok:Ok ρ s a w0 w R h F)(hl:L.length=s.dp)(hd:(nt P bt s o v ws K).den P post L ρ):
 o.wpIn Fr 0 P a w (Nx ⟨P,post,w0,F,ρ,R,L⟩ K) Q:=by
 obtain⟨c,x,ho,hc,hx,hw⟩:=Fz hv
 have A2:c.args.map a.eval=(ws.map (W.den ρ)).toArray:=by
  rw[<-vH ok.tm hw];cases c.args;simp
 unfold nt at hd;simp only at hd;split at hd
 ·exact hd.elim
 rename_i rR;simp only[Bool.not_eq_true',Bool.not_eq_false]at rR;split at hd
 ·rename_i hb;simp only[Bool.and_eq_true,decide_eq_true_eq,Nat.blt_eq]at hb;obtain⟨hb,hn⟩:=hb;obtain⟨h1,h2,s1,d1,p1,p2⟩:=ok.hand (λx=>(jv s.h s.lk 60 (Key.a v::bt.vt++ws.flatMap λx=>x.list.flatMap fR) []).contains x.1);refine jG.op wf hd ho hc (cz ok.tm hx) A2 s1 (nv rR p1) λv' w' R' mK sm lR s2 hB=>?_;obtain⟨xs,lj,C6,hk,hnb⟩:=pM hB;rw[C6];refine⟨_,_,R',mK.un h2,L,List.prefix_append ρ xs,lR,List.suffix_refl _,?_,ok.back (lk:=_) hb sm s2 d1 lR (hn.trans (by rw[lj])) (λx hx=>(List.mem_filter.1 hx).1) p2 hnb _ _,hk⟩;cases o.dst<;>exact hl
 ·exact hd.elim
theorem FA{o}{v}{name}{ws}(h:Ab s o=some (v,name,ws)):∃c x,o.op=.call c/\c.callee=.invoke x name/\oo s x=some (.val v)/\mapM' (N4 s) c.args.toList=some ws:=by
 unfold Ab at h;split at h
 ·rename_i c ho;split at h
  ·rename_i x nm hc;split at h
   ·rename_i k q hx hw;cases h;exact⟨c,x,ho,hc,hx,hw⟩
   ·cases h
  ·cases h
 ·cases h
theorem HT(x:Value)(l:dI):(#[x]++l).extract 1 (#[x]++l).size=l:=by
 apply Array.ext';rw[Array.toList_extract];simp;exact List.take_of_length_le (Nat.le_of_eq Array.length_toList)
theorem YR.op{Fr}(wf:WF Fr){o:Oper}{c}{x}{fv}{name}{args:dI}{A}{B}(t:YR P fv name args A B)(ho:o.op=.call c)(hc:c.callee=.invoke x name)(hx:a.eval x=eD fv)(A2:c.args.map a.eval=args)
 (s1:Sat w R h F) (p1:A.p R h) {nx:Act->World->Prop} (hn:∀v' w' R' h',Same w w'->R.le R'->Sat w' R' h' F->(B v').p R' h'->nx (a.put o.dst v') w'):o.wpIn Fr 0 P a w nx Q:=by
 refine⟨λf _=>wf.fn f,?_⟩;rw[Oper.semAt_plain Fr _ _ (λd e=>by rw[ho]at e;cases e)];obtain⟨ty,y,f,r,rfl,hm,⟨fn,hfn,On,hname⟩,t⟩:=t
 have fg:(execOp a.eval o).run P w=.ok (.enter f (#[r]++args)) w:=by
  have h0:(#[Value.iface ty y]++args)[0]? =some (.iface ty y):=by rw[Array.getElem?_append_left (by simp)];rfl
  simp only[execOp,ho,resolve,hc,A2,Sem.run_bind,hx,eD,Sem.run_pure,Result.andThen_ok,invoke,h0,HT,callMethod,program,Sem.run,hm,callFunc,hfn,hname,On,Bool.false_eq_true,if_false]
 rw[fg,Oper.uponIn_enter];refine⟨wf.dep,wf.calls ((t w R h _ s1 p1).mono λe w' ⟨v',he,sm,R',mK,lR,s2,hB⟩=>?_)⟩;subst he;exact hn v' w' R' mK sm lR s2 hB
theorem Uy{Fr}(wf:WF Fr){o}{K}{v}{name}{ws}(hv:Ab s o=some (v,name,ws))(ok:Ok ρ s a w0 w R h F)(hl:L.length=s.dp)(hd:(TV P bt s o v name ws K).den P post L ρ):
 o.wpIn Fr 0 P a w (Nx ⟨P,post,w0,F,ρ,R,L⟩ K) Q:=by
 obtain⟨c,x,ho,hc,hx,hw⟩:=FA hv
 have A2:c.args.map a.eval=(ws.map (W.den ρ)).toArray:=by
  rw[<-vH ok.tm hw];cases c.args;simp
 unfold TV at hd;simp only at hd;split at hd
 ·exact hd.elim
 rename_i rR;simp only[Bool.not_eq_true',Bool.not_eq_false]at rR;split at hd
 ·rename_i hb;simp only[Bool.and_eq_true,decide_eq_true_eq,Nat.blt_eq]at hb;obtain⟨hb,hn⟩:=hb;obtain⟨h1,h2,s1,d1,p1,p2⟩:=ok.hand (λx=>(jv s.h s.lk 60 (Key.a v::bt.vt++ws.flatMap λx=>x.list.flatMap fR) []).contains x.1);refine YR.op wf hd ho hc (cz ok.tm hx) A2 s1 (nv rR p1) λv' w' R' mK sm lR s2 hB=>?_;obtain⟨xs,lj,C6,hk,hnb⟩:=pM hB;rw[C6];refine⟨_,_,R',mK.un h2,L,List.prefix_append ρ xs,lR,List.suffix_refl _,?_,ok.back (lk:=_) hb sm s2 d1 lR (hn.trans (by rw[lj])) (λx hx=>(List.mem_filter.1 hx).1) p2 hnb _ _,hk⟩;cases o.dst<;>exact hl
 ·exact hd.elim
theorem HY{Fr}(wf:WF Fr)(hg:NG P){o}(iZ:jI o.op=true){K}(ok:Ok ρ s a w0 w R h F)(hl:L.length=s.dp)(hd:(Of P bt s o K).den P post L ρ):
 o.wpIn Fr 0 P a w (Nx ⟨P,post,w0,F,ρ,R,L⟩ K) Q:=by
 unfold Of at hd;split at hd
 ·rename_i v ws hv;exact Ux wf hv ok hl hd
 ·split at hd
  ·rename_i v name ws hv;exact Uy wf hv ok hl hd
  ·exact alT wf iZ (Uw hg ok hl hd)
theorem Ot{Fr}(wf:WF Fr)(hg:NG P){K}:∀(l:List Oper),(∀o∈l,jI o.op=true)->∀ {ρ:cd} {s:S} {a:Act} {w:World} {R h:PH} {L:List (cd->Prop)},Ok ρ s a w0 w R h F->L.length=s.dp->(TW P bt ops l s K).den P post L ρ->
 (∀a w,Nx ⟨P,post,w0,F,ρ,R,L⟩ K a w->Q .normal a w)->wpListIn Fr 0 P ops Q l a w:=by
 intro l
 induction l with
 |nil=>intro _ ρ s a w R h L ok hl hd hQ;exact hQ a w (Nx.mk ok hl hd)
 |cons o r ih=>
  intro iZ ρ s a w R h L ok hl hd hQ;obtain⟨kn,o3,hh⟩:=xN ok hd;simp only[wpListIn];rcases hh with⟨hw,hh⟩|⟨hw,hh⟩
  ·rw[aB hw];refine Oper.wpIn_mono (λa' w' n=>?_) (HY wf hg (iZ o (List.mem_cons_self ..)) o3 (by exact hl) hh);obtain⟨ρ',s',R',h',L',p1,p2,p3,p4,p5,p6⟩:=n;exact ih (λo ho=>iZ o (List.mem_cons_of_mem _ ho)) p5 p4 p6 λa'' Ou n=>hQ a'' Ou (n.up p1 p2 p3)
  ·rw[aq (by rw[hw];simp)];exact⟨λf _=>wf.fn f,ih (λo ho=>iZ o (List.mem_cons_of_mem _ ho)) (o3.put o.dst (.gY [])) (by rw[oZ];exact hl) hh hQ⟩
theorem HZ{f:Nat->T}:∀ {l:List Nat},(adB f l).den P post L ρ->∀i∈l,(f i).den P post L ρ
 |[],_,i,hi=>by cases hi
 |[x],h,i,hi=>by
  cases hi with
  |head=>exact h
  |tail _ hi=>cases hi
 |x::y::r,h,i,hi=>by
  cases hi with
  |head=>exact h.1
  |tail _ hi=>exact HZ h.2 i hi
theorem rT{tk}{h0}{listed}{D}:∀ {l:List Nat} {i:Nat} {o:Oper},firstFree P bt ops tk h0 listed s l=some (i,o,D)->i∈l/\ops[i]? =some o/\Region.free .any ops listed i=true/\Ho ops listed tk i D=true
 |[],_,_,h=>by cases h
 |x::r,i,o,h=>by
  simp only[firstFree]at h;split at h
  ·cases h
  ·rename_i o' ho
   have rest:firstFree P bt ops tk h0 listed s r=some (i,o,D)->i∈x::r/\ops[i]? =some o/\Region.free .any ops listed i=true/\Ho ops listed tk i D=true:=λh=>by
    obtain⟨h1,h2⟩:=rT h;exact⟨List.mem_cons_of_mem _ h1,h2⟩
   split at h
   ·rename_i hf;split at h
    ·rename_i hc;cases h;simp only[Bool.and_eq_true]at hc;exact⟨List.mem_cons_self ..,ho,(Hn ..).trans hf,hc.1⟩
    ·split at h
     ·rename_i hc;cases h;simp only[Bool.and_eq_true]at hc;exact⟨List.mem_cons_self ..,ho,(Hn ..).trans hf,hc.1⟩
     ·exact rest h
   ·exact rest h
theorem D3{Fr}(wf:WF Fr){Si}{i}{o}{v}(hi:ops[i]? =some o)(iZ:jI o.op=true)(hy:YieldsIf P ops Si o v a)
 {K} (hS:Si w) (h:K (a.put o.dst v) w):wpOpIn Fr 0 P ops Q i K a w:=by
 unfold wpOpIn;simp only[hi];rcases hy with⟨hw,hv⟩|⟨hw,rfl⟩
 ·simp only[hw,if_true];refine⟨λf _=>wf.fn f,?_⟩;rw[Oper.semAt_plain Fr _ _ (oz iZ),hv w hS];simp only[Oper.uponIn];exact h
 ·simp only[hw,Bool.false_eq_true,if_false];exact⟨λf _=>wf.fn f,h⟩
theorem Uz{Fr}(wf:WF Fr){Si}{j}{oi oj}{v}(hj:ops[j]? =some oj)(iZ:jI oj.op=true)(hap:oi.apart ops oj=true)
 (hsi:∀cs b,oi.op≠.select cs b) (hsj:∀cs b,oj.op≠.select cs b)
 (hQ:∀c a w,Q (.panic c) (a.put oi.dst v) w->Q (.panic c) a w) {K}
 (hy:YieldsIf P ops Si oi v a) (h:wpOpIn Fr 0 P ops Q j K (a.put oi.dst v) w):
 wpOpIn Fr 0 P ops Q j (λa' w'=>YieldsIf P ops Si oi v a'/\K (a'.put oi.dst v) w') a w:=by
 obtain⟨h1,h2,h3⟩:=Oper.apart_spec hap
 have aF:∀(a:Act),YieldsIf P ops Si oi v a->∀u,YieldsIf P ops Si oi v (a.put oj.dst u):=λa hy u=>
  hy.of_same (execOp_put oi hsi a oj.dst u h3) (wanted_put oi a oj.dst u h3)
 unfold wpOpIn at*;simp only[hj]at*;rw[wanted_put oj a oi.dst v h1]at h;split
 ·rename_i hw;simp only[hw,if_true]at h;refine⟨λf _=>wf.fn f,?_⟩;have h:=h.2;rw[Oper.semAt_plain Fr _ _ (oz iZ),execOp_put oj hsj a oi.dst v h1]at h;rw[Oper.semAt_plain Fr _ _ (oz iZ)];generalize (execOp a.eval oj).run P w=r at*;cases r with
  |ok x w'=>
   cases x<;>simp only[Oper.uponIn]at h⊢
   case value u=>exact⟨aF a hy u,by rw[<-Act.put_comm a v u h2];exact h⟩
   case skip=>exact⟨aF a hy _,by rw[<-Act.put_comm a v undef h2];exact h⟩
   case defer d=>
    refine⟨(hy.of_same rfl rfl:YieldsIf P ops Si oi v {a with defers:=d::a.defers}).of_same (execOp_put oi hsi _ oj.dst _ h3) (wanted_put oi _ oj.dst _ h3),?_⟩;rw[<-Act.put_comm _ v undef h2,<-Act.put_defers];exact h
   case enter f args=>
    refine⟨h.1,CallsIn.mono h.2 λe Ou he=>?_⟩;cases e with
    |returned u=>exact⟨aF a hy u,by rw[<-Act.put_comm a v u h2];exact he⟩
    |panicked c=>exact hQ _ _ _ he
    |outgrown=>exact he
   case row row args=>exact⟨h.1,RowsIn.mono h.2 λu Ou he=>⟨aF a hy u,by rw[<-Act.put_comm a v u h2];exact he⟩⟩
   case round l f tmps assign body=>
    refine⟨h.1,RoundIn.mono h.2 λe Ou he=>?_⟩;cases e with
    |returned u=>exact⟨aF a hy u,by rw[<-Act.put_comm a v u h2];exact he⟩
    |panicked c=>exact hQ _ _ _ he
    |outgrown=>exact he
  |halt x w'=>
   cases x<;>simp only[Oper.uponIn]at h⊢
   case panic u=>exact hQ _ _ _ h
 ·rename_i hw;simp only[hw]at h;exact⟨λf _=>wf.fn f,aF a hy _,by rw[<-Act.put_comm a v undef h2];exact h.2⟩
def qz(Fr:Fence)(P:Program)(ops:Array Oper)(Q:Exit->Act->World->Prop)(S:Array Bool->World->Prop):Nat->Array Bool->Act->World->Prop
 |0,listed,a,w=>Region.ready .any ops listed=[]/\Q .normal a w
 |fuel+1,listed,a,w=>(Region.ready .any ops listed=[]->Q .normal a w)/\
  ∀i∈Region.ready .any ops listed,wpOpIn Fr 0 P ops Q i (λa' w'=>S (listed.setIfInBounds i true) w'/\qz Fr P ops Q S fuel (listed.setIfInBounds i true) a' w') a w
theorem A3{Fr:Fence}{Sc:Array Bool->World->Prop}:∀(fuel:Nat) (listed:Array Bool) (a:Act) (w:World),qz Fr P ops Q Sc fuel listed a w->wpAnyIn Fr 0 P .any ops Q fuel listed a w
 |0,_,_,_,h=>h
 |fuel+1,_,_,_,h=>⟨h.1,λi hi=>wpOpIn_mono (λa' w' h'=>A3 fuel _ a' w' h'.2) (h.2 i hi)⟩
theorem H8{Fr:Fence}{Sc:Array Bool->World->Prop}{listed:Array Bool}{a:Act}{w:World}(hr:Region.ready .any ops listed=[])(h:Q .normal a w):∀fuel,qz Fr P ops Q Sc fuel listed a w
 |0=>⟨hr,h⟩
 |_+1=>⟨λ_=>h,by rw[hr];simp⟩
theorem FB{Fr}(wf:WF Fr)(iZ:∀o∈ops,jI o.op=true){Sc}{Si}{Inv:Array Bool->Prop}{i}{oi}{v}(hi:ops[i]? =some oi)(QA:Region.noSelect ops=true)(hQ:∀c a w,¬Q (.panic c) a w)
 (h1:∀l w,Sc (l.setIfInBounds i true) w->Sc l w) (h2:∀l w,Inv l->Sc l w->Si w) (h3:∀l j,Inv l->i∈Region.ready .any ops l->j∈Region.ready .any ops l->j≠i->Inv (l.setIfInBounds j true)):
 ∀(fuel:Nat) (listed:Array Bool) (a:Act) (w:World),
  (∀j oj,ops[j]? =some oj->j≠i->listed.getD j true=false->(∀e∈oj.after,Region.binds .any e=true->e.on≠i)->oi.apart ops oj=true)->
  i∈Region.ready .any ops listed->Inv listed->YieldsIf P ops Si oi v a->Sc listed w->
  qz Fr P ops Q Sc fuel (listed.setIfInBounds i true) (a.put oi.dst v) w->Sc (listed.setIfInBounds i true) w->qz Fr P ops Q Sc (fuel+1) listed a w:=by
 intro fuel
 induction fuel with
 |zero=>
  intro listed a w _ hr hI hy hS H hSi;refine⟨λh=>(by rw[h]at hr;cases hr),λj hj=>?_⟩
  by_cases YC:j=i
  ·subst YC;exact D3 wf hi (iZ _ (Array.mem_of_getElem? hi)) hy (h2 _ _ hI hS) ⟨hSi,H⟩
  ·have:=ready_mono hj YC;rw[H.1]at this;cases this
 |succ fuel ih=>
  intro listed a w nw hr hI hy hS H hSi;refine⟨λh=>(by rw[h]at hr;cases hr),λj hj=>?_⟩
  by_cases YC:j=i
  ·subst YC;exact D3 wf hi (iZ _ (Array.mem_of_getElem? hi)) hy (h2 _ _ hI hS) ⟨hSi,H⟩
  ·have hj':=H.2 j (ready_mono hj YC);obtain⟨ag9,oj,hoj,hall⟩:=mem_ready.1 hj;have hun:=(mem_ready.1 hr).1
   have Dd:∀e∈oj.after,Region.binds .any e=true->e.on≠i:=λe he hb heq=>by
    have q1:=hall e he hb;rw[heq]at q1;rcases Nat.lt_or_ge i listed.size with h'|h'
    ·simp[h']at hun q1;rw[hun]at q1;cases q1
    ·simp[Array.getElem?_eq_none h']at q1
   have q2:=Uz wf hoj (iZ _ (Array.mem_of_getElem? hoj)) (nw j oj hoj YC ag9 Dd) (λcs b=>Region.noSelect_spec QA i oi cs b hi) (λcs b=>Region.noSelect_spec QA j oj cs b hoj) (λc a w h=>absurd h (hQ c _ w)) hy hj'
   have adL:∀k ok,ops[k]? =some ok->k≠i->(listed.setIfInBounds j true).getD k true=false->(∀e∈ok.after,Region.binds .any e=true->e.on≠i)->oi.apart ops ok=true:=λk ok hk hki aha hno=>by
    refine nw k ok hk hki ?_ hno
    by_cases hjk:j=k
    ·subst hjk;exact ag9
    ·rw[getD_set_ne true hjk]at aha;exact aha
   refine wpOpIn_mono (λa' w' q3=>?_) q2;obtain⟨q3,q4,q5⟩:=q3;rw[Array.setIfInBounds_comm _ _ (Ne.symm YC)]at q4 q5;exact⟨h1 _ _ q4,ih (listed.setIfInBounds j true) a' w' adL (ready_mono hr (Ne.symm YC)) (h3 _ _ hI hr hj YC) q3 (h1 _ _ q4) q5 q4⟩
def Kept(ρ:cd)(alW:Hp)(w:World):Prop:=∃R h F,Sat w R h F/\(cT ρ alW).p R h
theorem qA{l} q(h:kC l=true):kC (l.filter q)=true:=by
 induction l with
 |nil=>rfl
 |cons x r ih=>
  simp only[kC,Bool.and_eq_true,Bool.not_eq_true',List.contains_eq_mem,decide_eq_false_iff_not]at h;rw[List.filter_cons];split
  ·simp only[kC,Bool.and_eq_true,Bool.not_eq_true',List.contains_eq_mem,decide_eq_false_iff_not];exact⟨λhx=>h.1 (List.mem_filter.1 hx).1,ih h.2⟩
  ·exact ih h.2
theorem Kept.sub{ρ:cd}{l m}{w}(hn:kC m=true)(hs:∀x∈m,x∈l):Kept ρ l w->Kept ρ m w:=λ⟨R,h,F,s,p⟩=>⟨R,h,F,s,pJ hn hs p⟩
theorem Lo{tk}{h0}{listed}{i}(hi:tk.getD i []=[]){x}(hx:x∈fX ops tk h0 listed):x∈fX ops tk h0 (listed.setIfInBounds i true):=by
 obtain⟨h1,h2⟩:=List.mem_filter.1 hx;refine List.mem_filter.2 ⟨h1,List.all_eq_true.2 λj hj=>?_⟩;have:=List.all_eq_true.1 h2 j hj
 by_cases D4:i=j
 ·subst D4;rw[hi];simp
 ·rw[getD_set_ne false D4];exact this
theorem td{K}:∀(l:List Nat) {s:S},Ok ρ s a w0 w R h F->(xK ops l s K).den P post L ρ->∃kn,Ok ρ {s with kn:=kn} a w0 w R h F/\(K {s with kn:=kn}).den P post L ρ
 |[],s,ok,hd=>⟨s.kn,ok,hd⟩
 |i::r,s,ok,hd=>by
  simp only[xK]at hd;split at hd
  ·obtain⟨kn,o3,hh⟩:=Fy ok hd;rcases hh with⟨_,hh⟩|⟨_,hh⟩
   ·obtain⟨kn2,Ti,h2⟩:=td r o3 hh;exact⟨kn2,Ti,h2⟩
   ·obtain⟨kn2,Ti,h2⟩:=td r o3 hh;exact⟨kn2,Ti,h2⟩
  ·exact td r ok hd
set_option maxHeartbeats 800000 in
theorem Y5{Fr}(wf:WF Fr)(hg:NG P)(iZ:∀o∈ops,jI o.op=true){K}{tk}{h0}{ρ0:cd}(hn:kC h0=true)(hb:AA ρ0.length h0=true)(QA:Region.noSelect ops=true)(hp:∀c a w,¬Q (.panic c) a w):
 ∀(fuel:Nat) {listed:Array Bool} {ρ:cd} {s:S} {a:Act} {w:World} {R h:PH} {L:List (cd->Prop)},ρ0<+:ρ->(∀x∈fX ops tk h0 listed,x∈s.h)->Ok ρ s a w0 w R h F->L.length=s.dp->(Lc P bt ops tk h0 fuel listed s K).den P post L ρ->
  (∀a w,Nx ⟨P,post,w0,F,ρ,R,L⟩ K a w->Q .normal a w)->qz Fr P ops Q (λl=>Kept ρ0 (fX ops tk h0 l)) fuel listed a w:=by
 have hbf:∀q:Key×C->Bool,AA ρ0.length (h0.filter q)=true:=λq=>List.all_eq_true.2 λx hx=>List.all_eq_true.1 hb x (List.mem_filter.1 hx).1
 have up:∀ {ρ:cd} {w:World} (q:Key×C->Bool),ρ0<+:ρ->(Kept ρ (h0.filter q) w↔Kept ρ0 (h0.filter q) w):=λq hpre=>by
  obtain⟨x,rfl⟩:=hpre;unfold Kept;rw[rL (hbf q)]
 have okk:∀ {ρ:cd} {s:S} {a:Act} {w:World} {R h:PH} {l:Array Bool},ρ0<+:ρ->(∀x∈fX ops tk h0 l,x∈s.h)->Ok ρ s a w0 w R h F->Kept ρ0 (fX ops tk h0 l) w:=λhpre hst ok=>
  (up _ hpre).1 ⟨_,_,_,ok.rO,pJ (qA _ hn) hst ok.hp⟩
 intro fuel
 induction fuel with
 |zero=>
  intro listed ρ s a w R h L hpre hst ok hl hd hQ;simp only[Lc,<-DT]at hd;split at hd
  ·rename_i hr;exact⟨hr,hQ a w (Nx.mk ok hl hd)⟩
  ·exact hd.elim
 |succ fuel ih=>
  intro listed ρ s a w R h L hpre hst ok hl hd hQ;simp only[Lc,<-DT]at hd;split at hd
  ·rename_i hr;exact H8 hr (hQ a w (Nx.mk ok hl hd)) _
  ·rename_i hr
   suffices key:∀ {s:S},(∀x∈fX ops tk h0 listed,x∈s.h)->Ok ρ s a w0 w R h F->L.length=s.dp->(Oh P bt ops tk h0 listed (Region.ready .any ops listed) (λl s=>Lc P bt ops tk h0 fuel l s K) s).den P post L ρ->qz Fr P ops Q (λl=>Kept ρ0 (fX ops tk h0 l)) (fuel+1) listed a w by
    split at hd
    ·exact key hst ok hl hd
    ·obtain⟨kn,o3,C7⟩:=td _ ok hd;exact key (s:={s with kn:=kn}) hst o3 hl C7
   clear hd hst ok hl s;intro s hst ok hl hd;have hS:=okk hpre hst ok;unfold Oh at hd;split at hd
   ·rename_i i o D hf;obtain⟨hi,ho,nw,ahb⟩:=rT hf;simp only[Ho,Bool.and_eq_true,Bool.not_eq_true',decide_eq_true_eq,Nat.blt_eq]at ahb;obtain⟨⟨hDi,A4⟩,hD⟩:=ahb;obtain⟨kn,o3,hh⟩:=xN ok hd
    have De:∀x∈fX ops tk h0 (listed.setIfInBounds i true),x∈s.h:=λx hx=>hst x (by
     obtain⟨q1,q2⟩:=List.mem_filter.1 hx;refine List.mem_filter.2 ⟨q1,List.all_eq_true.2 λj hj=>?_⟩;have:=List.all_eq_true.1 q2 j hj
     by_cases D4:i=j
     ·subst D4;rw[A4];simp
     ·rw[getD_set_ne false D4]at this;exact this)
    have hS':Kept ρ0 (fX ops tk h0 (listed.setIfInBounds i true)) w:=okk hpre De ok
    have a1:∀l w,Kept ρ0 (fX ops tk h0 (l.setIfInBounds i true)) w->Kept ρ0 (fX ops tk h0 l) w:=λl w q=>
     Kept.sub (l:=fX ops tk h0 (l.setIfInBounds i true)) (m:=fX ops tk h0 l) (qA _ hn) (λx hx=>Lo A4 hx) q
    have a2:∀l w,(∀j∈D,l.getD j true=false)->Kept ρ0 (fX ops tk h0 l) w->Kept ρ0 (ot ops tk h0 D) w:=λl w hI q=>
     Kept.sub (l:=fX ops tk h0 l) (m:=ot ops tk h0 D) (qA _ hn) (λx hx=>by
      obtain⟨q1,q2⟩:=List.mem_filter.1 hx;refine List.mem_filter.2 ⟨q1,List.all_eq_true.2 λj hj=>?_⟩;have q3:=List.all_eq_true.1 q2 j hj
      by_cases hjD:j∈D
      ·have:=hI j hjD
       have e:l.getD j false=false:=by
        cases hq:l[j]? with
        |none=>simp[hq]
        |some b=>simp[hq]at this⊢;exact this
       rw[e];rfl
      ·have:D.contains j=false:=by simpa using hjD
       rw[this]at q3;simp only[Bool.false_or]at q3;rw[q3];simp) q
    have a3:∀(l:Array Bool) (j:Nat),(∀j∈D,l.getD j true=false)->i∈Region.ready .any ops l->j∈Region.ready .any ops l->j≠i->(∀k∈D,(l.setIfInBounds j true).getD k true=false):=λl j hI hri hrj YC k hk=>by
     have hne:k≠j:=λe=>by
      subst e;have YD:=List.all_eq_true.1 hD k hk;simp only[Bool.and_eq_true]at YD;obtain⟨_,YD⟩:=YD;obtain⟨_,oj,hoj,hall⟩:=mem_ready.1 hrj;rw[hoj]at YD;simp only[List.any_eq_true,Array.mem_toList_iff]at YD;obtain⟨e,he,YD⟩:=YD;simp only[Bool.and_eq_true,Bool.or_eq_true,beq_iff_eq]at YD;have q:=hall e he YD.1
      have un:l.getD e.on true=false:=by
       rcases YD.2 with e1|e1
       ·rw[e1];exact(mem_ready.1 hri).1
       ·exact hI e.on (by simpa using e1)
      cases hq:l[e.on]? with
      |none=>simp[hq]at un
      |some b=>simp[hq]at un q;rw[un]at q;cases q
     rw[getD_set_ne true (Ne.symm hne)];exact hI k hk
    have a4:∀j∈D,listed.getD j true=false:=λj hj=>by
     have:=List.all_eq_true.1 hD j hj;simp only[Bool.and_eq_true,Bool.not_eq_true']at this;exact this.1
    have take:∀(v:Value),YieldsIf P ops (Kept ρ0 (ot ops tk h0 D)) o v a->qz Fr P ops Q (λl=>Kept ρ0 (fX ops tk h0 l)) fuel (listed.setIfInBounds i true) (a.put o.dst v) w->qz Fr P ops Q (λl=>Kept ρ0 (fX ops tk h0 l)) (fuel+1) listed a w:=λv hy H=>
     FB wf iZ (Sc:=λl=>Kept ρ0 (fX ops tk h0 l)) (Si:=Kept ρ0 (ot ops tk h0 D)) (Inv:=λl=>∀j∈D,l.getD j true=false) ho QA hp a1 a2 a3 fuel listed a w (Region.free_spec ho nw) hi a4 hy hS H hS'
    rcases hh with⟨hw,hh⟩|⟨hw,hh⟩
    ·simp only at hh;split at hh
     ·rename_i es v hpo;obtain⟨kn2,Ti,xM,hk⟩:=Hy o3 hh;have tY:=ih hpre (by cases o.dst<;>exact De) (Ti.put o.dst v) (by rw[oZ];exact hl) hk hQ;refine take (v.den ρ) (.inl ⟨hw,λw' UA=>?_⟩) tY;obtain⟨R1,x1,F1,s1,p1⟩:=(up _ hpre).2 UA;exact AZ hpo o3.tm o3.kn ⟨R1,x1,F1,s1,p1⟩ xM
     ·split at hh
      ·rename_i ar cons r Y6;unfold T0 at Y6;split at Y6
       ·rename_i hc;simp only[Bool.and_eq_true,Bool.not_eq_true']at hc;split at Y6
        ·cases Y6
        ·rename_i ar' har;simp only at Y6;split at Y6
         ·rename_i hb;cases Y6;simp only[Bool.and_eq_true,decide_eq_true_eq]at hb;obtain⟨⟨⟨iZ,hsb⟩,ahc⟩,hrn⟩:=hb;obtain⟨xs,lj,hr,hk⟩:=vG hh;have adH:=HE o3.tm hc.2 har;have k1:=o3.app ahc xs _ (hrn.trans (by rw[lj]));have k2:Ok (ρ++xs) {s with kn:=kn,n:=(DR P bt {s with kn:=kn} o).n,lk:=vD o.op {s with kn:=kn} s.n (DR P bt {s with kn:=kn} o).v++s.lk} a w0 w R h F:=⟨k1.rI,k1.tm,k1.len,k1.kn,k1.hp,k1.rO,k1.same⟩;have tY:=ih (hpre.trans (List.prefix_append ρ xs)) (by cases o.dst<;>exact De) (k2.put o.dst _) (by rw[oZ];exact hl) hk λa'' Ou n=>hQ a'' Ou (n.up (List.prefix_append ρ xs) (PH.le.refl _) (List.suffix_refl _));refine take _ (.inl ⟨hw,λw' UA=>?_⟩) tY;obtain⟨R1,x1,F1,s1,p1⟩:=(up _ hpre).2 UA;rw[adH];exact hr w' R1 x1 F1 s1 (pJ iZ (λx hx=>List.contains_iff_mem.1 (List.all_eq_true.1 hsb x hx)) p1)
         ·cases Y6
       ·cases Y6
      ·exact hh.elim
    ·have tY:=ih hpre (by cases o.dst<;>exact De) (o3.put o.dst (.gY [])) (by rw[oZ];exact hl) hh hQ;exact take undef (.inr ⟨hw,rfl⟩) tY
   ·refine⟨λh0=>absurd h0 hr,λi hi=>?_⟩;have A5:=HZ hd i hi;unfold wpOpIn;split at A5
    ·exact A5.elim
    ·rename_i o ho;rw[ho];simp only;obtain⟨kn,o3,hh⟩:=xN ok A5;rcases hh with⟨hw,hh⟩|⟨hw,hh⟩
     ·rw[aB hw];refine Oper.wpIn_mono (λa' w' n=>?_) (HY wf hg (iZ _ (Array.mem_of_getElem? ho)) o3 (by exact hl) hh);obtain⟨ρ',s',R',h',L',p1,p2,p3,p4,p5,p6⟩:=n;simp only at p6;split at p6
      ·rename_i hc;have De:∀x∈fX ops tk h0 (listed.setIfInBounds i true),x∈s'.h:=λx hx=>by simpa using List.all_eq_true.1 hc x hx
       exact⟨okk (hpre.trans p1) De p5,ih (hpre.trans p1) De p5 p4 p6 λa'' Ou n=>hQ a'' Ou (n.up p1 p2 p3)⟩
      ·exact p6.elim
     ·rw[aq (by rw[hw];simp)]
      have De:∀x∈fX ops tk h0 (listed.setIfInBounds i true),x∈s.h:=λx hx=>hst x (by
       obtain⟨q1,q2⟩:=List.mem_filter.1 hx;refine List.mem_filter.2 ⟨q1,List.all_eq_true.2 λj hj=>?_⟩;have:=List.all_eq_true.1 q2 j hj
       by_cases D4:i=j
       ·subst D4;simp only[Bool.or_eq_true,Bool.not_eq_true']at this⊢
        exact .inl (by
         have:=(mem_ready.1 hi).1;cases hq:listed[i]? with
         |none=>simp[hq]
         |some b=>simp[hq]at this⊢;exact this)
       ·rw[getD_set_ne false D4]at this;exact this)
      exact⟨λf _=>wf.fn f,okk hpre De ok,ih hpre (by cases o.dst<;>exact De) (o3.put o.dst (.gY [])) (by rw[oZ];exact hl) hh hQ⟩
end
section
variable {P:Program}{post:Value->HP}{w0 w:World}{F R h:PH}{ρ:cd}{L:List (cd->Prop)}{s:S}{a:Act}{bt:jo}
theorem QD{v}(h:v.oneCell'=true):eD v=v:=by cases v<;>first|rfl|cases h
theorem Ov{base}{fr}{x y}(h:okA base fr x y=true){ρ ρ2:cd}(hl:ρ.length=base)(hp:ρ<+:ρ2):x.den (ρ++fr.map (FV.den ρ2))=y.den ρ2:=by
 obtain⟨z,rfl⟩:=hp
 have hf:∀ {j:Nat} {f:FV},base<=j->fr[j - base]? =some f->look (ρ++fr.map (FV.den (ρ++z))) j=f.den (ρ++z):=by
  intro j f hj hf
  have:∀(r:cd) (q:List FV) (i:Nat),q[i]? =some f->look (r++q.map (FV.den (ρ++z))) (r.length+i)=f.den (ρ++z):=by
   intro r
   induction r with
   |nil=>
    intro q
    induction q with
    |nil=>intro i hi;cases hi
    |cons u v ih=>intro i hi;cases i with
     |zero=>simp only[List.getElem?_cons_zero,Option.some.injEq]at hi;subst hi;rfl
     |succ i=>simp only[List.length_nil,Nat.zero_add,List.nil_append,List.map_cons,look]at ih⊢;exact ih i (by simpa using hi)
   |cons u v ih=>
    intro q i hi;simp only[List.length_cons,List.cons_append];rw[show v.length+1+i=(v.length+i)+1 by omega];exact ih q i hi
  have:=this ρ fr (j - base) hf
  rwa [hl,show base+(j - base)=j by omega]at this
 unfold okA at h;simp only[Bool.or_eq_true,Bool.and_eq_true,decide_eq_true_eq,Nat.blt_eq]at h;rcases h with⟨rfl,hb⟩|h
 ·rw[<-hl]at hb;rw[A.app hb,A.app hb]
 ·split at h<;>first|(cases h;done)|simp only[Bool.and_eq_true,decide_eq_true_eq,Nat.blt_eq]at h
  ·obtain⟨⟨h1,rfl⟩,h3⟩:=h;simp only[A.den,E.den,hf h1 h3,FV.den,F1.app,pG,Int.neg_neg]
  ·obtain⟨h1,h3⟩:=h;simp only[A.den,E.den,hf h1 h3,FV.den,F1.app,lE,Bool.not_not]
  ·obtain⟨h1,h3⟩:=h;simp only[A.den,E.den,hf h1 h3,FV.den,F2.app,DP,List.append_nil]
  ·obtain⟨⟨h1,rfl⟩,h3⟩:=h;simp only[A.den,BR.den,hf h1 h3,FV.den,rH]
  ·obtain⟨⟨⟨⟨⟨h1,h2⟩,h3⟩,h4⟩,h5⟩,h6⟩:=h;simp only[A.den,SA.den,E.den,hf h1 h4,hf h2 h5,hf h3 h6,FV.den,F2.app,Hf,rH,Nat.add_zero]
  ·obtain⟨h1,h3⟩:=h;simp only[A.den,BR.den,hf h1 h3,FV.den,rH]
  ·obtain⟨h1,h3⟩:=h;show eD (look _ _).val=_;rw[hf h1 h3];exact QD (A.one _ _)
theorem A6{base:Nat}{fr:List FV}:∀ {x y:List A},Ub base fr x y=true->∀ {ρ ρ2:cd},ρ.length=base->ρ<+:ρ2->x.map (A.den (ρ++fr.map (FV.den ρ2)))=y.map (A.den ρ2)
 |[],[],_,_,_,_,_=>rfl
 |x::r,y::q,h,ρ,ρ2,hl,hp=>by
  simp only[Ub,Bool.and_eq_true]at h;simp only[List.map_cons,Ov h.1 hl hp,A6 h.2 hl hp]
 |[],_::_,h,_,_,_,_=>by cases h
 |_::_,[],h,_,_,_,_=>by cases h
theorem Y7{base}{fr}{x y}(h:okW base fr x y=true){ρ ρ2:cd}(hl:ρ.length=base)(hp:ρ<+:ρ2):x.den (ρ++fr.map (FV.den ρ2))=y.den ρ2:=by
 cases x<;>cases y<;>simp only[okW]at h<;>first|(cases h;done)|skip
 ·exact Ov h hl hp
 ·simp only[W.den,A6 h hl hp]
theorem vJ{base:Nat}{fr:List FV}:∀ {x y:List (Option V)},vy base fr x y=true->x.length=y.length
 |[],[],_=>rfl
 |none::r,y::q,h=>by simp only[vy]at h;simp[vJ h]
 |some (.w x)::r,some (.w y)::q,h=>by simp only[vy,Bool.and_eq_true]at h;simp[vJ h.2]
 |some (.gY x)::r,some (.gY y)::q,h=>by simp only[vy,Bool.and_eq_true]at h;simp[vJ h.2]
 |[],_::_,h=>by simp[vy]at h
 |some (.w _)::_,[],h=>by simp[vy]at h
 |some (.gY _)::_,[],h=>by simp[vy]at h
 |none::_,[],h=>by simp[vy]at h
 |some (.w _)::_,none::_,h=>by simp[vy]at h
 |some (.gY _)::_,none::_,h=>by simp[vy]at h
 |some (.w _)::_,some (.gY _)::_,h=>by simp[vy]at h
 |some (.gY _)::_,some (.w _)::_,h=>by simp[vy]at h
theorem Ow{base}{fr}:∀ {x y:List (Option V)},vy base fr x y=true->∀ {ρ ρ2:cd},ρ.length=base->ρ<+:ρ2->∀(i:Nat) (v:V),x[i]? =some (some v)->∃u,y[i]? =some (some u)/\v.den (ρ++fr.map (FV.den ρ2))=u.den ρ2
 |[],_,_,_,_,_,_,i,v,hi=>by simp at hi
 |x::r,[],h,_,_,_,_,_,_,_=>by have:=vJ h;simp at this
 |x::r,y::q,h,ρ,ρ2,hl,hp,0,v,hi=>by
  simp only[List.getElem?_cons_zero,Option.some.injEq]at hi;subst hi;cases y with
  |none=>cases v<;>simp[vy]at h
  |some u=>
   refine⟨u,rfl,?_⟩;cases v<;>cases u<;>simp only[vy,Bool.and_eq_true,decide_eq_true_eq,Nat.blt_eq]at h<;>first|(cases h;done)|skip
   ·exact Y7 h.1 hl hp
   ·obtain⟨⟨rfl,hb⟩,iY⟩:=h;obtain⟨z,rfl⟩:=hp;rename_i q0;have YE:V.fm ρ.length (.gY q0)=true:=by rw[hl];exact hb
    rw[V.app YE,V.app YE]
 |x::r,y::q,h,ρ,ρ2,hl,hp,i+1,v,hi=>by
  simp only[List.getElem?_cons_succ]at hi⊢
  have h':vy base fr r q=true:=by
   cases x with
   |none=>simpa[vy]using h
   |some x=>
    cases y with
    |none=>cases x<;>simp[vy]at h
    |some y=>cases x<;>cases y<;>simp only[vy,Bool.and_eq_true]at h<;>first|(cases h;done)|exact h.2
  exact Ow h' hl hp i v hi
theorem Ox{ρ ρ2:cd}{base}(hl:ρ.length=base){fr:List FV}{j}{f}(hj:base<=j)(hf:fr[j - base]? =some f):look (ρ++fr.map (FV.den ρ2)) j=f.den ρ2:=by
 have:∀(r:cd) (q:List FV) (i:Nat),q[i]? =some f->look (r++q.map (FV.den ρ2)) (r.length+i)=f.den ρ2:=by
  intro r
  induction r with
  |nil=>
   intro q
   induction q with
   |nil=>intro i hi;cases hi
   |cons u v ih=>intro i hi;cases i with
    |zero=>simp only[List.getElem?_cons_zero,Option.some.injEq]at hi;subst hi;rfl
    |succ i=>simp only[List.length_nil,Nat.zero_add,List.nil_append,List.map_cons,look]at ih⊢;exact ih i (by simpa using hi)
  |cons u v ih=>
   intro q i hi;simp only[List.length_cons,List.cons_append];rw[show v.length+1+i=(v.length+i)+1 by omega];exact ih q i hi
 have:=this ρ fr (j - base) hf
 rwa [hl,show base+(j - base)=j by omega]at this
theorem uC{base}{fr}{h0}:∀ {m l:Hp},xL base fr h0 m=some l->∀ {ρ ρ2:cd},ρ.length=base->ρ<+:ρ2->∀ {R h:PH},(cT ρ2 l).p R h->(cT (ρ++fr.map (FV.den ρ2)) m).p R h
 |[],l,_,_,_,_,_,_,_,_=>trivial
 |(k,c)::r,l,e,ρ,ρ2,hl,hp,R,h,H=>by
  simp only[xL]at e;split at e
  ·cases e
  ·rename_i q hq;have ih:∀ {x:PH},(cT ρ2 q).p R x->(cT (ρ++fr.map (FV.den ρ2)) r).p R x:=λhx=>uC hq hl hp hx
   have same:∀x:Key×C,(x.1.fm base&&x.2.fm base)=true->jH (ρ++fr.map (FV.den ρ2)) x=jH ρ2 x:=λx hb=>by
    obtain⟨z,rfl⟩:=hp;rw[<-hl]at hb;rw[AQ hb,AQ hb]
   split at e
   ·rename_i x ty;split at e
    ·rename_i y hy;cases e;have hs:=List.find?_some hy;simp only[Bool.and_eq_true]at hs;obtain⟨⟨hB,hk⟩,hc⟩:=hs;have H1:=(co ρ2 y q R h).1 H;refine(co _ _ _ _ _).2 (ae H1 (λ_ hh=>?_) λ_ hh=>ih hh);obtain⟨yk,yc⟩:=y;cases yc with
     |cells z ty'=>
      simp only[Bool.and_eq_true,decide_eq_true_eq,Nat.blt_eq]at hc;obtain⟨hz,rfl⟩:=hc;cases k with
      |a j=>cases hB
      |b rr=>
       cases yk with
       |a j=>cases rr<;>simp[okK]at hk
       |b rr'=>
        simp only[jH]at hh⊢;rw[A6 hz hl hp]
        have:rr.den (ρ++fr.map (FV.den ρ2))=rr'.den ρ2:=by
         cases rr with
         |g n=>simp only[okK,decide_eq_true_eq,Nat.blt_eq]at hk;subst hk;rfl
         |v j=>
          simp only[okK]at hk;split at hk
          ·rename_i hj;have A7:fr[j - base]? =some (.n rr'):=by simpa using hk
           simp only[BR.den,Ox hl hj A7,FV.den,rH]
          ·rename_i hj;have A7:rr'=.v j:=by simpa using hk
           subst A7;obtain⟨z',rfl⟩:=hp;have hb:BR.fm ρ.length (.v j)=true:=by simp[BR.fm];omega
           rw[BR.app hb,BR.app hb]
        rw[this];exact hh
     |vB=>simp at hc
     |rI=>simp at hc
     |prop j=>simp at hc
    ·cases e
   ·split at e
    ·rename_i hc;cases e;simp only[Bool.and_eq_true]at hc;have H1:=(co ρ2 _ q R h).1 H;refine(co _ _ _ _ _).2 (ae H1 (λ_ hh=>?_) λ_ hh=>ih hh);rw[same _ (by simp[hc.1,C.fm])];exact hh
    ·cases e
   ·split at e
    ·rename_i hc;cases e;simp only[Bool.and_eq_true]at hc;have H1:=(co ρ2 _ q R h).1 H;refine(co _ _ _ _ _).2 (ae H1 (λ_ hh=>?_) λ_ hh=>ih hh);rw[same _ (by simp[hc.1,C.fm])];exact hh
    ·cases e
   ·rename_i j;split at e
    ·rename_i hj;split at e
     ·rename_i f q' hf;cases e;have H1:=pI.1 H;refine(co _ _ _ _ _).2 (ae H1 (λ_ hh=>?_) λ_ hh=>ih hh)
      have:jH (ρ++fr.map (FV.den ρ2)) (k,.prop j)=cT ρ2 q':=by
       cases k<;>simp only[jH,Ox hl hj hf,FV.den,TF]
      rw[this];exact hh
     ·cases e
    ·rename_i hj;split at e
     ·rename_i hc;cases e;simp only[Bool.and_eq_true]at hc;have H1:=(co ρ2 _ q R h).1 H;refine(co _ _ _ _ _).2 (ae H1 (λ_ hh=>?_) λ_ hh=>ih hh);rw[same _ (by simp[hc.1,C.fm];omega)];exact hh
     ·cases e
theorem Lp{hd}{ss}{fr}{ρ ρ2:cd}{s}{base}(hl:ρ.length=base)(c:Hu base ss hd s fr=true)(hp:ρ<+:ρ2)(ok:Ok ρ2 s a w0 w R h F)(hkn:∀x∈hd.kn,(x.1.den ρ).bool=x.2):Ok (ρ++fr.map (FV.den ρ2)) hd a w0 w R h F:=by
 subst hl;simp only[Hu,Bool.and_eq_true,decide_eq_true_eq,Nat.blt_eq]at c;obtain⟨⟨⟨⟨⟨⟨c1,c2⟩,c3⟩,c4⟩,c5⟩,c6⟩,c7,c8⟩:=c;refine⟨?_,⟨by rw[ok.tm.1,vJ c1],λi v hi=>?_⟩,by simp[c4,c5],λx hx=>?_,?_,ok.rO,ok.same⟩
 ·rw[ok.rI,<-c7];obtain⟨z,rfl⟩:=hp;exact List.map_congr_left λr hr=>by unfold rN;rw[BR.app (List.all_eq_true.1 c8 r hr),BR.app (List.all_eq_true.1 c8 r hr)]
 ·obtain⟨u,hu,he⟩:=Ow c1 rfl hp i v hi;rw[he];exact ok.tm.2 i u hu
 ·rw[E.app (List.all_eq_true.1 c6 x hx)];exact hkn x hx
 ·split at c2
  ·rename_i l hl;simp only[Bool.and_eq_true]at c2;exact uC hl rfl hp (pJ c2.1 (λx hx=>by simpa using List.all_eq_true.1 c2.2 x hx) ok.hp)
  ·cases c2
def sorted:List So->cd->Prop
 |[],[]=>True
 | .n::r,.n _::x=>sorted r x
 | .i::r,.i _::x=>sorted r x
 | .c::r,.c _::x=>sorted r x
 | .s::r,.s _::x=>sorted r x
 | .a::r,.a _::x=>sorted r x
 | .v::r,.v _::x=>sorted r x
 | .p::r,.p _::x=>sorted r x
 |_,_=>False
theorem lG:∀ {ss:List So} {ρ:cd} {f:cd->Prop} {xs:cd},rv ss ρ f->sorted ss xs->f (ρ++xs)
 |[],ρ,f,[],h,_=>by simpa[rv]using h
 |[],_,_,_::_,_,hs=>by simp[sorted]at hs
 |t::r,ρ,f,[],_,hs=>by cases t<;>simp[sorted]at hs
 | .n::r,ρ,f,.n x::xs,h,hs| .i::r,ρ,f,.i x::xs,h,hs| .c::r,ρ,f,.c x::xs,h,hs| .s::r,ρ,f,.s x::xs,h,hs| .a::r,ρ,f,.a x::xs,h,hs| .v::r,ρ,f,.v x::xs,h,hs| .p::r,ρ,f,.p x::xs,h,hs=>by
   have:=lG (h x) hs;simpa using this
 | .n::_,_,_,.i _::_,_,hs| .n::_,_,_,.c _::_,_,hs| .n::_,_,_,.s _::_,_,hs| .n::_,_,_,.a _::_,_,hs| .n::_,_,_,.v _::_,_,hs| .n::_,_,_,.p _::_,_,hs
 | .i::_,_,_,.n _::_,_,hs| .i::_,_,_,.c _::_,_,hs| .i::_,_,_,.s _::_,_,hs| .i::_,_,_,.a _::_,_,hs| .i::_,_,_,.v _::_,_,hs| .i::_,_,_,.p _::_,_,hs
 | .c::_,_,_,.n _::_,_,hs| .c::_,_,_,.i _::_,_,hs| .c::_,_,_,.s _::_,_,hs| .c::_,_,_,.a _::_,_,hs| .c::_,_,_,.v _::_,_,hs| .c::_,_,_,.p _::_,_,hs
 | .s::_,_,_,.n _::_,_,hs| .s::_,_,_,.i _::_,_,hs| .s::_,_,_,.c _::_,_,hs| .s::_,_,_,.a _::_,_,hs| .s::_,_,_,.v _::_,_,hs| .s::_,_,_,.p _::_,_,hs
 | .a::_,_,_,.n _::_,_,hs| .a::_,_,_,.i _::_,_,hs| .a::_,_,_,.c _::_,_,hs| .a::_,_,_,.s _::_,_,hs| .a::_,_,_,.v _::_,_,hs| .a::_,_,_,.p _::_,_,hs
 | .v::_,_,_,.n _::_,_,hs| .v::_,_,_,.i _::_,_,hs| .v::_,_,_,.c _::_,_,hs| .v::_,_,_,.s _::_,_,hs| .v::_,_,_,.a _::_,_,hs| .v::_,_,_,.p _::_,_,hs
 | .p::_,_,_,.n _::_,_,hs| .p::_,_,_,.i _::_,_,hs| .p::_,_,_,.c _::_,_,hs| .p::_,_,_,.s _::_,_,hs| .p::_,_,_,.a _::_,_,hs| .p::_,_,_,.v _::_,_,hs=>by simp[sorted]at hs
theorem adP{ρ:cd} f{ss}{xs}(h:(FV.so f).length=1)(hs:sorted ss xs):sorted (FV.so f++ss) (f.den ρ::xs):=by
 unfold FV.so at h⊢;split at h<;>simp at h<;>simpa[FV.den,E.den,F1.app,F2.app,sorted]using hs
theorem D5(ρ:cd):∀ {fr:List FV} {ss:List So},fr.flatMap FV.so=ss->fr.length=ss.length->sorted ss (fr.map (FV.den ρ))
 |[],ss,h,_=>by simp at h;subst h;trivial
 |f::r,ss,h,hl=>by
  have hlen:∀q:List FV,(q.flatMap FV.so).length<=q.length:=λq=>by
   induction q with
   |nil=>simp
   |cons g t ih=>
    simp only[List.flatMap_cons,List.length_append,List.length_cons];have:(FV.so g).length<=1:=by unfold FV.so;split<;>simp
    omega
  have h1:(FV.so f).length=1:=by
   have:=hlen r;subst h;simp only[List.flatMap_cons,List.length_append,List.length_cons]at hl;have:(FV.so f).length<=1:=by unfold FV.so;split<;>simp
   omega
  subst h
  have hr:r.length=(r.flatMap FV.so).length:=by
   simp only[List.flatMap_cons,List.length_append,List.length_cons]at hl;omega
  have ih:=D5 ρ (fr:=r) rfl hr;simp only[List.flatMap_cons,List.map_cons];exact adP f h1 ih
end
end RX
end Go.Proofs.YtchjlaebbhpioaaGreatDoor
