/- Texts of this claim, joined. No condition. -/
import Derived.Test.YtchjlaebbhpioaaGreatDoorCFJ1
import Derived.Laws.MakeOwn
import Derived.KernelRfl
import Derived.Lib.AppendZeros
set_option linter.unusedSimpArgs false
set_option linter.unusedVariables false
namespace Go.Proofs.YtchjlaebbhpioaaGreatDoor
open HP (aE aA aj tt aD ai au ae aC ak aW ah Az)
open _root_.Go.Proofs.Tryz (prog)
set_option maxRecDepth 100000
section
open RX
def pX(s:gj):gj:={s with cells:=λk=>if k<s.low then none else s.cells k}
theorem Br ub bd mc mi D I s lc cc:
 az prog 49 #[pt ub] (aj (gJ ub bd mc mi s) (aj D (aj (aH bJ iE mc s.cells lc cc) I)))
 (λv=>aA (v=cE) (aj (gJ ub bd mc mi s) (aj D (aj (gI bJ iE mc (pX s).cells) I)))):=by
 refine be (ρ:=[.n ub,.n bd,.p D,.i s.aI,.i s.low,.i s.top,.n mc,.p (aH bJ iE mc s.cells lc cc),.n mi,.p I]) {iS:=[130,194],aF:=eF,bU:=[(105,[0])]} vY nB 10 ?_;intro bx;refine(Zr bx ub bd mc mi D I s lc cc).wk ?_;rintro v R h ⟨rfl,H⟩;exact⟨_,rfl,.of λR h H=>⟨trivial,H⟩,H⟩
def o8(r:ax×Bool):Bool:= !(r.2|| !r.1.isEmpty)
theorem nh{r:ax×Bool}(h:¬(if r.2=true\/r.1≠[]then(3:Int)else 0)=0):o8 r=false:=by
 obtain⟨l,w⟩:=r;cases w<;>cases l<;>simp_all [o8]
theorem lK{r:ax×Bool}(h:(if r.2=true\/r.1≠[]then(3:Int)else 0)=0):o8 r=true:=by
 obtain⟨l,w⟩:=r;cases w<;>cases l<;>simp_all [o8]
theorem Bs s bC:(cJ s bC).1.length<=140737488355328:=by
 have h1:=tf (bB s bC).2 (bB s bC).1
 have h2:(bB s bC).1<=4294967296:=by
  have:=mX s 4;unfold bB;split
  ·exact Nat.zero_le _
  ·split
   ·exact Nat.zero_le _
   ·simp only;omega
 unfold cJ;omega
def cm(s:gj)(b:ax):Option gj:=
 let k:=bg (b,false) 1
 let n:=ct (bg k.2 8).1
 let r:=(bg k.2 8).2
 match k.1 with
 |1=>let d:=cJ r 65536
  if o8 d.2&&nD n then some {s with cells:=g7 s.cells n (some ⟨1,d.1⟩),top:=max s.top (n+1)}else none
 |2=>if o8 r&&nD n then some {s with cells:=g7 s.cells n (some ⟨2,[]⟩),top:=max s.top (n+1)}else none
 |3=>if o8 r&&nD n then some {s with low:=n}else none
 |4=>if o8 r&&zg n then some {s with aI:=n}else none
 |5=>let a:=bg r 8
  let c:=bg a.2 8
  if o8 c.2&&nC n (ct a.1) (ct c.1)then some (r7 s n (ct a.1) (ct c.1))else none
 |6=>let a:=bg r 8
  let c:=bg a.2 8
  let d:=cJ c.2 1000
  if o8 d.2&&nC n (ct a.1) (ct c.1)then some (Bp s n (ct a.1) (ct c.1) d.1)else none
 |_=>none
theorem LN ub bd mc mi(D:HP)(s:gj)(lc:AL Int)(cc:Nat)(li:AL Int)(ci:Nat)(a:aG)(n c:Nat)(l:ax)(S:HP)(hr:bX S a n (l.map eX))(hl:l.length=n)(hb:n<=140737488355328):
 az prog 48 #[pt ub,.slice a n c] (aj (gJ ub bd mc mi s) (aj D (aj (aH bJ iE mc s.cells lc cc) (aj (aH bT iE mi s.inst li ci) S))))
 (λv=>aA (v=.bool (cm s l).isSome) (aj (gJ ub bd mc mi ((cm s l).getD s)) (aj D (aj (gI bJ iE mc ((cm s l).getD s).cells) (aj (gI bT iE mi ((cm s l).getD s).inst) S))))):=by
 refine be (ρ:=[.n ub,.n bd,.p D,.i s.aI,.i s.low,.i s.top,.n mc,.p (aH bJ iE mc s.cells lc cc),.n mi,.p (aH bT iE mi s.inst li ci),.a a,.n n,.n c,.p S]) {iS:=[130,194],aF:=eF,bU:=[(105,[0])]} [(.ptr 0 0),(.s 10)] OH 14 ?_;refine(pS a n c l S hr hl hb).wk ?_;rintro v R h ⟨rb,rfl,H⟩;refine⟨rb,_,S,rfl,?_,ak H⟩;refine(mj rb (l,false)).wk ?_;rintro v R h ⟨rfl,H⟩;refine⟨_,_,rfl,?_,H⟩;refine(mW rb _).wk ?_;rintro v R h ⟨rfl,H⟩;refine⟨_,_,rfl,?_,H⟩;clear H;have hk:(bg (l,false) 1).1<256:=by simpa using mX (l,false) 1
 have fail:cm s l=none->HP.aT (aj (gJ ub bd mc mi s) (aj D (aj (aH bJ iE mc s.cells lc cc) (aj (aH bT iE mi s.inst li ci) S)))) (aA (Value.bool false=Value.bool (cm s l).isSome) (aj (gJ ub bd mc mi ((cm s l).getD s)) (aj D (aj (gI bJ iE mc ((cm s l).getD s).cells) (aj (gI bT iE mi ((cm s l).getD s).inst) S))))):=λe=>by
  rw[e];exact .of λR h H=>⟨rfl,ae H (λ_ h=>h) λy hy=>ae hy (λ_ h=>h) λz hz=>ae hz (λq hq=>⟨_,_,hq⟩) λu hu=>ae hu (λq hq=>⟨_,_,hq⟩) λ_ h=>h⟩
 generalize Ac:(bg (l,false) 1).1=k at hk;have amD:k%256=k:=Nat.mod_eq_of_lt hk;rw[amD];refine⟨λh1=>?_,λh1=>⟨λh2=>?_,λh2=>⟨λh3=>?_,λh3=>⟨λh4=>?_,λh4=>⟨λh5=>?_,λh5=>⟨λh6=>?_,λh6=>?_⟩⟩⟩⟩⟩⟩
 ·have Ha:k=1:=by omega
  subst Ha;refine(j7 rb _ 65536).wk ?_;rintro v R h ⟨da,dc,rfl,H⟩;refine⟨da,_,dc,dS da _ dc _,_,rfl,λy=>?_,ak H⟩;refine(lV rb _).wk ?_;rintro v R h ⟨rfl,H⟩;refine⟨_,_,rfl,⟨λhe=>fail ?_,λhe=>?_⟩,H⟩
  ·simp only[cm,Ac,nh he];rfl
  ·refine(v7 _).wk ?_;rintro v R h ⟨rfl,H⟩;refine⟨_,rfl,⟨λha=>fail ?_,λha=>?_⟩,H⟩
   ·simp only[cm,Ac];rw[aq (by simp[ha])]
   ·have e:cm s l=some {s with cells:=g7 s.cells (ct (bg (bg (l,false) 1).2 8).1) (some ⟨1,(cJ (bg (bg (l,false) 1).2 8).2 65536).1⟩),top:=max s.top (ct (bg (bg (l,false) 1).2 8).1+1)}:=by
     simp only[cm,Ac];rw[aB (by rw[lK he,ha];rfl)]
    rw[e];refine(FP ub bd mc mi D (aH bT iE mi s.inst li ci) s lc cc _ 1 da _ dc (cJ (bg (bg (l,false) 1).2 8).2 65536).1 _ (ow _ 1 _ _ _ _) rfl (Bs _ _) ha).wk ?_;rintro v R h ⟨rfl,H⟩;refine⟨bd,D,s.aI,s.low,_,mc,_,mi,aH bT iE mi s.inst li ci,_,rfl,.of λR h H=>⟨rfl,?_⟩,H⟩;exact ae H (λ_ h=>h) λy hy=>ae hy (λ_ h=>h) λz hz=>ae hz (λ_ h=>h) λu hu=>ae hu (λq hq=>⟨_,_,hq⟩) λ_ h=>h
 ·have Ed:k=2:=by omega
  subst Ed;refine(lV rb _).wk ?_;rintro v R h ⟨rfl,H⟩;refine⟨_,_,rfl,⟨λhe=>fail ?_,λhe=>?_⟩,H⟩
  ·simp only[cm,Ac,nh he];rfl
  ·refine(v7 _).wk ?_;rintro v R h ⟨rfl,H⟩;refine⟨_,rfl,⟨λha=>fail ?_,λha=>?_⟩,H⟩
   ·simp only[cm,Ac];rw[aq (by simp[ha])]
   ·have e:cm s l=some {s with cells:=g7 s.cells (ct (bg (bg (l,false) 1).2 8).1) (some ⟨2,[]⟩),top:=max s.top (ct (bg (bg (l,false) 1).2 8).1+1)}:=by
     simp only[cm,Ac];rw[aB (by rw[lK he,ha];rfl)]
    rw[e];refine(FP ub bd mc mi D (aH bT iE mi s.inst li ci) s lc cc _ 2 none 0 0 [] tt ⟨λ_ _ _ _ _ _ _ _ hj=>by simp at hj,λ_ _ _ _=>rfl⟩ rfl (by omega) ha).aK (λR h H=>ae H (λ_ h=>h) λy hy=>ae hy (λ_ h=>h) λz hz=>ae hz (λ_ h=>h) λq hq=>aD hq) ?_;rintro v R h ⟨rfl,H⟩;refine⟨bd,D,s.aI,s.low,_,mc,_,mi,aH bT iE mi s.inst li ci,rfl,.of λR h H=>⟨rfl,?_⟩,ae H (λ_ h=>h) λy hy=>ae hy (λ_ h=>h) λz hz=>ae hz (λ_ h=>h) λq hq=>ai hq⟩;exact ae H (λ_ h=>h) λy hy=>ae hy (λ_ h=>h) λz hz=>ae hz (λ_ h=>h) λu hu=>ae hu (λq hq=>⟨_,_,hq⟩) λ_ h=>h
 ·have ON:k=3:=by omega
  subst ON;refine(lV rb _).wk ?_;rintro v R h ⟨rfl,H⟩;refine⟨_,_,rfl,⟨λhe=>fail ?_,λhe=>?_⟩,H⟩
  ·simp only[cm,Ac,nh he];rfl
  ·refine(v7 _).wk ?_;rintro v R h ⟨rfl,H⟩;refine⟨_,rfl,⟨λha=>fail ?_,λha=>?_⟩,H⟩
   ·simp only[cm,Ac];rw[aq (by simp[ha])]
   ·have e:cm s l=some {s with low:=ct (bg (bg (l,false) 1).2 8).1}:=by
     simp only[cm,Ac];rw[aB (by rw[lK he,ha];rfl)]
    rw[e];exact .of λR h H=>⟨rfl,ae H (λ_ h=>h) λy hy=>ae hy (λ_ h=>h) λz hz=>ae hz (λq hq=>⟨_,_,hq⟩) λu hu=>ae hu (λq hq=>⟨_,_,hq⟩) λ_ h=>h⟩
 ·have ON:k=4:=by omega
  subst ON;refine(lV rb _).wk ?_;rintro v R h ⟨rfl,H⟩;refine⟨_,_,rfl,⟨λhe=>fail ?_,λhe=>?_⟩,H⟩
  ·simp only[cm,Ac,nh he];rfl
  ·refine(FL _).wk ?_;rintro v R h ⟨rfl,H⟩;refine⟨_,rfl,⟨λha=>fail ?_,λha=>?_⟩,H⟩
   ·simp only[cm,Ac];rw[aq (by simp[ha])]
   ·have e:cm s l=some {s with aI:=ct (bg (bg (l,false) 1).2 8).1}:=by
     simp only[cm,Ac];rw[aB (by rw[lK he,ha];rfl)]
    rw[e];exact .of λR h H=>⟨rfl,ae H (λ_ h=>h) λy hy=>ae hy (λ_ h=>h) λz hz=>ae hz (λq hq=>⟨_,_,hq⟩) λu hu=>ae hu (λq hq=>⟨_,_,hq⟩) λ_ h=>h⟩
 ·have hk5:k=5:=by omega
  subst hk5;refine(mW rb _).wk ?_;rintro v R h ⟨rfl,H⟩;refine⟨_,_,rfl,?_,H⟩;refine(mW rb _).wk ?_;rintro v R h ⟨rfl,H⟩;refine⟨_,_,rfl,λy=>?_,H⟩;refine(lV rb _).wk ?_;rintro v R h ⟨rfl,H⟩;refine⟨_,_,rfl,⟨λhe=>fail ?_,λhe=>?_⟩,H⟩
  ·simp only[cm,Ac,nh he];rfl
  ·refine(v6 _ _ _).wk ?_;rintro v R h ⟨rfl,H⟩;refine⟨_,rfl,⟨λha=>fail ?_,λha=>?_⟩,H⟩
   ·simp only[cm,Ac];rw[aq (by simp[ha])]
   ·have e:cm s l=some (r7 s (ct (bg (bg (l,false) 1).2 8).1) (ct (bg (bg (bg (l,false) 1).2 8).2 8).1) (ct (bg (bg (bg (bg (l,false) 1).2 8).2 8).2 8).1)):=by
     simp only[cm,Ac];rw[aB (by rw[lK he,ha];rfl)]
    rw[e];refine(IE ub bd mc mi D (aH bJ iE mc s.cells lc cc) s li ci _ _ _).wk ?_;rintro v R h ⟨rfl,H⟩;refine⟨bd,D,s.aI,s.low,s.top,mc,aH bJ iE mc s.cells lc cc,mi,_,rfl,.of λR h H=>⟨rfl,?_⟩,H⟩;exact ae H (λ_ h=>h) λy hy=>ae hy (λ_ h=>h) λz hz=>ae hz (λq hq=>⟨_,_,hq⟩) λ_ h=>h
 ·have hk6:k=6:=by omega
  subst hk6;refine(mW rb _).wk ?_;rintro v R h ⟨rfl,H⟩;refine⟨_,_,rfl,?_,H⟩;refine(mW rb _).wk ?_;rintro v R h ⟨rfl,H⟩;refine⟨_,_,rfl,λy=>?_,H⟩;refine(j7 rb _ 1000).wk ?_;rintro v R h ⟨da,dc,rfl,H⟩;refine⟨da,_,dc,dS da _ dc _,_,rfl,?_,ak H⟩;refine(lV rb _).wk ?_;rintro v R h ⟨rfl,H⟩;refine⟨_,_,rfl,⟨λhe=>fail ?_,λhe=>?_⟩,H⟩
  ·simp only[cm,Ac,nh he];rfl
  ·refine(v6 _ _ _).wk ?_;rintro v R h ⟨rfl,H⟩;refine⟨_,rfl,⟨λha=>fail ?_,λha=>?_⟩,H⟩
   ·simp only[cm,Ac];rw[aq (by simp[ha])]
   ·have e:cm s l=some (Bp s (ct (bg (bg (l,false) 1).2 8).1) (ct (bg (bg (bg (l,false) 1).2 8).2 8).1) (ct (bg (bg (bg (bg (l,false) 1).2 8).2 8).2 8).1) (cJ (bg (bg (bg (bg (l,false) 1).2 8).2 8).2 8).2 1000).1):=by
     simp only[cm,Ac];rw[aB (by rw[lK he,ha];rfl)]
    rw[e];refine(OL ub bd mc mi D (aH bJ iE mc s.cells lc cc) s li ci _ _ _ da _ dc _ _ (ow _ 1 _ _ _ _) rfl (Bs _ _)).wk ?_;rintro v R h ⟨rfl,H⟩;refine⟨bd,D,s.aI,s.low,s.top,mc,aH bJ iE mc s.cells lc cc,mi,_,_,rfl,.of λR h H=>⟨rfl,?_⟩,H⟩;exact ae H (λ_ h=>h) λy hy=>ae hy (λ_ h=>h) λz hz=>ae hz (λq hq=>⟨_,_,hq⟩) λ_ h=>h
 ·refine fail ?_;simp only[cm,Ac];split<;>first|rfl|omega
def eS(s:gj)(aI at':Int):fF×Int:=
 if je s aI at'≠0 then(⟨0,[]⟩,je s aI at')
 else if at'<s.low then(⟨0,[]⟩,11)
 else match s.cells at' with
  |some x=>(x,0)
  |none=>(⟨0,[]⟩,9)
theorem U7 ub bd D s aI at':
 az prog 131 #[pt ub,an aI,an at'] (fz ub bd D s)
 (λv=>aE λa=>aE λc=>aA (v=.tuple #[.agg #[an (eS s aI at').1.what,.slice a (eS s aI at').1.data.length c],an (eS s aI at').2]) (aj (fz ub bd D s) (bE a (eS s aI at').1.data.length (eS s aI at').1.data))):=by
 refine fz.qD λmc mi lc cc li ci=>?_;refine be (ρ:=[.n ub,.n bd,.p D,.i s.aI,.i s.low,.i s.top,.n mc,.p (aH bJ iE mc s.cells lc cc),.n mi,.p (aH bT iE mi s.inst li ci),.i aI,.i at']) {iS:=[130,194],aF:=eF,bU:=[(105,[0])]} FK nB 12 ?_;intro x;refine(qH ub bd mc mi D _ _ s aI at').wk ?_;rintro v R h ⟨rfl,H⟩;refine⟨_,rfl,⟨λh1=>.of λR h H=>?_,λh1=>⟨λh2=>.of λR h H=>?_,λh2=>?_⟩⟩,H⟩
 ·have e:eS s aI at'=(⟨0,[]⟩,je s aI at'):=aB h1;rw[e];exact⟨none,0,rfl,j6 (bN.nil _ _ R h) (fz.FN H)⟩
 ·have e:eS s aI at'=(⟨0,[]⟩,11):=by unfold eS;rw[aq (by simpa using h1),aB h2]
  rw[e];exact⟨none,0,rfl,j6 (bN.nil _ _ R h) (fz.FN H)⟩
 ·refine(ID ub bd mc mi D (aH bT iE mi s.inst li ci) s lc cc at').wk ?_;rintro v R h ⟨a,c,rfl,H⟩;have hu:(fz ub bd D s).p R h->True:=λ_=>trivial;refine⟨_,a,_,c,bE a ((s.cells at').getD ⟨0,[]⟩).data.length ((s.cells at').getD ⟨0,[]⟩).data,_,rfl,λy=>⟨λhno=>.of λR h H=>?_,λLO=>.of λR h H=>?_⟩,H⟩
  ·have hc:s.cells at'=none:=by simpa using hno
   have e:eS s aI at'=(⟨0,[]⟩,9):=by unfold eS;rw[aq (by simpa using h1),aq h2,hc]
   rw[e];exact⟨none,0,rfl,j6 (bN.nil _ _ R h) (fz.FN H)⟩
  ·obtain⟨z,hz⟩:=Option.isSome_iff_exists.1 LO;have e:eS s aI at'=(z,0):=by unfold eS;rw[aq (by simpa using h1),aq h2,hz]
   rw[e];rw[hz]at H⊢;refine⟨a,c,rfl,j6 (ah (ah (ah (ah H)))) (fz.FN (ae H (λ_ h=>h) λy hy=>ae hy (λ_ h=>h) λu hu=>ae hu (λ_ h=>h) λq hq=>ai hq))⟩
def UD(ub bd:Nat)(room:Int)(s:gj)(ps:List Pg):HP:=fz ub bd (eE bd room ps ps.length) s
def pY(room:Int)(s:gj)(ps:List Pg)(l:ax)(s':gj):Int×gj×List Pg:=if room=ps.length then(4,s,ps)else(0,s',ps++[⟨1,l⟩])
def ly(room:Int)(s:gj)(ps:List Pg)(aI low:Int):Int×gj×List Pg:=
 if je s aI low≠0 then(je s aI low,s,ps)
 else if low<=s.low then(0,s,ps)
 else pY room s ps (bz 3 [low]) (pX {s with low:=low})
theorem Bt room ps l:(if(mL room ps ⟨1,l⟩).1=0 then(mL room ps ⟨1,l⟩).2.length else ps.length)=(mL room ps ⟨1,l⟩).2.length:=by
 unfold mL;split<;>simp
theorem U8 ub bd room s ps(aI low:Int):
 az prog 133 #[pt ub,an aI,an low] (UD ub bd room s ps)
 (λv=>aA (v=an (ly room s ps aI low).1) (UD ub bd room (ly room s ps aI low).2.1 (ly room s ps aI low).2.2)):=by
 refine fz.qD λmc mi lc cc li ci=>?_;refine be (ρ:=[.n ub,.n bd,.p (eE bd room ps ps.length),.i s.aI,.i s.low,.i s.top,.n mc,.p (aH bJ iE mc s.cells lc cc),.n mi,.p (aH bT iE mi s.inst li ci),.i aI,.i low]) {iS:=[130,194],aF:=eF,bU:=[(105,[0])]} FK nB 12 ?_;refine(qH ub bd mc mi _ _ _ s aI low).wk ?_;rintro v R h ⟨rfl,H⟩;refine⟨_,rfl,⟨λh1=>.of λR h H=>?_,λh1=>⟨λh2=>.of λR h H=>?_,λh2 y=>?_⟩⟩,H⟩
 ·have e:ly room s ps aI low=(je s aI low,s,ps):=aB h1;rw[e];exact⟨rfl,fz.FN H⟩
 ·have e:ly room s ps aI low=(0,s,ps):=by unfold ly;rw[aq (by simpa using h1),aB h2]
  rw[e];exact⟨rfl,fz.FN H⟩
 ·have e:ly room s ps aI low=pY room s ps (bz 3 [low]) (pX {s with low:=low}):=by unfold ly;rw[aq (by simpa using h1),aq h2]
  rw[e];refine(pT 3 (some ⟨y,0,none⟩) 1 1 [low] _ (eQ y #[an low] _) rfl (λ_=>rfl) (by omega)).wk ?_;rintro v R h ⟨b,rfl,H⟩;refine⟨b,dE b (bz 3 [low]),low,rfl,?_,ak H⟩;refine(kF b (bz 3 [low]) (by rw[eH];simp)).wk ?_;rintro v R h ⟨a',c',rfl,H⟩;refine⟨a',_,c',dS a' (bz 3 [low]).length c' (bz 3 [low]),_,rfl,?_,ak H⟩;refine(IC ub bd mc mi room ps ps.length _ _ s a' _ c' (bz 3 [low]) _ (ow _ 1 _ _ _ _) rfl (by rw[eH];simp)).wk ?_;rintro v R h ⟨rfl,H⟩;rw[Bt]at H
  by_cases hf:room=ps.length
  ·have e1:mL room ps ⟨1,bz 3 [low]⟩=(4,ps):=aB hf;have e2:∀s',pY room s ps (bz 3 [low]) s'=(4,s,ps):=λ_=>aB hf;rw[e1]at H⊢;rw[e2];exact⟨4,bd,eE bd room ps ps.length,s.aI,s.low,s.top,mc,aH bJ iE mc s.cells lc cc,mi,aH bT iE mi s.inst li ci,_,rfl,⟨λ_=>.of λR h H=>⟨rfl,fz.FN H⟩,λh=>absurd h (by decide)⟩,H⟩
  ·have e1:mL room ps ⟨1,bz 3 [low]⟩=(0,ps++[(⟨1,bz 3 [low]⟩:Pg)]):=aq hf;have e2:∀s',pY room s ps (bz 3 [low]) s'=(0,s',ps++[(⟨1,bz 3 [low]⟩:Pg)]):=λ_=>aq hf;rw[e1]at H⊢;rw[e2];dsimp only at H⊢;refine⟨0,bd,eE bd room (ps++[(⟨1,bz 3 [low]⟩:Pg)]) (ps++[(⟨1,bz 3 [low]⟩:Pg)]).length,s.aI,s.low,s.top,mc,aH bJ iE mc s.cells lc cc,mi,aH bT iE mi s.inst li ci,dS a' (bz 3 [low]).length c' (bz 3 [low]),?_⟩;refine And.intro rfl (And.intro ?_ H);refine⟨λh=>(h rfl).elim,λ_=>?_⟩;refine(Br ub bd mc mi _ (aH bT iE mi s.inst li ci) {s with low:=low} lc cc).wk ?_;rintro v R h ⟨rfl,H⟩;refine⟨bd,eE bd room (ps++[(⟨1,bz 3 [low]⟩:Pg)]) (ps++[(⟨1,bz 3 [low]⟩:Pg)]).length,s.aI,low,s.top,mc,gI bJ iE mc (pX {s with low:=low}).cells,mi,aH bT iE mi s.inst li ci,rfl,.of λR h H=>⟨rfl,?_⟩,H⟩;show(fz ub bd (eE bd room (ps++[(⟨1,bz 3 [low]⟩:Pg)]) (ps++[(⟨1,bz 3 [low]⟩:Pg)]).length) (pX {s with low:=low})).p R h;refine fz.of (mc:=mc) (mi:=mi) (ae H (λ_ h=>h) λy hy=>ae hy (λ_ h=>h) λz hz=>ae hz (λ_ h=>h) λq hq=>?_);exact⟨li,ci,hq⟩
def C8(l:ax):Pg:=⟨1,l⟩
theorem uQ{room:Int}{s}{ps}{l}(h:room=ps.length) s':pY room s ps l s'=(4,s,ps):=aB h
theorem uR{room:Int}{s}{ps}{l}(h:¬room=ps.length) s':pY room s ps l s'=(0,s',ps++[C8 l]):=aq h
theorem ti ub bd mc mi room ps C I s a n c l S(hr:bX S a n (l.map eX))(hl:l.length=n)(hb:n<=140737488355328):
 az prog 207 #[pt ub,.slice a n c] (aj (gJ ub bd mc mi s) (aj (eE bd room ps ps.length) (aj C (aj I S))))
 (λv=>aE λb:Bool=>aA (v=an (if b then 4 else 0)/\(b=true↔room=ps.length)) (aj (gJ ub bd mc mi s) (aj (eE bd room (if b then ps else ps++[C8 l]) (if b then ps else ps++[C8 l]).length) (aj C (aj I S))))):=by
 refine(IC ub bd mc mi room ps ps.length C I s a n c l S hr hl hb).wk ?_;rintro v R h ⟨rfl,H⟩;rw[Bt]at H
 by_cases hf:room=ps.length
 ·have e1:mL room ps ⟨1,l⟩=(4,ps):=aB hf;rw[e1]at H⊢;exact⟨true,⟨rfl,λ_=>hf,λ_=>rfl⟩,H⟩
 ·have e1:mL room ps ⟨1,l⟩=(0,ps++[C8 l]):=aq hf;rw[e1]at H⊢;exact⟨false,⟨rfl,λh=>(by cases h),λh=>absurd h hf⟩,H⟩
theorem UD.FN{ub bd mc mi}{room}{s}{ps}{lc}{cc}{li}{ci}{R h}(H:(aj (gJ ub bd mc mi s) (aj (eE bd room ps ps.length) (aj (aH bJ iE mc s.cells lc cc) (aH bT iE mi s.inst li ci)))).p R h):(UD ub bd room s ps).p R h:=fz.FN H
def gu(room:Int)(s:gj)(ps:List Pg)(aI:Int):Int×gj×List Pg:=
 if aI<=s.aI then(8,s,ps)else if 2147483647<aI then(1,s,ps)else pY room s ps (bz 4 [aI]) {s with aI:=aI}
theorem U9 ub bd room s ps aI:
 az prog 135 #[pt ub,an aI] (UD ub bd room s ps)
 (λv=>aA (v=an (gu room s ps aI).1) (UD ub bd room (gu room s ps aI).2.1 (gu room s ps aI).2.2)):=by
 refine fz.qD λmc mi lc cc li ci=>?_;refine be (ρ:=[.n ub,.n bd,.p (eE bd room ps ps.length),.i s.aI,.i s.low,.i s.top,.n mc,.p (aH bJ iE mc s.cells lc cc),.n mi,.p (aH bT iE mi s.inst li ci),.i aI]) {iS:=[130,194],aF:=eF,bU:=[(105,[0])]} [(.ptr 0 0),10] nB 11 ?_;refine⟨λh1=>.of λR h H=>?_,λh1=>⟨λh2=>.of λR h H=>?_,λh2 y=>?_⟩⟩
 ·have e:gu room s ps aI=(8,s,ps):=aB h1;rw[e];exact⟨rfl,UD.FN H⟩
 ·have e:gu room s ps aI=(1,s,ps):=by unfold gu;rw[aq h1,aB h2]
  rw[e];exact⟨rfl,UD.FN H⟩
 ·have e:gu room s ps aI=pY room s ps (bz 4 [aI]) {s with aI:=aI}:=by unfold gu;rw[aq h1,aq h2]
  rw[e];refine(pT 4 (some ⟨y,0,none⟩) 1 1 [aI] _ (eQ y #[an aI] _) rfl (λ_=>rfl) (by omega)).wk ?_;rintro v R h ⟨b,rfl,H⟩;refine⟨b,dE b (bz 4 [aI]),aI,rfl,?_,ak H⟩;refine(kF b (bz 4 [aI]) (by rw[eH];simp)).wk ?_;rintro v R h ⟨a',c',rfl,H⟩;refine⟨a',_,c',dS a' (bz 4 [aI]).length c' (bz 4 [aI]),_,rfl,?_,ak H⟩;refine(ti ub bd mc mi room ps _ _ s a' _ c' (bz 4 [aI]) _ (ow _ 1 _ _ _ _) rfl (by rw[eH];simp)).wk ?_;rintro v R h ⟨Bu,⟨rfl,hf⟩,H⟩;cases Bu with
  |true=>
   rw[uQ (hf.1 rfl)];exact⟨4,bd,eE bd room ps ps.length,s.aI,s.low,s.top,mc,aH bJ iE mc s.cells lc cc,mi,aH bT iE mi s.inst li ci,_,rfl,⟨λ_=>.of λR h H=>⟨rfl,UD.FN H⟩,λh=>absurd h (by decide)⟩,H⟩
  |false=>
   rw[uR (λh=>by have:=hf.2 h;cases this)];refine⟨0,bd,eE bd room (ps++[C8 (bz 4 [aI])]) (ps++[C8 (bz 4 [aI])]).length,s.aI,s.low,s.top,mc,aH bJ iE mc s.cells lc cc,mi,aH bT iE mi s.inst li ci,dS a' (bz 4 [aI]).length c' (bz 4 [aI]),rfl,⟨λh=>absurd rfl h,λ_=>.of λR h H=>⟨rfl,?_⟩⟩,H⟩;exact UD.FN (s:={s with aI:=aI}) H
def LP(s:gj)(at':Int)(x:fF):gj:={s with cells:=g7 s.cells at' (some x),top:=max s.top (at'+1)}
def dt(room:Int)(s:gj)(ps:List Pg)(aI at':Int)(x:fF):fF×Int×gj×List Pg:=
 if je s aI at'≠0 then(zC,je s aI at',s,ps)
 else if uP x.what x.data.length=false then(zC,1,s,ps)
 else if at'<s.low then(zC,11,s,ps)
 else match s.cells at' with
  |some y=>(y,10,s,ps)
  |none=>(zC,pY room s ps (jL at' x) (LP s at' x))
theorem ad8{s}{aI at'}(h:je s aI at'=0):aI=s.aI/\nD at'=true:=by
 unfold je at h;split at h
 ·rename_i he;split at h
  ·rename_i ha;exact⟨he,ha⟩
  ·cases h
 ·cases h
theorem UD.LM{ub bd mc mi}{room}{s}{ps}{lc}{cc}{li}{ci}{S}{R h}(H:(aj (gJ ub bd mc mi s) (aj (eE bd room ps ps.length) (aj (aH bJ iE mc s.cells lc cc) (aj (aH bT iE mi s.inst li ci) S)))).p R h):(aj (UD ub bd room s ps) S).p R h:=
 fz.LM (ae H (λ_ h=>h) λy hy=>ae hy (λ_ h=>h) λz hz=>ae hz (λq hq=>⟨_,_,hq⟩) λu hu=>ae hu (λq hq=>⟨_,_,hq⟩) λ_ h=>h)
theorem QW ub bd room(s:gj)(ps:List Pg)(aI at' what:Int)(a:aG)(n c:Nat)(d:ax)(S:HP)(hr:bX S a n (d.map eX))(hl:d.length=n)(ha:n≠0->a.isSome=true):
 az prog 129 #[pt ub,an aI,an at',.agg #[an what,.slice a n c]] (aj (UD ub bd room s ps) S)
 (λv=>aE λa'=>aE λc'=>aA (v=.tuple #[.agg #[an (dt room s ps aI at' ⟨what,d⟩).1.what,.slice a' (dt room s ps aI at' ⟨what,d⟩).1.data.length c'],an (dt room s ps aI at' ⟨what,d⟩).2.1])
   (aj (bE a' (dt room s ps aI at' ⟨what,d⟩).1.data.length (dt room s ps aI at' ⟨what,d⟩).1.data) (aj (UD ub bd room (dt room s ps aI at' ⟨what,d⟩).2.2.1 (dt room s ps aI at' ⟨what,d⟩).2.2.2) S))):=by
 refine ahF λmc mi lc cc li ci=>?_;refine be (ρ:=[.n ub,.n bd,.p (eE bd room ps ps.length),.i s.aI,.i s.low,.i s.top,.n mc,.p (aH bJ iE mc s.cells lc cc),.n mi,.p (aH bT iE mi s.inst li ci),.i aI,.i at',.i what,.a a,.n n,.n c,.p S]) {iS:=[130,194],aF:=eF,bU:=[(105,[0])]} [(.ptr 0 0),10,11,(.agg Zq)] LK 17 ?_;intro x y;refine(qH ub bd mc mi _ _ _ s aI at').wk ?_;rintro v R h ⟨rfl,H⟩;refine⟨_,rfl,⟨λh1=>.of λR h H=>?_,λh1=>?_⟩,H⟩
 ·have e:dt room s ps aI at' ⟨what,d⟩=(zC,je s aI at',s,ps):=aB h1;rw[e];exact⟨none,0,rfl,bN.join (bN.nil _ _ R h) (UD.LM H)⟩
 have pV:=(ad8 h1).2;refine(QU what a n c S).wk ?_;rintro v R h ⟨rfl,H⟩;refine⟨_,rfl,⟨λh2=>.of λR h H=>?_,λh2=>⟨λh3=>.of λR h H=>?_,λh3=>?_⟩⟩,H⟩
 ·have e:dt room s ps aI at' ⟨what,d⟩=(zC,1,s,ps):=by unfold dt;rw[aq (by simpa using h1),aB (by simp only[hl];simpa using h2)]
  rw[e];exact⟨none,0,rfl,bN.join (bN.nil _ _ R h) (UD.LM H)⟩
 ·have e:dt room s ps aI at' ⟨what,d⟩=(zC,11,s,ps):=by unfold dt;rw[aq (by simpa using h1),aq (by simp only[hl];simpa using h2),aB h3]
  rw[e];exact⟨none,0,rfl,bN.join (bN.nil _ _ R h) (UD.LM H)⟩
 have hn:n<=65536:=by
  simp only[uP]at h2;split at h2
  ·simp at h2;omega
  ·split at h2
   ·simp at h2;omega
   ·simp at h2
 clear H;refine(ID ub bd mc mi _ (aH bT iE mi s.inst li ci) s lc cc at').wk ?_;rintro v R h ⟨a',c',rfl,H⟩;refine⟨_,a',_,c',bE a' ((s.cells at').getD ⟨0,[]⟩).data.length ((s.cells at').getD ⟨0,[]⟩).data,_,rfl,λz=>⟨λLO=>.of λR h H=>?_,λhno=>?_⟩,H⟩
 ·obtain⟨u,hu⟩:=Option.isSome_iff_exists.1 LO;have e:dt room s ps aI at' ⟨what,d⟩=(u,10,s,ps):=by unfold dt;rw[aq (by simpa using h1),aq (by simp only[hl];simpa using h2),aq h3,hu]
  rw[e];rw[hu]at H⊢;have hro:=ah (ah (ah (ah (ah H))));exact⟨a',c',rfl,bN.join hro (UD.LM (ae H (λ_ h=>h) λy hy=>ae hy (λ_ h=>h) λz hz=>ae hz (λ_ h=>h) λu hu=>ae hu (λ_ h=>h) λq hq=>ai hq))⟩
 ·have hc:s.cells at'=none:=by simpa using hno
  have e:dt room s ps aI at' ⟨what,d⟩=(zC,pY room s ps (jL at' ⟨what,d⟩) (LP s at' ⟨what,d⟩)):=by unfold dt;rw[aq (by simpa using h1),aq (by simp only[hl];simpa using h2),aq h3,hc]
  rw[e];clear H;refine(FM at' what a n c d S hr hl (by omega) ha).wk ?_;rintro v R h ⟨pa,pc,rfl,H⟩;refine⟨pa,_,pc,dS pa (jL at' ⟨what,d⟩).length pc (jL at' ⟨what,d⟩),S,rfl,?_,ak H⟩
  have hcl:(jL at' ⟨what,d⟩).length<=140737488355328:=by
   unfold jL;split
   ·rw[eH];simp
   ·rw[List.length_append,List.length_append,eH,bF];simp;omega
  refine(ti ub bd mc mi room ps _ _ s pa _ pc (jL at' ⟨what,d⟩) _ (ow _ 1 _ _ _ _) rfl hcl).wk ?_;rintro v R h ⟨Bu,⟨rfl,hf⟩,H⟩;cases Bu with
  |true=>
   rw[uQ (hf.1 rfl)];exact⟨4,bd,eE bd room ps ps.length,s.aI,s.low,s.top,mc,aH bJ iE mc s.cells lc cc,mi,aH bT iE mi s.inst li ci,_,rfl,⟨λ_=>.of λR h H=>⟨none,0,rfl,bN.join (bN.nil _ _ R h) (UD.LM H)⟩,λh=>absurd h (by decide)⟩,H⟩
  |false=>
   rw[uR (λh=>by have:=hf.2 h;cases this)];refine⟨0,bd,eE bd room (ps++[C8 (jL at' ⟨what,d⟩)]) (ps++[C8 (jL at' ⟨what,d⟩)]).length,s.aI,s.low,s.top,mc,aH bJ iE mc s.cells lc cc,mi,aH bT iE mi s.inst li ci,dS pa (jL at' ⟨what,d⟩).length pc (jL at' ⟨what,d⟩),rfl,⟨λh=>absurd rfl h,λ_=>?_⟩,H⟩;refine(FP ub bd mc mi _ (aH bT iE mi s.inst li ci) s lc cc at' what a n c d S hr hl (by omega) pV).wk ?_;rintro v R h ⟨rfl,H⟩;refine⟨bd,eE bd room (ps++[C8 (jL at' ⟨what,d⟩)]) (ps++[C8 (jL at' ⟨what,d⟩)]).length,s.aI,s.low,max s.top (at'+1),mc,gI bJ iE mc (g7 s.cells at' (some ⟨what,d⟩)),mi,aH bT iE mi s.inst li ci,S,rfl,.of λR h H=>⟨none,0,rfl,bN.join (bN.nil _ _ R h) ?_⟩,H⟩;exact fz.LM (s:=LP s at' ⟨what,d⟩) (mc:=mc) (mi:=mi) (ae H (λ_ h=>h) λy hy=>ae hy (λ_ h=>h) λz hz=>ae hz (λ_ h=>h) λu hu=>ae hu (λq hq=>⟨_,_,hq⟩) λ_ h=>h)
def fM(room:Int)(s:gj)(ps:List Pg)(n r w:Int)(l:ax):Int×gj×List Pg:=
 if nC n r w=false then(1,s,ps)
 else if 1000<l.length then(1,s,ps)
 else if vZ r w (bD s n).pr (bD s n).pw=true then(7,s,ps)
 else pY room s ps (bz 6 [n,r,w]++eg l.length 4++l) (Bp s n r w l)
set_option maxRecDepth 100000 in
theorem LQ ub bd room(s:gj)(ps:List Pg)(n r w:Int)(a:aG)(k c:Nat)(l:ax)(S:HP)(hr:bX S a k (l.map eX))(hl:l.length=k)(ha:k≠0->a.isSome=true):
 az prog 141 #[pt ub,an n,.agg #[an r,an w],.slice a k c] (aj (UD ub bd room s ps) S)
 (λv=>aA (v=an (fM room s ps n r w l).1) (aj (UD ub bd room (fM room s ps n r w l).2.1 (fM room s ps n r w l).2.2) S)):=by
 refine ahF λmc mi lc cc li ci=>?_;refine az.cM (λR h H=>xS mi s li ci n (ai (ah (ah (ah H))))) ?_;rintro⟨va,vc,v8,hb,hro⟩;refine be (ρ:=[.n ub,.n bd,.p (eE bd room ps ps.length),.i s.aI,.i s.low,.i s.top,.n mc,.p (aH bJ iE mc s.cells lc cc),.n mi,.p (aH bT iE mi s.inst li ci),.i n,.i r,.i w,.a a,.n k,.n c,.p S]) {iS:=[130,194],aF:=eF,bU:=[(105,[0])]} OG LK 17 ?_;intro x;refine(v6 n r w).wk ?_;rintro v R h ⟨rfl,H⟩;refine⟨_,rfl,⟨λh1=>.of λR h H=>?_,λh1=>⟨λh2=>.of λR h H=>?_,λh2=>?_⟩⟩,H⟩
 ·have e:fM room s ps n r w l=(1,s,ps):=aB (by simpa using h1);rw[e];exact⟨rfl,UD.LM H⟩
 ·have e:fM room s ps n r w l=(1,s,ps):=by unfold fM;rw[aq (by simpa using h1),aB (by omega)]
  rw[e];exact⟨rfl,UD.LM H⟩
 obtain⟨i,hi,z1,_⟩:=info_parts U3;have iP:=iO (r:=mi) (l:=li) (c:=ci) iK IB hi z1 n false (A:=aH bT iE mi s.inst li ci) (λR h H=>aH.at H);rw[aq (by decide),v8]at iP;refine⟨_,_,_,_,_,_,_,iP,?_⟩;refine(IA r w (bD s n).pr (bD s n).pw).wk ?_;rintro v R h ⟨rfl,H⟩;refine⟨_,rfl,⟨λh3=>.of λR h H=>?_,λh3 y=>?_⟩,H⟩
 ·have e:fM room s ps n r w l=(7,s,ps):=by unfold fM;rw[aq (by simpa using h1),aq (by omega),aB h3]
  rw[e];exact⟨rfl,UD.LM H⟩
 have e:fM room s ps n r w l=pY room s ps (bz 6 [n,r,w]++eg l.length 4++l) (Bp s n r w l):=by unfold fM;rw[aq (by simpa using h1),aq (by omega),aq h3]
 rw[e];clear H;refine(pT 6 (some ⟨y,0,none⟩) 3 3 [n,r,w] _ (eQ y #[an n,an r,an w] _) rfl (λ_=>rfl) (by omega)).wk ?_;rintro v R h ⟨b,rfl,H⟩;refine⟨b,dE b (bz 6 [n,r,w]),n,r,w,rfl,?_,ak H⟩;refine(pQ b (bz 6 [n,r,w]) a k c l S hr hl ha (by rw[eH];simp only[List.length_cons,List.length_nil];omega)).wk ?_;rintro v R h ⟨rfl,H⟩;refine⟨dE b (bz 6 [n,r,w]++eg k 4++l),S,rfl,?_,H⟩
 have hlen:(bz 6 [n,r,w]++eg k 4++l).length<=140737488355328:=by
  rw[List.length_append,List.length_append,eH,bF];simp;omega
 refine(kF b _ (by rw[List.length_append,List.length_append,eH,bF];simp only[List.length_cons,List.length_nil];omega)).wk ?_;rintro v R h ⟨pa,pc,rfl,H⟩;refine⟨pa,_,pc,dS pa (bz 6 [n,r,w]++eg k 4++l).length pc (bz 6 [n,r,w]++eg k 4++l),_,rfl,?_,ak H⟩;rw[hl];refine(ti ub bd mc mi room ps _ _ s pa _ pc (bz 6 [n,r,w]++eg k 4++l) _ (ow _ 1 _ _ _ _) rfl hlen).wk ?_;rintro v R h ⟨Bu,⟨rfl,hf⟩,H⟩;cases Bu with
 |true=>
  rw[uQ (hf.1 rfl)];exact⟨4,bd,eE bd room ps ps.length,s.aI,s.low,s.top,mc,aH bJ iE mc s.cells lc cc,mi,aH bT iE mi s.inst li ci,_,rfl,⟨λ_=>.of λR h H=>⟨rfl,UD.LM H⟩,λh=>absurd h (by decide)⟩,H⟩
 |false=>
  rw[uR (λh=>by have:=hf.2 h;cases this)];refine⟨0,bd,eE bd room (ps++[C8 (bz 6 [n,r,w]++eg k 4++l)]) (ps++[C8 (bz 6 [n,r,w]++eg k 4++l)]).length,s.aI,s.low,s.top,mc,aH bJ iE mc s.cells lc cc,mi,aH bT iE mi s.inst li ci,dS pa (bz 6 [n,r,w]++eg k 4++l).length pc (bz 6 [n,r,w]++eg k 4++l),rfl,⟨λh=>absurd rfl h,λ_=>?_⟩,H⟩;refine(OL ub bd mc mi _ (aH bJ iE mc s.cells lc cc) s li ci n r w a k c l S hr hl (by omega)).wk ?_;rintro v R h ⟨rfl,H⟩;refine⟨bd,eE bd room (ps++[C8 (bz 6 [n,r,w]++eg k 4++l)]) (ps++[C8 (bz 6 [n,r,w]++eg k 4++l)]).length,s.aI,s.low,s.top,mc,aH bJ iE mc s.cells lc cc,mi,gI bT iE mi (Bp s n r w l).inst,S,rfl,.of λR h H=>⟨rfl,?_⟩,H⟩;exact fz.LM (s:=Bp s n r w l) (mc:=mc) (mi:=mi) (ae H (λ_ h=>h) λy hy=>ae hy (λ_ h=>h) λz hz=>ae hz (λq hq=>⟨_,_,hq⟩) λ_ h=>h)
def bR(room:Int)(s:gj)(ps:List Pg)(n r w:Int):Int×Int×ax×Int×gj×List Pg:=
 if nC n r w=false then(0,0,[],1,s,ps)
 else if vZ r w (bD s n).pr (bD s n).pw=true then(0,0,[],7,s,ps)
 else if r=(bD s n).pr/\w=(bD s n).pw then((bD s n).ar,(bD s n).aw,(bD s n).val,0,s,ps)
 else if room=ps.length then(0,0,[],4,s,ps)
 else((bD s n).ar,(bD s n).aw,(bD s n).val,0,r7 s n r w,ps++[C8 (bz 5 [n,r,w])])
set_option maxRecDepth 100000 in
theorem IJ ub bd room(s:gj)(ps:List Pg)(n r w:Int):
 az prog 139 #[pt ub,an n,.agg #[an r,an w]] (UD ub bd room s ps)
 (λv=>aE λa=>aE λc=>aA (v=.tuple #[.agg #[an (bR room s ps n r w).1,an (bR room s ps n r w).2.1],.slice a (bR room s ps n r w).2.2.1.length c,an (bR room s ps n r w).2.2.2.1])
   (aj (UD ub bd room (bR room s ps n r w).2.2.2.2.1 (bR room s ps n r w).2.2.2.2.2) (bE a (bR room s ps n r w).2.2.1.length (bR room s ps n r w).2.2.1))):=by
 refine fz.qD λmc mi lc cc li ci=>?_;refine az.cM (λR h H=>xS mi s li ci n (ah (ah (ah H)))) ?_;rintro⟨va,vc,v8,hb,hro⟩;refine be (ρ:=[.n ub,.n bd,.p (eE bd room ps ps.length),.i s.aI,.i s.low,.i s.top,.n mc,.p (aH bJ iE mc s.cells lc cc),.n mi,.p (aH bT iE mi s.inst li ci),.i n,.i r,.i w]) {iS:=[130,194],aF:=eF,bU:=[(105,[0])],mkd:=[21]} OJ nB 13 ?_;intro x y;refine(v6 n r w).wk ?_;rintro v R h ⟨rfl,H⟩;refine⟨_,rfl,⟨λh1=>.of λR h H=>?_,λh1=>?_⟩,H⟩
 ·have e:bR room s ps n r w=(0,0,[],1,s,ps):=aB (by simpa using h1);rw[e];exact⟨none,0,rfl,j6 (bN.nil _ _ R h) (UD.FN H)⟩
 obtain⟨i,hi,z1,_⟩:=info_parts U3;have iP:=iO (r:=mi) (l:=li) (c:=ci) iK IB hi z1 n false (A:=aH bT iE mi s.inst li ci) (λR h H=>aH.at H);rw[aq (by decide),v8]at iP;rw[FH (by decide)];refine uH ?_;refine aR.FE iP λR h H=>⟨(bD s n).pr,(bD s n).pw,(bD s n).ar,(bD s n).aw,va,(bD s n).val.length,vc,bE va (bD s n).val.length (bD s n).val,aH bT iE mi s.inst li ci,rfl,λz=>?_,bN.join (hro R h H) H⟩;clear H;refine(IA r w (bD s n).pr (bD s n).pw).wk ?_;rintro v R h ⟨rfl,H⟩;refine⟨_,rfl,⟨λh3=>.of λR h H=>?_,λh3=>?_⟩,H⟩
 ·have e:bR room s ps n r w=(0,0,[],7,s,ps):=by unfold bR;rw[aq (by simpa using h1),aB h3]
  rw[e];exact⟨none,0,rfl,j6 (bN.nil _ _ R h) (UD.FN H)⟩
 clear H;refine⟨_,Bn (r:=r) (q:=w) (r':=(bD s n).pr) (q':=(bD s n).pw) (by decide) rfl rfl,λhne=>λy2=>?_,λheq=>?_⟩
 ·have ahH:¬(r=(bD s n).pr/\w=(bD s n).pw):=by
   simp only[Bool.not_eq_true',Bool.and_eq_false_iff,decide_eq_false_iff_not]at hne;rintro⟨h1,h2⟩;rcases hne with h|h
   ·exact h h1
   ·exact h h2
  refine(pT 5 (some ⟨y2,0,none⟩) 3 3 [n,r,w] _ (eQ y2 #[an n,an r,an w] _) rfl (λ_=>rfl) (by omega)).wk ?_;rintro v R h ⟨b,rfl,H⟩;refine⟨b,dE b (bz 5 [n,r,w]),n,r,w,rfl,?_,ak H⟩;refine(kF b (bz 5 [n,r,w]) (by rw[eH];simp)).wk ?_;rintro v R h ⟨pa,pc,rfl,H⟩;refine⟨pa,_,pc,dS pa (bz 5 [n,r,w]).length pc (bz 5 [n,r,w]),_,rfl,?_,ak H⟩;refine(ti ub bd mc mi room ps _ _ s pa _ pc (bz 5 [n,r,w]) _ (ow _ 1 _ _ _ _) rfl (by rw[eH];simp)).wk ?_;rintro v R h ⟨Bu,⟨rfl,hf⟩,H⟩;cases Bu with
  |true=>
   have e:bR room s ps n r w=(0,0,[],4,s,ps):=by unfold bR;rw[aq (by simpa using h1),aq h3,aq ahH,aB (hf.1 rfl)]
   rw[e];exact⟨4,bd,eE bd room ps ps.length,s.aI,s.low,s.top,mc,aH bJ iE mc s.cells lc cc,mi,aH bT iE mi s.inst li ci,_,rfl,⟨λ_=>.of λR h H=>⟨none,0,rfl,j6 (bN.nil _ _ R h) (UD.FN H)⟩,λh=>absurd h (by decide)⟩,H⟩
  |false=>
   have e:bR room s ps n r w=((bD s n).ar,(bD s n).aw,(bD s n).val,0,r7 s n r w,ps++[C8 (bz 5 [n,r,w])]):=by unfold bR;rw[aq (by simpa using h1),aq h3,aq ahH,aq (λh=>by have:=hf.2 h;cases this)]
   rw[e];refine⟨0,bd,eE bd room (ps++[C8 (bz 5 [n,r,w])]) (ps++[C8 (bz 5 [n,r,w])]).length,s.aI,s.low,s.top,mc,aH bJ iE mc s.cells lc cc,mi,aH bT iE mi s.inst li ci,dS pa (bz 5 [n,r,w]).length pc (bz 5 [n,r,w]),rfl,⟨λh=>absurd rfl h,λ_=>?_⟩,H⟩;refine(IE ub bd mc mi _ (aH bJ iE mc s.cells lc cc) s li ci n r w).wk ?_;rintro v R h ⟨rfl,H⟩;refine⟨bd,eE bd room (ps++[C8 (bz 5 [n,r,w])]) (ps++[C8 (bz 5 [n,r,w])]).length,s.aI,s.low,s.top,mc,aH bJ iE mc s.cells lc cc,mi,gI bT iE mi (r7 s n r w).inst,rfl,?_,H⟩;refine(gi (bE va (bD s n).val.length (bD s n).val) va _ vc (bD s n).val (bX.ro _ _ _ _) rfl hb).wk ?_;rintro v R h ⟨ca,Zs,rfl,H⟩;refine⟨ca,_,Zs,bE ca (bD s n).val.length (bD s n).val,_,rfl,.of λR h H=>⟨ca,Zs,rfl,?_⟩,H⟩;exact fz.LM (s:=r7 s n r w) (mc:=mc) (mi:=mi) (ae H (λ_ h=>h) λy hy=>ae hy (λ_ h=>h) λz hz=>ae hz (λq hq=>⟨_,_,hq⟩) λ_ h=>h)
 ·have amE:r=(bD s n).pr/\w=(bD s n).pw:=by simpa using heq
  have e:bR room s ps n r w=((bD s n).ar,(bD s n).aw,(bD s n).val,0,s,ps):=by unfold bR;rw[aq (by simpa using h1),aq h3,aB amE]
  rw[e];refine(gi (aj (bE va (bD s n).val.length (bD s n).val) (aH bT iE mi s.inst li ci)) va _ vc (bD s n).val ⟨(bX.ro 1 va _ _).rd.left,λR h H=>(bX.ro 1 va _ _).none R h (ai H)⟩ rfl hb).wk ?_;rintro v R h ⟨ca,Zs,rfl,H⟩;refine⟨ca,_,Zs,bE ca (bD s n).val.length (bD s n).val,bE va (bD s n).val.length (bD s n).val,aH bT iE mi s.inst li ci,rfl,.of λR h H=>⟨ca,Zs,rfl,UD.LM H⟩,H⟩
def s0:gj:=⟨0,0,0,λ_=>none,λ_=>none⟩
def pZ(s:gj):List ax->Option gj
 |[]=>some s
 |b::r=>match cm s b with
  |some s'=>pZ s' r
  |none=>none
theorem xT(s:gj):∀(l m:List ax),pZ s (l++m)=(pZ s l).bind λs'=>pZ s' m
 |[],m=>rfl
 |b::r,m=>by
  simp only[List.cons_append,pZ];cases cm s b with
  |none=>rfl
  |some s'=>exact xT s' r m
theorem LR{s s1}{l}(h:pZ s l=some s1) k b(hk:l[k]? =some b):∃s2 s3,pZ s (l.take k)=some s2/\cm s2 b=some s3/\pZ s (l.take (k+1))=some s3:=by
 obtain⟨hlt,rfl⟩:=List.getElem?_eq_some_iff.1 hk;have e:l=l.take (k+1)++l.drop (k+1):=(List.take_append_drop _ _).symm;rw[e,xT]at h;cases h1:pZ s (l.take (k+1))with
 |none=>rw[h1]at h;cases h
 |some s3=>
  have mK:=h1;rw[List.take_succ_eq_append_getElem hlt,xT]at mK;cases h2:pZ s (l.take k)with
  |none=>rw[h2]at mK;cases mK
  |some s2=>
   rw[h2]at mK;simp only[Option.bind_some,pZ]at mK;split at mK
   ·rename_i s' hs;cases mK;exact⟨s2,s3,rfl,hs,rfl⟩
   ·cases mK
theorem amF{f}{args:dI}{ub bd mc mi}{D S}{s}{B}
 (t:∀lc cc li ci,az prog f args (aj (gJ ub bd mc mi s) (aj D (aj (aH bJ iE mc s.cells lc cc) (aj (aH bT iE mi s.inst li ci) S)))) B):az prog f args (aj (gJ ub bd mc mi s) (aj D (aj (gI bJ iE mc s.cells) (aj (gI bT iE mi s.inst) S)))) B:=by
 refine(az.ex (A:=λlc=>aE λcc=>aE λli=>aE λci=>aj (gJ ub bd mc mi s) (aj D (aj (aH bJ iE mc s.cells lc cc) (aj (aH bT iE mi s.inst li ci) S)))) λlc=>az.ex λcc=>az.ex λli=>az.ex λci=>t lc cc li ci).aK ?_ λ_ _ _ h=>h;rintro R h ⟨h1,h2,d,l1,l2,H1,h3,h4,d2,l3,l4,H2,h5,h6,d3,l5,l6,⟨lc,cc,H3⟩,h7,h8,d4,l7,l8,⟨li,ci,H4⟩,H5⟩;exact⟨lc,cc,li,ci,h1,h2,d,l1,l2,H1,h3,h4,d2,l3,l4,H2,h5,h6,d3,l5,l6,H3,h7,h8,d4,l7,l8,H4,H5⟩
theorem Va bd room ps(cy:Nat)(s1:gj)(hs:pZ s0 (cR ps)=some s1):
 az prog 22 #[pt bd] (eE bd room ps cy)
 (λv=>aE λub=>aA (v=.tuple #[pt ub,an 0]) (fz ub bd (eE bd room ps cy) (pX s1))):=by
 refine be (ρ:=[.n bd,.p (eE bd room ps cy)]) {iS:=[130,194],hv:=[(0,[(.a 5),(.b 0),(.b 4),(.b 3),(.b 2)])],aF:=eF,bU:=[(105,[0])]} vY [(.b 0,1)] 2 ?_;intro mc mi ub;refine(QR bd room ps cy).wk ?_;rintro v R h ⟨a,c,⟨rfl,hD⟩,h1,h2,dj,l1,l2,HD,xs,⟨hx1,OM⟩,HL⟩
 have hall:∀(k:Nat) (p:ax),(cR ps)[k]? =some p->∃x,xs[k]? =some x/\x.2.1=p.length/\p.length<=140737488355328:=λk p hp=>by
  obtain⟨x,q1,q2,q3,_⟩:=lI.get k (ah HL) hp;exact⟨x,q1,q2,q3⟩
 have kL:(cR ps).length≠0->a.isSome=true:=λhn=>bY.some (ai HL) (by omega)
 have hlen:(cR ps).length<=65536:=by
  have h1:(cR ps).length<=ps.length:=List.length_filterMap_le _ _;have:=hD.2.1;have:=hD.2.2.1;omega
 generalize hls:cR ps=ls at*;refine⟨a,ls.length,c,aj (bY 37 1 a ls.length c (xs.map LB)) (lI xs ls),eE bd room ps cy,rfl,?_,h2,h1,dj.symm,l2,l1,HL,HD⟩;clear HL HD dj l1 l2
 let J:Value->HP->Int->Int->HP->HP->Nat->Int->Int->Int->Nat->Nat->HP->HP->Prop:=λ_ _ _ i Pl D d ep lo tp m1 m2 PI PC=>∃(k:Nat) (s:gj),i=k/\k<=ls.length/\pZ s0 (ls.take k)=some s/\ep=s.aI/\lo=s.low/\tp=s.top/\m1=mc/\m2=mi/\d=bd/\
  HP.aT Pl (aj (bY 37 1 a ls.length c (xs.map LB)) (lI xs ls))/\HP.aT D (eE bd room ps cy)/\HP.aT PI (gI bT iE mi s.inst)/\HP.aT PC (gI bJ iE mc s.cells)
 refine⟨J,λ_ _ _ i _ _ _ _ _ _ _ _ _ _=>ls.length - i.toNat,⟨0,s0,rfl,Nat.zero_le _,rfl,rfl,rfl,rfl,rfl,rfl,rfl,HP.aT.refl _,HP.aT.refl _,.of λR h H=>gI.new _ _ _ H,.of λR h H=>gI.new _ _ _ H⟩,?_⟩;rintro u0 p0 e0 i Pl D d ep lo tp m1 m2 PI PC ⟨k,s,rfl,hk,hf,rfl,rfl,rfl,rfl,rfl,rfl,hPl,hDD,hPI,hPC⟩;refine⟨λhlt=>⟨by omega,λ_=>⟨kL (by omega),λ_=>?_⟩⟩,λlH=>?_⟩
 ·have gP:k<ls.length:=by omega
  have hg:ls[k]? =some ls[k]:=List.getElem?_eq_getElem gP;obtain⟨x,hx,x1,x2⟩:=hall k _ hg;obtain⟨s2,s3,g1,g2,g3⟩:=LR hs k _ hg;rw[hf]at g1;cases g1;refine⟨x.1,x.2.1,x.2.2,?_,?_⟩
  ·rw[uI];refine uH ?_;rw[Int.toNat_natCast];exact aM.aT hPl (cU qB (by kernel_rfl) (by kernel_rfl) ((bY.rd 37 1 a ls.length c (xs.map LB)).left (B:=lI xs ls)) (k:=k*1) (off:=0) (v:=LB x) (by simp[hx]))
  ·refine az.pre (A:=aj (gJ ub d m1 m2 s) (aj (eE d room ps cy) (aj (gI bJ iE m1 s.cells) (aj (gI bT iE m2 s.inst) (aj (bY 37 1 a ls.length c (xs.map LB)) (lI xs ls)))))) ?_ ((HP.aT.refl _).gX (hDD.gX (hPC.gX (hPI.gX hPl))));refine amF λlc cc li ci=>?_
   refine(LN ub d m1 m2 (eE d room ps cy) s lc cc li ci x.1 x.2.1 x.2.2 ls[k] (aj (bY 37 1 a ls.length c (xs.map LB)) (lI xs ls)) (by
    rw[x1]
    exact bX.imp λR h H=>by
     obtain⟨y,q1,q2,q3,q4⟩:=lI.get k (ah H) hg;rw[hx]at q1;cases q1;rw[x1]at q4;exact q4) x1.symm (by omega)).wk ?_
   rintro v R h ⟨rfl,H⟩;rw[g2]at H;simp only[Option.getD_some]at H;refine⟨true,d,eE d room ps cy,s3.aI,s3.low,s3.top,m1,gI bJ iE m1 s3.cells,m2,gI bT iE m2 s3.inst,aj (bY 37 1 a ls.length c (xs.map LB)) (lI xs ls),by rw[g2];rfl,⟨λh=>absurd rfl h,λ_=>⟨bh _ (by omega) (by omega),λ_=>⟨⟨k+1,s3,by omega,by omega,g3,rfl,rfl,rfl,rfl,rfl,rfl,HP.aT.refl _,HP.aT.refl _,HP.aT.refl _,HP.aT.refl _⟩,by dsimp only;omega⟩⟩⟩,H⟩
 ·have LG:k=ls.length:=by omega
  subst LG;rw[List.take_length,hs]at hf;cases hf;refine az.pre (A:=aj (gJ ub d m1 m2 s1) (aj (eE d room ps cy) (aj (gI bJ iE m1 s1.cells) (gI bT iE m2 s1.inst)))) ?_ ((HP.aT.refl _).gX (hDD.gX (hPC.gX hPI)));refine(az.ex (A:=λlc=>aE λcc=>aj (gJ ub d m1 m2 s1) (aj (eE d room ps cy) (aj (aH bJ iE m1 s1.cells lc cc) (gI bT iE m2 s1.inst)))) λlc=>az.ex λcc=>?_).aK (λR h ⟨h1,h2,d,l1,l2,H1,h3,h4,d2,l3,l4,H2,h5,h6,d3,l5,l6,⟨lc,cc,H3⟩,H4⟩=>⟨lc,cc,h1,h2,d,l1,l2,H1,h3,h4,d2,l3,l4,H2,h5,h6,d3,l5,l6,H3,H4⟩) λ_ _ _ h=>h;refine(Br ub d m1 m2 _ (gI bT iE m2 s1.inst) s1 lc cc).wk ?_;rintro v R h ⟨rfl,H⟩;refine⟨d,eE d room ps cy,s1.aI,s1.low,s1.top,m1,gI bJ iE m1 (pX s1).cells,m2,gI bT iE m2 s1.inst,rfl,.of λR h H=>⟨ub,rfl,?_⟩,H⟩;exact fz.of (s:=pX s1) (mc:=m1) (mi:=m2) H
theorem aci:prog.underlying 30=some (.slice 72):=by kernel_rfl
theorem ahI:prog.underlying 72=some (.pointer 117):=by kernel_rfl
structure UnE where
 ub:Nat
 bd:Nat
 s:gj
 ps:List Pg
def Bv(room:Int):PK UnE:=⟨72,1,by decide,λu=>[pt u.ub],λ_=>rfl,λx u hu=>by rw[List.mem_singleton.1 hu];rfl,λu=>UD u.ub u.bd room u.s u.ps⟩
theorem ad9:pX s0=s0:=by
 unfold pX s0;congr 1;funext k;split<;>rfl
theorem amG{e}(h:(prog.info? e).map (λi=>(i.zero.map (λz=>z.cells.size),i.size,i.bytes))=some (some 1,1,8)):∃i z,prog.info? e=some i/\i.zero=some z/\z.cells.size=i.size/\i.size=1/\i.bytes<=1000:=by
 obtain⟨i,hi,hz⟩:=Option.map_eq_some_iff.1 h;simp only[Prod.mk.injEq,Option.map_eq_some_iff]at hz;obtain⟨⟨z,YH,To⟩,Tp,Zm⟩:=hz;exact⟨i,z,hi,YH,by rw[To,Tp],Tp,by omega⟩
theorem aea:(prog.info? 72).map (λi=>(i.zero.map (λz=>z.cells.size),i.size,i.bytes))=some (some 1,1,8):=by kernel_rfl
theorem ahJ{room}{a:aG}{n c}{l}{x}{u}(hb:n<=1000):aR prog (o4 30 30 (.slice a n c) (.slice (some ⟨x,0,none⟩) 1 1)) (aj (PL (Bv room) a n c l) (aj (HP.one x (.cells #[pt u.ub] 72)) (UD u.ub u.bd room u.s u.ps))) (λv=>aE λa'=>aE λc'=>aA (v=.slice a' (n+1) c') (PL (Bv room) a' (n+1) c' (l++[u]))):=by
 obtain⟨i,z,h1,h2,h3,h4,h5⟩:=amG aea;exact(PL.app (K:=Bv room) 30 30 aci h1 h2 h3 h4 h5 a n c l x u tt (by omega)).aK (λR h H=>ae H (λ_ h=>h) λ_ h=>ae h (λ_ h=>h) λ_ h=>aD h) λv R h ⟨a',c',e,H⟩=>⟨a',c',e,ai H⟩
section
variable {α:Type}
def Zt(K:o5 α)(e:TypeId)(one:∀x,∀u∈K.aJ x,u.oneCell'=true):PK α:=⟨e,K.n,K.pos,K.aJ,K.len,one,K.hp⟩
theorem Bw{l}{R h}(H:(cw l).p R h):∀x∈l,x.p R h:=by
 induction l generalizing h with
 |nil=>intro x hx;cases hx
 |cons y r ih=>
  intro x hx;have H1:=cQ.1 H;rcases List.mem_cons.1 hx with e|e
  ·subst e;exact ai H1
  ·exact ih (ah H1) x e
theorem PL.eP{K}{e}{one} a n c(l:List α):HP.aT (PL (Zt K e one) a n c l) (Ls K a n l):=λR h d H=>by
 obtain⟨hn,h1,h2,d',l1,l2,H1,H2⟩:=H;obtain⟨R1,x1,q1,q2,q3,q4,q5⟩:=bY.eP _ _ _ _ _ _ R h1 (d.le (PH.le.refl _) l1) H1;have hp:∀x∈l,(K.hp x).p R1 x1:=λx hx=>K.iF x _ _ _ ((K.hp x).mono q1 (PH.le.refl _) (Bw H2 _ (List.mem_map.2 ⟨x,hx,rfl⟩)));refine⟨R1,x1,q1,q2,q3.trans l1,λk o e=>(q4 k o e).imp id (l1 k o),hn,q5,hp⟩
theorem wd(K:PK α) R h:(PL K none 0 0 []).p R h:=⟨rfl,aD (bY.nil _ _ R h)⟩
theorem QX{l}{k}{x}{R h}(hk:k<l.length)(H:(aj x (cw l)).p R h):(cw (l.set k x)).p R h:=by
 refine kG hk (ae H (λ_ h=>h) λy hy=>?_);have hg:l[k]? =some l[k]:=List.getElem?_eq_getElem hk;exact ah (nz hg hy)
theorem IK(K:PK α)(l:List α) k(hk:k<l.length) y:(l.flatMap K.aJ).take (k*K.n+0)++K.aJ y++(l.flatMap K.aJ).drop (k*K.n+0+(K.aJ y).length)=(l.set k y).flatMap K.aJ:=by
 have t1:∀j,(l.take j).flatMap K.aJ=(l.flatMap K.aJ).take (j*K.n):=λj=>by
  by_cases hj:j<=l.length
  ·conv=>rhs;rw[<-List.take_append_drop j l,List.flatMap_append]
   rw[List.take_left' (by rw[jq K.aJ K.n K.len,List.length_take,Nat.min_eq_left hj])]
  ·rw[List.take_of_length_le (by omega),List.take_of_length_le (by rw[jq K.aJ K.n K.len];exact Nat.mul_le_mul_right _ (by omega))]
 have t2:(l.drop (k+1)).flatMap K.aJ=(l.flatMap K.aJ).drop ((k+1)*K.n):=by
  conv=>rhs;rw[<-List.take_append_drop (k+1) l,List.flatMap_append]
  rw[List.drop_left' (by rw[jq K.aJ K.n K.len,List.length_take,Nat.min_eq_left (by omega)])]
 rw[List.set_eq_take_append_cons_drop,aB (by omega),List.flatMap_append,List.flatMap_cons,t1,t2,K.len,Nat.add_zero,Nat.succ_mul];simp
theorem PL.set{K}{i}(hi:prog.info? K.e=some i)(hs:i.size=K.n){a}{n c}{l}{k}(hk:k<n)(y:α){v}(hv:v.cells=(K.aJ y).toArray) Q:
 aR prog (cv K.e (.pointer (a.map λz=>(z.add (k*K.n)).add 0)) v) (aj (PL K a n c l) (aj (K.bV y) Q)) (λv=>aA (v=cE) (aj (PL K a n c (l.set k y)) Q)):=by
 refine aR.cM (φ:=l.length=n) (λR h H=>(ai H).1) λhl=>?_;have hb:k*K.n+K.n<=n*K.n:=by rw[<-Nat.succ_mul];exact Nat.mul_le_mul_right _ hk
 have st:=pP hi K.e K.n a n c (l.flatMap K.aJ) (k*K.n) 0 v (K.aJ y) hv (by rw[hs,K.len]) (by rw[K.len];exact K.pos) (K.one y) (by rw[K.len];omega);have ec:=IK K l k (by omega) y;refine(st.frame (aj (cw (l.map K.bV)) (aj (K.bV y) Q))).aK (λR h H=>?_) ?_
 ·exact au (ae H (λ_ h=>h.2) λ_ h=>h)
 ·rintro v R h ⟨h1,h2,d,l1,l2,⟨rfl,H⟩,HU⟩;refine⟨rfl,?_⟩;rw[ec]at H
  have H1:(aj (bY K.e K.n a n c ((l.set k y).flatMap K.aJ)) (aj (aj (K.bV y) (cw (l.map K.bV))) Q)).p R h:=
   ⟨h1,h2,d,l1,l2,H,aC (HP.swap HU)⟩
  have H2:=aC (ae H1 (λ_ h=>h) λz hz=>ae hz (λw hw=>QX (k:=k) (x:=K.bV y) (by simp[hl];exact hk) hw) λ_ h=>h);refine ae H2 (λz hz=>⟨by simp[hl],?_⟩) λ_ h=>h;rw[List.map_set];exact hz
end
theorem Vb{α:Type}{K} t ty{i}{z}(ht:prog.underlying t=some (.slice K.e))(hi:prog.info? K.e=some i)(hz:i.zero=some z)(hzs:z.cells.size=i.size)(hs:i.size=K.n)(hby:i.bytes<=1000)
 (a:aG)  n c  l  b (x:α)  Q (hb:n<=1000000000):
 aR prog (o4 t ty (.slice a n c) (.slice (some ⟨b,0,none⟩) 1 1)) (aj (PL K a n c l) (aj (HP.one b (.cells (K.aJ x).toArray K.e (0,0))) (aj (K.bV x) Q)))
  (λv=>aE λa'=>aE λc'=>aA (v=.slice a' (n+1) c') (aj (PL K a' (n+1) c' (l++[x])) (aj (HP.one b (.cells (K.aJ x).toArray K.e (0,0))) Q))):=by
 have hr:=eQ b (K.aJ x).toArray K.e
 have hbn:(n+1)*i.bytes<=140737488355328:=by
  have:=Nat.mul_le_mul (show n+1<=1000000001 by omega) hby;omega
 have:=fy t ty K.e i z ht hi hz hzs (by rw[hs];exact K.pos) a n c (l.flatMap K.aJ) (HP.one b (.cells (K.aJ x).toArray K.e (0,0))) ⟨b,0,none⟩ 1 1 (K.aJ x) (by simpa using hr) (by rw[K.len,hs,Nat.one_mul]) (K.one x) (by unfold maxLen;omega) hbn;rw[hs]at this;refine aR.cM (φ:=l.length=n) (λR h H=>(ai H).1) λhl=>?_;refine(this.frame (aj (cw (l.map K.bV)) (aj (K.bV x) Q))).aK (λR h H=>?_) ?_
 ·have H1:=au (ae H (λ_ h=>h.2) λ_ h=>h);exact aC (HP.pick [_,_,_,_,_] [0,2,1,3,4] (by decide) rfl H1)
 ·rintro v R h ⟨h1,h2,d,l1,l2,⟨a',c',rfl,H⟩,HU⟩;refine⟨a',c',rfl,?_⟩;have H1:=au ⟨h1,h2,d,l1,l2,H,HU⟩;have H2:=HP.pick [bY K.e K.n a' (n+1) c' (l.flatMap K.aJ++K.aJ x),HP.one b (.cells (K.aJ x).toArray K.e (0,0)),cw (l.map K.bV),K.bV x,Q] [0,2,3,1,4] (by decide) rfl H1;have e:(l++[x]).map K.bV=l.map K.bV++[K.bV x]:=by simp
  have H3:(aj (bY K.e K.n a' (n+1) c' (l.flatMap K.aJ++K.aJ x)) (aj (cw ((l++[x]).map K.bV)) (aj (HP.one b (.cells (K.aJ x).toArray K.e (0,0))) Q))).p R h:=ae H2 (λ_ h=>h) λy hy=>by
   have:=aC hy;rw[e];exact ae this (λz hz=>(gq (l:=l.map K.bV) (m:=[K.bV x])).2 hz) λ_ h=>h
  have H4:=aC H3;refine ae H4 (λy hy=>⟨by simp[hl],?_⟩) λ_ h=>h;have e2:(l++[x]).flatMap K.aJ=l.flatMap K.aJ++K.aJ x:=by simp
  rw[e2];exact hy
theorem rW.set{α:Type}{K}{i}(hi:prog.info? K.e=some i)(hs:i.size=K.n){a}{n c}{l}{k}(hk:k<n)(y:α){v}(hv:v.cells=(K.aJ y).toArray) Q:
 aR prog (cv K.e (.pointer (a.map λz=>(z.add (k*K.n)).add 0)) v) (aj (rW K a n c l k) (aj (K.bV y) Q)) (λv=>aA (v=cE) (aj (PL K a n c (l.set k y)) Q)):=by
 refine aR.cM (φ:=l.length=n) (λR h H=>(ai H).1) λhl=>?_;have hb:k*K.n+K.n<=n*K.n:=by rw[<-Nat.succ_mul];exact Nat.mul_le_mul_right _ hk
 have st:=pP hi K.e K.n a n c (l.flatMap K.aJ) (k*K.n) 0 v (K.aJ y) hv (by rw[hs,K.len]) (by rw[K.len];exact K.pos) (K.one y) (by rw[K.len];omega);rw[IK K l k (by omega) y]at st;refine(st.frame (aj (cw ((l.map K.bV).eraseIdx k)) (aj (K.bV y) Q))).aK (λR h H=>?_) ?_
 ·exact au (ae H (λ_ h=>h.2) λ_ h=>h)
 ·rintro v R h ⟨h1,h2,d,l1,l2,⟨rfl,H⟩,HU⟩;refine⟨rfl,?_⟩
  have H1:(aj (bY K.e K.n a n c ((l.set k y).flatMap K.aJ)) (aj (aj (K.bV y) (cw ((l.map K.bV).eraseIdx k))) Q)).p R h:=
   ⟨h1,h2,d,l1,l2,H,aC (HP.swap HU)⟩
  have H2:=aC (ae H1 (λ_ h=>h) λz hz=>ae hz (λw hw=>kG (k:=k) (x:=K.bV y) (by simp[hl];exact hk) hw) λ_ h=>h);refine ae H2 (λz hz=>⟨by simp[hl],?_⟩) λ_ h=>h;rw[List.map_set];exact hz
theorem Zu{t e}{d}(hd:prog.underlying t=some d)(ha:gZ prog t=false)(hz:iA prog t=1){b k}{cs:dI}{v}(hk:cs.toList[k]? =some v){Q}:
 aM prog (bO t (.pointer (some ⟨b,k,none⟩))) (aj (HP.one b (.cells cs e (0,0))) Q) v:=by
 have:=cU hd ha hz (Rd.left (B:=Q) (eQ b cs e)) (k:=k) (off:=0) (v:=v) hk;simpa[addr_add]using this
theorem aeb{t e}{d}(hd:prog.underlying t=some d)(ha:gZ prog t=true){b k}{cs:dI}{vs:List Value}(hz:iA prog t=vs.length)(hp:0<vs.length)(hk:∀j v,vs[j]? =some v->cs.toList[k+j]? =some v){Q}:
 aM prog (bO t (.pointer (some ⟨b,k,none⟩))) (aj (HP.one b (.cells cs e (0,0))) Q) (.agg vs.toArray):=by
 have:=pN hd ha (Rd.left (B:=Q) (eQ b cs e)) (k:=k) (off:=0) hz hp (λj v hj=>by rw[Nat.add_zero];exact hk j v hj);simpa[addr_add]using this
theorem Zv{t e}{i}(hi:prog.info? t=some i)(hz:i.size=1){b k}{cs cs':dI}{x}(hx:x.cells= #[x])(h1:x.oneCell'=true)(hk:k<cs.size)(hc:cs'=cs.setIfInBounds k x) Q:
 aR prog (cv t (.pointer (some ⟨b,k,none⟩)) x) (aj (HP.one b (.cells cs e (0,0))) Q) (λv=>aA (v=cE) (aj (HP.one b (.cells cs' e (0,0))) Q)):=by
 have:=g9 hi e b cs k x [x] (by rw[hx]) (by simp[hz]) (by simp) (by simpa using h1) (by simp;omega) (by unfold maxLen;omega)
 have ec:(cs.toList.take k++[x]++cs.toList.drop (k+[x].length)).toArray=cs':=by
  rw[hc];apply Array.ext';rw[Array.toList_setIfInBounds,List.set_eq_take_append_cons_drop,aB (by simpa using hk)];simp
 rw[ec]at this;refine(this.frame Q).wk ?_;rintro v R h ⟨h1,h2,d,l1,l2,⟨rfl,H⟩,HU⟩;exact⟨rfl,h1,h2,d,l1,l2,H,HU⟩
theorem aec{t e}{i}(hi:prog.info? t=some i){b k}{cs cs':dI}{x}{vs}(hx:x.cells=vs.toArray)(hz:i.size=vs.length)(hp:0<vs.length)(h1:∀v∈vs,v.oneCell'=true)(hk:k+vs.length<=cs.size)
 (hc:cs'.toList=cs.toList.take k++vs++cs.toList.drop (k+vs.length))  Q:
 aR prog (cv t (.pointer (some ⟨b,k,none⟩)) x) (aj (HP.one b (.cells cs e (0,0))) Q) (λv=>aA (v=cE) (aj (HP.one b (.cells cs' e (0,0))) Q)):=by
 have:=g9 hi e b cs k x vs hx hz hp h1 hk (by unfold maxLen;omega);rw[<-hc,Array.toArray_toList]at this;refine(this.frame Q).wk ?_;rintro v R h ⟨h1,h2,d,l1,l2,⟨rfl,H⟩,HU⟩;exact⟨rfl,h1,h2,d,l1,l2,H,HU⟩
def ixS(t:TypeId)(u v:Value):Sem Next:=do pure (.value (<-Instr.indexAt t u v))
theorem p7{t ty}{i j:Nat}{u v}(h:i≠j):bZ (.indexAddr t (.tmp i) (.tmp j)) ty [(i,u),(j,v)]=ixS t u v:=by
 have h':(i==j)=false:=by simpa using h
 simp[bZ,execOp,lW,h',ixS]
theorem Bx{t el}{n}(ht:prog.underlying t=some (.array n el))(hi:(prog.info? el).isSome=true)(hz:iA prog el=1){b off k:Nat}{x:Int}(hx:x=k)(hk:k<n){A}:
 aM prog (ixS t (.pointer (some ⟨b,off,none⟩)) (an x)) A (.pointer (some ⟨b,off+k,none⟩)):=λw R h F s _=>by
 obtain⟨i,hi⟩:=Option.isSome_iff_exists.1 hi;subst hx;unfold ixS;rw[Sem.run_bind,RX.run_indexAt_array ht hi (by omega) (by omega),hz];simp[addr_add]
def mkS(t:TypeId)(n c:Value):Sem Next:=do pure (.value (<-Instr.makeSlice t n c))
theorem FR{t ty}{i:Nat}{u}:bZ (.makeSlice t (.tmp i) (.tmp i)) ty [(i,u),(i,u)]=mkS t u u:=by simp[bZ,execOp,lW,mkS]
theorem Vc z n:(madeCells #[z] n).toList=List.replicate n z:=by
 refine List.ext_getElem (by simp[madeCells]) λi h1 h2=>?_;simp[madeCells,Nat.mod_one]
theorem Vd{t e}{i}{z}(ht:prog.underlying t=some (.slice e))(hi:prog.info? e=some i)(hz:i.zero=some z)(hzs:z.cells= #[z])(hs:i.size=1) n(hb:i.bytes*n<=281474976710656)(hm:n<=maxLen) A:
 aR prog (mkS t (an n) (an n)) A (λv=>aE λx=>aA (v=.slice (some ⟨x,0,none⟩) n n) (aj (bY e 1 (some ⟨x,0,none⟩) n n (List.replicate n z)) A)):=λw R h F s a=>by
 have xF:=run_make (P:=Tryz.prog) w t e i z ht hi hz .i64 .i64 n n (by omega) (Int.le_refl _) (by have:((i.bytes*n:Nat):Int)<=281474976710656:=by omega
                                                                                                  rwa [Int.natCast_mul]at this) (by unfold maxLen at hm;omega)
 simp only[Int.toNat_natCast]at xF;obtain⟨s1,d1⟩:=s.alloc (.cells (madeCells z.cells (n*i.size)) e);refine⟨.value _,_,_,by unfold mkS;rw[Sem.run_bind,xF];rfl,rfl,Same.alloc w _,R,_,PH.le.refl _,s1,w.heap.size,rfl,_,_,d1,PH.dC _ _,PH.cP d1,⟨by simp,.inr ⟨_,_,rfl,PH.cX _ _,Nat.le_refl _,hm,?_,?_⟩⟩,a⟩
 ·rw[hzs,hs];simp[madeCells]
 ·rw[hzs,hs,Vc];simp
def Dq(t ty:TypeId)(u:Value):Sem Next:=do pure (.value (<-Builtin.clear_ #[t] ty #[u]))
theorem By{t ty}{i:Nat}{u}:bZ (.call ⟨.builtin .clear,#[.tmp i],#[t]⟩) ty [(i,u)]=Dq t ty u:=by
 simp[bZ,execOp,resolve,lW,invoke,builtin,Dq]
theorem qFS(z:dI) n:(Builtin.zeroCells z n).size=n*z.size/\∀v∈Builtin.zeroCells z n,v∈z:=by
 refine⟨by simp[Builtin.zeroCells],λv hv=>?_⟩;unfold Builtin.zeroCells at hv;simp only[Array.mem_map,Array.mem_range]at hv;obtain⟨i,hi,rfl⟩:=hv
 have hz:0<z.size:=by
  rcases Nat.eq_zero_or_pos z.size with h|h
  ·rw[h,Nat.mul_zero]at hi;omega
  ·exact h
 rw[getElem!_pos z _ (Nat.mod_lt _ hz)];exact Array.getElem_mem _
set_option maxHeartbeats 1000000 in
theorem QY{t e}{size}{Um}{z}(hu:prog.underlying t=some (.slice e))(hi:prog.info? e=some Um)(YH:Um.zero=some z)(To:z.cells.size=size)(KS:∀v∈z.cells,v.oneCell'=true)
  ty (a:aG) (n c:Nat) (xs:List Value) (i m c2:Nat) (h:i+m=n):
 aR prog (Dq t ty (.slice (a.map (·.add (i*size))) m c2)) (bY e size a n c xs) (λv=>aE λys:List Value=>aA (v=cE/\ys.take (i*size)=xs.take (i*size)) (bY e size a n c ys)):=by
 rintro w R h' F s ⟨hl,hh⟩;rcases hh with⟨rfl,h0,h1⟩|⟨g,cur,rfl,hg,q1,q2,q3,q4⟩
 ·refine⟨.value (cE),_,w,?_,rfl,Same.refl _,R,h',PH.le.refl _,s,xs,⟨rfl,rfl⟩,hl,.inl ⟨rfl,h0,h1⟩⟩;unfold Dq Builtin.clear_;simp[RX.run_underlying hu]
 by_cases hm:m=0
 ·subst hm;refine⟨.value (cE),_,w,?_,rfl,Same.refl _,R,h',PH.le.refl _,s,xs,⟨rfl,rfl⟩,hl,.inr ⟨g,cur,rfl,hg,q1,q2,q3,q4⟩⟩;unfold Dq Builtin.clear_;simp[RX.run_underlying hu]
 have hw:=s.oh _ _ hg;obtain⟨e1,e2⟩:=qFS z.cells m;have Y2:(Builtin.zeroCells z.cells m).toList.length=m*size:=by rw[Array.length_toList,e1,To]
 have h1:∀v∈(Builtin.zeroCells z.cells m).toList,v.oneCell'=true:=λv hv=>KS v (e2 v (Array.mem_toList_iff.1 hv));have IL:i*size+m*size=n*size:=by rw[<-h,Nat.add_mul]
 have hsz:n*size<=cur.size:=by rw[q3];exact Nat.mul_le_mul_right _ q1
 have hst:=run_storeCells_at (P:=prog) g (i*size) e (Builtin.zeroCells z.cells m).toList 0 cur w hw (by rw[Y2];omega) h1
 have fg:(Dq t ty (.slice ((some (⟨g,0,none⟩:Addr)).map (·.add (i*size))) m c2)).run prog w=.ok (.value (cE)) (w.setRow g (cur.toList.take (i*size+0)++(Builtin.zeroCells z.cells m).toList++cur.toList.drop (i*size+0+(Builtin.zeroCells z.cells m).toList.length)).toArray):=by
  unfold Dq Builtin.clear_;simp only[Option.map_some,addr_add,Nat.zero_add,List.getElem?_toArray,List.getElem?_cons_zero,Sem.run_bind,RX.run_underlying hu,Result.andThen_ok,Ea hi YH,hst,Sem.run_pure]
 have hln:=Array.length_toList (xs:=cur);refine⟨.value (cE),_,_,fg,rfl,⟨rfl,rfl,rfl,by simp⟩,R,_,PH.le.refl _,s.bU (y:=.cells (cur.toList.take (i*size+0)++(Builtin.zeroCells z.cells m).toList++cur.toList.drop (i*size+0+(Builtin.zeroCells z.cells m).toList.length)).toArray e (0,0)) hg (λj hj=>setRow_other w g j _ hj) (setRow_heap w g cur _ e (0,0) hw),(cur.toList.take (i*size+0)++(Builtin.zeroCells z.cells m).toList++cur.toList.drop (i*size+0+(Builtin.zeroCells z.cells m).toList.length)).take (n*size),⟨rfl,?_⟩,?_,.inr ⟨g,_,rfl,aB rfl,q1,q2,?_,rfl⟩⟩
 ·subst q4;rw[List.take_take,List.take_take,Nat.min_eq_left (by omega),Nat.add_zero,List.append_assoc,List.take_append_of_le_length (by simp;omega),List.take_take,Nat.min_self]
 ·simp only[List.length_take,List.length_append,List.length_drop,Array.length_toList,Y2];omega
 ·simp only[List.size_toArray,List.length_append,List.length_take,List.length_drop,Array.length_toList,Y2];omega
end
namespace RX
-- (*cH/UU.amH).apM$1:ρ:=[.v yield,.p amI,.n n,.i n,.n r,.n r,.p rP]
abbrev ack:Hp:=[(0,8),((.b 2),(.cells [3] 3)),((.b 4),(.cells [(.ptr 5 0)] 137)),(.b 5,9)]
def IM:T:=
(.loop [.i,.p,.p] [.z (.i 0),.p [(0,1)],.p [(.b 5,6)]]
(.br (.lt 7 3)
(.ld 4 11 (.ptr 5 1) [(.b 5,9)] [.c] (.bool 10)
(.br 10
(.ret (.gY []) ack)
(.om 0 [7] [(0,8),(.b 5,9)] [.c,.p,.p] (.bool 11) [(0,12),(.b 5,13)]
(.br (.not 11)
(.ret (.gY []) [(0,12),(.b 2,.cells [3] 3),(.b 4,.cells [.ptr 5 0] 137),(.b 5,13)])
(.rg (.add 7 (.i 1))
(.again 0 [.z (.add 7 (.i 1)),.p [(0,12)],.p [(.b 5,13)]]))))))
(.ret (.gY []) ack)))
theorem IN:tree prog {hv:=[(0,[.a 0,.b 5])],vt:=[.b 5]} Tryz.f282 [.val 0,.ptr 2 0,.ptr 4 0] [(0,1),(.b 2,.cells [3] 3),(.b 4,.cells [.ptr 5 0] 137),(.b 5,6)] 7=IM:=by kernel_rfl
end RX
section
open RX
abbrev RS:=ax×Bool
theorem IP:prog.underlying 4=some .bool:=by kernel_rfl
theorem IQ:gZ prog 4=false:=by kernel_rfl
theorem zN:iA prog 4=1:=by kernel_rfl
theorem we b(s:RS):aM prog (bO 4 (.pointer (some ⟨b,1,none⟩))) (di b s) (.bool s.2):=λw R h F st ⟨a,c,_,H⟩=>by
 have:=cU IP IQ zN (Rd.left (B:=bE a s.1.length s.1) (eQ b #[.slice a s.1.length c,.bool s.2] 194)) (k:=1) (off:=0) (v:=.bool s.2) rfl;simp only[Option.map_some,addr_add]at this;exact this w R h F st H
def LS(nb rb b:Nat)(N:Int):HP:=aj (HP.one nb (.cells #[.int .i64 N] 3 (0,0))) (HP.one rb (.cells #[pt b] 137 (0,0)))
def Ve(N:Nat)(g:Nat×RS)(args:dI)(g':Nat×RS):Prop:=args= #[.int .i64 (g.1:Int)]/\g.1<N/\g.2.2=false/\g'.1=g.1+1
def Dr(N:Nat)(g:Nat×RS):Prop:=g.1<=N/\(g.1=N\/g.2.2=true)
theorem amJ:xC prog 282:=⟨_,Tryz.func282,by kernel_rfl,by kernel_rfl⟩
theorem wg b N D:az prog 258 #[pt b,.int .i64 N] D
 (λv=>aE λnb=>aE λrb=>aA (v=.func (.func 282) #[] #[pt nb,pt rb]) (aj (LS nb rb b N) D)):=by
 refine ao (ρ:=[.n b,.p D,.i N]) {} [(.ptr 0 0),2] [(.b 0,1)] 3 ?_;exact λx y=>.of λR h H=>⟨y,x,rfl,ak H⟩
theorem tj nb rb b(N:Nat)(hN:N<=4294967296) s:xH prog (.func (.func 282) #[] #[pt nb,pt rb]) (LS nb rb b N)
 (λg:Nat×RS=>di b g.2) (λ_ _=>tt) (Ve N) (Dr N) (0,s):=by
 refine⟨_,_,rfl,amJ,λl K Jx hr=>?_⟩;refine(cC (ρ:=[.v (.func (.yield l) #[] #[]),.p (K (0,s)),.n nb,.i N,.n rb,.n b,.p (di b s)]) mixed Tryz.func282 IN ?_).aK (λR h H=>?_) λ_ _ _ h=>h;rotate_left
 ·exact ae (ak (aC H)) (λ_ h=>h) λ_ h=>au h
 unfold IM;refine Iz ?_
 have iW:∀J J2:HP,HP.aT (aj J J2) (jp (λg:Nat×RS=>di b g.2) K Jx (Dr N))->HP.aT (aj J (aj (HP.one nb (.cells #[.int .i64 N] 3 (0,0))) (aj (HP.one rb (.cells #[pt b] 137 (0,0))) J2)))
  (aj (LS nb rb b N) (jp (λg:Nat×RS=>di b g.2) K Jx (Dr N))):=λJ J2 hJ=>
  (HP.aT.of λR h H=>HP.swap (ae H (λ_ h=>h) λ_ h=>aC h)).trans (HP.aT.gX (HP.aT.refl _) hJ)
 refine⟨λk p q=>∃g:Nat×RS,k=g.1/\g.1<=N/\p=K g/\q=di b g.2,λk _ _=>N - k.toNat,⟨(0,s),rfl,Nat.zero_le _,rfl,rfl⟩,?_⟩;rintro k p q ⟨g,rfl,hg,rfl,rfl⟩;have done:Dr N g->HP.aT (aj (K g) (di b g.2)) (jp (λg:Nat×RS=>di b g.2) K Jx (Dr N)):=λhf=>.of λR h H=>⟨some g,hf,ak H⟩;refine⟨λhlt=>⟨g.2.2,we b g.2,λhw=>?_,λhw=>?_⟩,λlH=>?_⟩
 ·exact iW _ _ (done ⟨hg,.inr hw⟩)
 ·have UA:g.2.2=false:=by simpa using hw
  refine(hr g #[.int .i64 (g.1:Int)] ⟨(g.1+1,g.2),rfl,by omega,UA,rfl⟩).bv (K:=tt) (.of λR h H=>aD (aW (ak H))) λv=>.of λR h H=>?_;obtain⟨b',rfl,hb⟩:=ai H;cases b' with
  |true=>
   obtain⟨g',hm,H2⟩:=hb;refine⟨true,K g',di b g'.2,rfl,⟨λh=>absurd rfl h,λ_=>⟨bh _ (by omega) (by omega),λ_=>⟨⟨g',?_,?_,rfl,rfl⟩,?_⟩⟩⟩,ak H2⟩
   ·rw[hm.2.2.2];omega
   ·rw[hm.2.2.2];omega
   ·dsimp only;omega
  |false=>
   refine⟨false,Jx,tt,rfl,⟨λ_=>iW _ _ (.of λR h H=>⟨none,ai H⟩),λh=>(by cases h)⟩,aD hb⟩
 ·exact iW _ _ (done ⟨hg,.inl (by omega)⟩)
def du{α:Type}(f:RS->α×RS):Nat->RS->List α×RS
 |0,s=>([],s)
 |n+1,s=>if s.2 then([],s)else((f s).1::(du f n (f s).2).1,(du f n (f s).2).2)
def cD{α:Type}(f:RS->α×RS)(bC:Int)(s:RS):List α×RS:=
 if(du f (bB s bC).1 (bB s bC).2).2.2 then([],(du f (bB s bC).1 (bB s bC).2).2)else du f (bB s bC).1 (bB s bC).2
theorem wj(s:RS) bC:(bB s bC).1<=4294967295:=by
 have:=mX s 4;unfold bB;split
 ·exact Nat.zero_le _
 ·split
  ·exact Nat.zero_le _
  ·show(bg s 4).1<=_;omega
theorem zh{s:RS}{n}(h:(fS s n).2.2=false):s.2=false/\(fS s n).2.1.length+n=s.1.length:=by
 unfold fS at h⊢;split at h
 ·rename_i e;rw[e]at h;cases h
 ·rename_i e;split at h
  ·cases h
  ·rw[aq e,aq (by assumption)];exact⟨by simpa using e,by simp;omega⟩
theorem lM{s:RS}{n}(h:(bg s n).2.2=false):s.2=false/\(bg s n).2.1.length+n=s.1.length:=zh h
theorem r9{s:RS}{m}(h:(bB s m).2.2=false):s.2=false/\(bB s m).2.1.length+4=s.1.length:=by
 unfold bB at h⊢;split at h
 ·rename_i e;rw[e]at h;cases h
 ·rename_i e;split at h
  ·cases h
  ·rw[aq e,aq (by assumption)];exact lM h
theorem wl{s:RS}{m}(h:(cJ s m).2.2=false):s.2=false/\(cJ s m).2.1.length+4<=s.1.length:=by
 have h1:=zh h;have h2:=r9 h1.1;refine⟨h2.1,?_⟩;have:=h1.2;unfold cJ;omega
theorem Bz(s:RS) n:(fS s n).2.1.length<=s.1.length:=by
 unfold fS;split
 ·exact Nat.le_refl _
 ·split<;>simp
theorem kg(s:RS) m:(bB s m).2.1.length<=s.1.length:=by
 have:=Bz s 4;unfold bB;split
 ·exact this
 ·split
  ·simp
  ·exact this
def tq{α:Type}(f:RS->α×RS):Prop:=∀s,(f s).2.2=false->(f s).2.1.length+1<=s.1.length
theorem LU{α:Type}(f:RS->α×RS){n i}{s}(hi:i<n)(hs:s.2=false):du f (n - i) s=((f s).1::(du f (n - (i+1)) (f s).2).1,(du f (n - (i+1)) (f s).2).2):=by
 rw[show n - i=(n - (i+1))+1 by omega]
 conv=>lhs;unfold du
 rw[aq (by simp[hs])]
theorem xU{α:Type}(f:RS->α×RS){n}{s}(h:n=0\/s.2=true):du f n s=([],s):=by
 cases n with
 |zero=>rfl
 |succ n=>unfold du;rw[aB (h.resolve_left (by omega))]
def nF{α:Type}(f:RS->α×RS)(n:Nat)(s1:RS)(g:Nat×RS)(ll:List α):Prop:=
 g.1<=n/\(g.2.2=false->ll.length+g.2.1.length<=s1.1.length)/\du f n s1=(ll++(du f (n - g.1) g.2).1,(du f (n - g.1) g.2).2)
theorem nF.init{α:Type}(f:RS->α×RS) n s1:nF f n s1 (0,s1) []:=⟨Nat.zero_le _,λ_=>by simp,by simp⟩
theorem nF.next{α:Type}{f}(hf:tq f){n}{s1}{g}{ll:List α}(h:nF f n s1 g ll)(hi:g.1<n)(hs:g.2.2=false):nF f n s1 (g.1+1,(f g.2).2) (ll++[(f g.2).1]):=by
 refine⟨hi,λhw=>?_,?_⟩
 ·have h1:=hf g.2 hw;have h2:=h.2.1 hs;simp only[List.length_append,List.length_singleton];omega
 ·rw[h.2.2,LU f hi hs];simp
theorem nF.iW{α:Type}{f}{n}{s1}{g}{ll:List α}(h:nF f n s1 g ll)(hf:Dr n g):du f n s1=(ll,g.2):=by
 rw[h.2.2,xU f (hf.2.imp (λe=>by omega) id)];simp
theorem fN(s:RS) n:(bg s n).2.1.length<=s.1.length:=Bz s n
theorem ni(s:RS) m:(cJ s m).2.1.length<=s.1.length:=Nat.le_trans (Bz _ _) (kg s m)
theorem zi{α:Type}{f:RS->α×RS}{n}{s}(h:(du f n s).2.2=false):s.2=false:=by
 cases hs:s.2 with
 |false=>rfl
 |true=>rw[xU f (.inr hs)]at h;rw[hs]at h;cases h
theorem BB{α:Type}{f:RS->α×RS}(hf:∀s,(f s).2.1.length<=s.1.length):∀(n:Nat) (s:RS),(du f n s).2.1.length<=s.1.length
 |0,s=>Nat.le_refl _
 |n+1,s=>by
  unfold du;split
  ·exact Nat.le_refl _
  ·exact Nat.le_trans (BB hf n _) (hf s)
theorem xV{α:Type}(f:RS->α×RS) m s:(cD f m s).2=(du f (bB s m).1 (bB s m).2).2:=by
 unfold cD;split<;>rfl
theorem wm{α:Type}{f:RS->α×RS}(hf:∀s,(f s).2.1.length<=s.1.length) m s:(cD f m s).2.1.length<=s.1.length:=by
 rw[xV];exact Nat.le_trans (BB hf _ _) (kg s m)
theorem IR{α:Type}{f:RS->α×RS}{m}{s}(h:(cD f m s).2.2=false):s.2=false:=by
 rw[xV]at h;exact(r9 (zi h)).1
end
namespace RX
-- cH/check.arv:ρ:=[.i sum,.a ba,.n bl,.n bc,.p bP]
abbrev wn:Hp:=[(0,3)]
abbrev OO:List W:=[(.ptr 0 0),(.a (.int .u64 (.o1 (.wrap .u64) (.of 3)))),(.k 4)]
abbrev Zw:List W:=[(.ptr 0 0),(.a (.int .u8 (.o1 (.wrap .u8) 3)))]
abbrev wo:Hp:=[(.b 0,1)]
abbrev OP:List FV:=[(.z (.i 0)),(.p [(.b 0,8)]),(.p [(6,7)])]
def wq:T:=
(.call 108 OO wo [.p] (.gY []) [(.b 0,8)]
(.read (.binOp .eql 261 (.tmp 13) (.const .nilFunc) 261) 4 [(13,.val 6)] [(6,7)] [.c] (.bool 9)
(.br 9
(.ret (.gY []) [(.b 0,8),(2,5),(6,7)])
(.loop [.i,.p,.p] OP
(.br (.lt 10 (.of 3))
(.need (.le (.i 0) 10)
(.need (.is 2)
(.ld 104 19 (.mz 2 10 2 0) [(2,5)] [.s,.i] (.agg [.str 13,14])
(.new
(.om 6 [.ptr 0 0,.agg [.str 13,14]] [(6,12),(.b 0,11)] [.p,.p] (.gY []) [(6,16),(.b 0,17)]
(.rg (.add 10 (.i 1))
(.again 0 [.z (.add 10 (.i 1)),.p [(.b 0,17)],.p [(6,16)]])))))))
(.ret (.gY []) [(.b 0,11),(2,5),(6,12)]))))))
theorem zO:tree prog {hv:=[(0,[.b 0,.a 6])],vt:=[.b 0]} Tryz.f186 [.ptr 0 0,.s 2,.val 6] [(.b 0,1),(2,5),(6,7)] 8=wq:=by kernel_rfl
def BD:T:=
(.call 108 OO wo [.p] (.gY []) [(.b 0,8)]
(.read (.binOp .eql 200 (.tmp 13) (.const .nilFunc) 200) 4 [(13,.val 6)] [(6,7)] [.c] (.bool 9)
(.br 9
(.ret (.gY []) [(.b 0,8),(2,5),(6,7)])
(.loop [.i,.p,.p] OP
(.br (.lt 10 (.of 3))
(.need (.le (.i 0) 10)
(.need (.is 2)
(.ld 101 19 (.mz 2 10 5 0) [(2,5)] [.i,.i,.i,.a,.n,.n,.a,.n,.n] (.agg [13,14,15,.s 16,.s 19])
(.new
(.om 6 [.ptr 0 0,.agg [13,14,15,.s 16,.s 19]] [(6,12),(.b 0,11),(2,5)] [.p,.p] (.gY []) [(6,23),(.b 0,24),(2,5)]
(.rg (.add 10 (.i 1))
(.again 0 [.z (.add 10 (.i 1)),.p [(.b 0,24)],.p [(6,23)]])))))))
(.ret (.gY []) [(.b 0,11),(2,5),(6,12)]))))))
theorem Ds:tree prog {hv:=[(0,[.b 0,.a 6])],vt:=[.b 0]} Tryz.f115 [.ptr 0 0,.s 2,.val 6] [(.b 0,1),(2,5),(6,7)] 8=BD:=by kernel_rfl
def Ee:T:=
(.new
(.call 53 [.ptr 0 0,.a (.int .u8 (.o1 (.wrap .u8) 2))] wo [.p] (.gY []) [(.b 0,14)]
(.call 53 Zw [(.b 0,14)] [.p] (.gY []) [(.b 0,15)]
(.call 108 [.ptr 0 0,.a (.int .u64 (.o1 (.wrap .u64) 4)),.k 2] [(.b 0,15)] [.p] (.gY []) [(.b 0,16)]
(.call 54 [.ptr 0 0,.s 5] [(.b 0,16),(5,8)] [.p,.p] (.gY []) [(.b 0,17),(5,18)]
(.call 186 [.ptr 0 0,.s 9,.a (.func 187 [])] [(.b 0,17),(9,12)] [.p,.p] (.gY []) [(.b 0,19),(9,20)]
(.ret (.gY []) [(.b 0,19),(5,18),(9,20)])))))))
theorem FT:tree prog {} Tryz.f116 [.ptr 0 0,.agg [2,3,4,.s 5,.s 9]] [(.b 0,1),(5,8),(9,12)] 13=Ee:=by kernel_rfl
end RX
section
open RX
def nib(s:Nat):Nat:=(s / 16) ^^^ (q7[s%16]?.getD 0)
def ahK:Nat->Nat->Nat|0,y=>y|k+1,y=>ahK k (nib y)
def Zx(s:Nat)(b:UInt8):Nat:=nib (nib (s ^^^ b.toNat))
def IS(s:Nat)(l:ax):Nat:=l.foldl Zx s
def Vf(s:Nat)(l:ax):Nat:=4294967295 ^^^ IS (4294967295 ^^^ s) l
def se(l:ax):Nat:=Vf 0 l
theorem BE{a b}(ha:a<4294967296)(hb:b<4294967296):a ^^^ b<4294967296:=Nat.xor_lt_two_pow (n:=32) ha hb
theorem IT(k:Nat):q7[k]?.getD 0<4294967296:=by
 by_cases h:k<16
 ·have:∀k<16,q7[k]?.getD 0<4294967296:=by decide
  exact this k h
 ·rw[List.getElem?_eq_none (by show 16<=k;omega)];decide
theorem LV{s}(h:s<4294967296):nib s<4294967296:=BE (by omega) (IT _)
theorem Zy{s}(h:s<4294967296) b:Zx s b<4294967296:=LV (LV (BE h (by have:=b.toNat_lt;omega)))
theorem OQ{s}(h:s<4294967296):∀l:ax,IS s l<4294967296:=λl=>by
 induction l generalizing s with
 |nil=>exact h
 |cons b l ih=>exact ih (Zy h b)
theorem Vg{s}(h:s<4294967296) l:Vf s l<4294967296:=BE (by decide) (OQ (BE (by decide) h) l)
theorem QZ s l b:IS s (l++[b])=Zx (IS s l) b:=by simp[IS]
theorem Vh{x:Nat}(h:x<4294967296):IntKind.u32.wrap (x:Int)=x:=eZ ⟨by simp[IntKind.min,IntKind.signed],by simp[IntKind.max,IntKind.signed,IntKind.bits];omega⟩
theorem LW{a b:Nat}(ha:a<4294967296)(hb:b<4294967296):bits .xor .u32 (a:Int) (b:Int)=((a ^^^ b:Nat):Int):=by
 have e:bits .xor .u32 (a:Int) (b:Int)=IntKind.u32.wrap ((BitVec.ofInt 32 (a:Int) ^^^ BitVec.ofInt 32 (b:Int)).toNat:Int):=rfl;rw[e,BitVec.ofInt_natCast,BitVec.ofInt_natCast,BitVec.toNat_xor,BitVec.toNat_ofNat,BitVec.toNat_ofNat,Nat.mod_eq_of_lt ha,Nat.mod_eq_of_lt hb];exact Vh (BE ha hb)
theorem aed{a:Nat}(ha:a<4294967296):bits .and .u32 (a:Int) 15=((a%16:Nat):Int):=by
 have e:bits .and .u32 (a:Int) ((15:Nat):Int)=IntKind.u32.wrap ((BitVec.ofInt 32 (a:Int) &&& BitVec.ofInt 32 ((15:Nat):Int)).toNat:Int):=rfl;have e2:(((15:Nat):Int))=15:=rfl;rw[<-e2,e,BitVec.ofInt_natCast,BitVec.ofInt_natCast,BitVec.toNat_and,BitVec.toNat_ofNat,BitVec.toNat_ofNat,Nat.mod_eq_of_lt ha,Nat.mod_eq_of_lt (by decide),show(15:Nat)=2^4 - 1 by decide,Nat.and_two_pow_sub_one_eq_mod];exact Vh (by omega)
theorem ahL(a:Nat):((a:Int).fdiv (2^(min (4:Int).toNat IntKind.u32.bits)))=((a / 16:Nat):Int):=by
 rw[show min (4:Int).toNat IntKind.u32.bits=4 by decide,Int.fdiv_eq_ediv_of_nonneg _ (by decide)];simp
def ahM(x:Nat):Value:=.int .u32 x
theorem Vi A:Rd A (some ⟨0,0,none⟩) (q7.map ahM):=λw R h F s _ j u hj=>by
 obtain⟨cur,ty,fr,e,hc⟩:=s.gl;refine⟨_,0,rfl,?_⟩;rw[mV (s.oR _ _ e),Nat.zero_add];rw[List.getElem?_map]at hj;cases hf:q7[j]? with
 |none=>rw[hf]at hj;cases hj
 |some x=>rw[hf]at hj;cases hj;exact hc j x hf
theorem Vj{s:Nat}(hs:s<4294967296){i:Nat}{t ty} A:
 aR prog (bZ (.unOp .xor t (.tmp i)) ty [(i,.int .u32 (s:Int))]) A (λv=>aA (v=.int .u32 ((4294967295 ^^^ s:Nat):Int)) A):=λw R h F st H=>by
 refine⟨.value (.int .u32 ((4294967295 ^^^ s:Nat):Int)),_,w,?_,rfl,Same.refl w,R,h,PH.le.refl _,st,rfl,H⟩;have e:bits .xor .u32 ((4294967295:Nat):Int) (s:Int)=((4294967295 ^^^ s:Nat):Int):=LW (by decide) hs;have e2:(if IntKind.u32.signed=true then -1 else IntKind.u32.max)=((4294967295:Nat):Int):=by decide
 simp only[bZ,execOp,lW,List.find?_cons,beq_self_eq_true,Option.map_some,Option.getD_some,unary_xor,e2,intBits_xor,e];rfl
theorem ahN:prog.underlying 259=some (.array 16 143):=by kernel_rfl
theorem ahO:(prog.info? 143).isSome=true:=by kernel_rfl
theorem ahP:iA prog 143=1:=by kernel_rfl
theorem acl:prog.underlying 143=some (.int .u32):=by kernel_rfl
theorem ahQ:gZ prog 143=false:=by kernel_rfl
theorem Vk{A}{t:Nat}{ty}{k:Nat}(hk:k<16):
 aM prog (bZ (.indexAddr 259 (.global 0) (.tmp t)) ty [(t,.int .u32 (k:Int))]) A (.pointer (some ⟨0,k,none⟩)):=λw R h F s _=>by
 obtain⟨i,hi⟩:=Option.isSome_iff_exists.1 ahO;simp only[bZ,execOp,lW,List.find?_cons,beq_self_eq_true,Option.map_some,Option.getD_some];rw[Sem.run_bind,RX.run_indexAt_array ahN hi (by omega) (by omega),ahP];simp[addr_add]
theorem Vl{A}{k}(hk:k<16):aM prog (bO 143 (.pointer (some ⟨0,k,none⟩))) A (.int .u32 ((q7[k]?.getD 0:Nat):Int)):=by
 have hx:(q7.map ahM)[k]? =some (.int .u32 ((q7[k]?.getD 0:Nat):Int)):=by
  rw[List.getElem?_map];cases h:q7[k]? with
  |none=>rw[List.getElem?_eq_none_iff]at h;exact absurd h (by show ¬16<=k;omega)
  |some x=>rfl
 have:=cU acl ahQ ahP (Vi A) (k:=k) (off:=0) (by simpa using hx);simpa[addr_add]using this
theorem Zz(s:Nat)(hs:s<4294967296) a(n c:Nat)(l:ax)(S:HP)(hr:bX S a n (l.map eX))(hl:l.length=n)(ha:n≠0->a.isSome=true)(hb:n<=140737488355328):
 az prog 114 #[.int .u32 s,.slice a n c] S (λv=>aA (v=.int .u32 ((Vf s l:Nat):Int)) S):=by
 refine ao (ρ:=[.i s,.a a,.n n,.n c,.p S]) {} [(.a (.int .u32 0)),(.s 1)] [(1,4)] 5 ?_;refine(Vj hs _).wk ?_;rintro v R h ⟨rfl,H⟩;refine⟨_,rfl,?_,H⟩;have h0:4294967295 ^^^ s<4294967296:=BE (by decide) hs;refine⟨λx k=>∃j:Nat,k=j/\j<=n/\x=((IS (4294967295 ^^^ s) (l.take j):Nat):Int),λ_ k=>n - k.toNat,⟨0,rfl,Nat.zero_le _,rfl⟩,?_⟩;rintro x k ⟨j,rfl,hj,rfl⟩;have hc:=OQ h0 (l.take j);refine⟨λhlt=>?_,λlH=>?_⟩
 ·have gP:j<l.length:=by omega
  refine⟨by omega,λ_=>⟨ha (by omega),λ_=>⟨(l[j].toNat:Int),?_,?_⟩⟩⟩
  ·exact cU Io Zi sz8 hr.rd (k:=(j:Int).toNat*1) (off:=0) (v:=eX l[j]) (by simp[List.getElem?_eq_getElem gP])
  ·have hb8:=l[j].toNat_lt;refine⟨⟨by simp[IntKind.min,IntKind.signed],by simp[IntKind.max,IntKind.signed,IntKind.bits];omega⟩,λ_=>?_⟩;rw[LW hc (by omega)];have G9:IS (4294967295 ^^^ s) (l.take j) ^^^ l[j].toNat<4294967296:=BE hc (by omega);refine⟨λx k=>∃i:Nat,k=i/\i<=2/\∃y:Nat,x=(y:Int)/\y<4294967296/\ahK (2 - i) y=Zx (IS (4294967295 ^^^ s) (l.take j)) l[j],λ_ k=>2 - k.toNat,⟨0,rfl,by omega,_,rfl,G9,rfl⟩,?_⟩;rintro x k ⟨i,rfl,hi,y,rfl,hy,hn⟩;refine⟨λh2=>?_,λh2=>?_⟩
   ·have hk:y%16<16:=by omega
    refine⟨.pointer (some ⟨0,y%16,none⟩),?_,((q7[y%16]?.getD 0:Nat):Int),?_,bh _ (by omega) (by omega),λ_=>?_⟩
    ·rw[aed hy];exact Vk hk
    ·exact Vl hk
    ·rw[ahL,LW (by omega) (IT _)];refine⟨⟨i+1,by omega,by omega,_,rfl,LV hy,?_⟩,by dsimp only;omega⟩;rw[<-hn,show 2 - i=(2 - (i+1))+1 by omega];rfl
   ·obtain rfl:i=2:=by omega
    refine⟨bh _ (by omega) (by omega),λ_=>⟨⟨j+1,by omega,by omega,?_⟩,by dsimp only;omega⟩⟩;rw[List.take_succ_eq_append_getElem gP,QZ,<-hn];rfl
 ·obtain rfl:j=l.length:=by omega
  rw[List.take_length]at hc⊢;refine(Vj hc _).wk ?_;rintro v R h ⟨rfl,H⟩;exact⟨_,rfl,.of λR h H=>⟨rfl,H⟩,H⟩
theorem BF a n c l S(hr:bX S a n (l.map eX))(hl:l.length=n)(ha:n≠0->a.isSome=true)(hb:n<=140737488355328):
 az prog 66 #[.slice a n c] S (λv=>aA (v=.int .u32 ((se l:Nat):Int)) S):=by
 refine ao (ρ:=[.a a,.n n,.n c,.p S]) {} [(.s 0)] wn 4 ?_;refine(Zz 0 (by decide) a n c l S hr hl ha hb).wk ?_;rintro v R h ⟨rfl,H⟩;exact⟨_,S,rfl,.of λR h H=>⟨rfl,H⟩,H⟩
def Q0(ts:Array TypeId)(ty:TypeId)(u v:Value):Sem Next:=do pure (.value (<-Builtin.append_ ts ty #[u,v]))
theorem IU{ts}{ty}{i j:Nat}{u v}(h:i≠j):bZ (.call ⟨.builtin .append,#[.tmp i,.tmp j],ts⟩) ty [(i,u),(j,v)]=Q0 ts ty u v:=by
 have h':(i==j)=false:=by simpa using h
 simp[bZ,execOp,resolve,lW,invoke,builtin,h',Q0]
theorem FU:prog.info? 5=some (prog.info? 5).get!:=by kernel_rfl
theorem OR:prog.underlying 3=some (.int .i64):=by kernel_rfl
theorem Vn z n:(Builtin.zeroCells #[z] n).toList.length=n:=by simp[Builtin.zeroCells]
theorem Ad z n:(Builtin.zeroCells #[z] n).size=n:=by simp[Builtin.zeroCells]
theorem Vo z n:(Builtin.zeroCells #[z] n).toList=List.replicate n z:=by
 refine List.ext_getElem (by simp[Builtin.zeroCells]) λi h1 h2=>?_;simp[Builtin.zeroCells,Nat.mod_one]
theorem aee{ty}(m:Nat)(h0:0<m)(hb:m<=140737488355328) A:
 aR prog (Q0 #[37,3] ty (.slice none 0 0) (an (m:Int))) A
  (λv=>aE λx=>aE λc=>aA (v=.slice (some ⟨x,0,none⟩) m c) (aj (dS (some ⟨x,0,none⟩) m c (List.replicate m 0)) A)):=λw R h F s a=>by
 obtain⟨i,hi,h1,h2,h3⟩:=info_parts yY;have hr:=Lib.run_append_nil_zeros (P:=prog) w 37 3 ty 5 i (.int .u8 0) .i64 .i64 qB OR hi h1 m h0 (by omega) (by omega) (by rw[h3];omega);have s0:Sat w.drew R h F:=s.drew _;obtain⟨s1,d1⟩:=s0.alloc (.cells (Builtin.zeroCells (Value.int .u8 0).cells m++Builtin.zeroCells (Value.int .u8 0).cells (grownCap w m 0 5 - m)) 5 (0,0));have Q3:=grownCap_ge w m 0 5;have vO:Same w (w.drew.alloc (.cells (Builtin.zeroCells (Value.int .u8 0).cells m++Builtin.zeroCells (Value.int .u8 0).cells (grownCap w m 0 5 - m)) 5 (0,0))):=Same.trans (b:=w.drew) ⟨rfl,rfl,rfl,Nat.le_refl _⟩ (Same.alloc w.drew _);refine⟨_,_,_,by unfold Q0;rw[Sem.run_bind,hr];rfl,rfl,vO,R,_,PH.le.refl _,s1,w.heap.size,_,rfl,_,_,d1,PH.dC _ _,PH.cP d1,⟨by simp,.inr ⟨_,_,rfl,PH.cX _ _,Q3,grownCap_le_maxLen _ _ _ _ (by unfold maxLen;omega),?_,?_⟩⟩,a⟩
 ·rw[show(Value.int .u8 0).cells= #[.int .u8 0]from rfl,Array.size_append,Ad,Ad];omega
 ·rw[show(Value.int .u8 0).cells= #[.int .u8 0]from rfl,Array.toList_append,Nat.mul_one,List.take_left' (Vn _ _),Vo,List.map_replicate];rfl
theorem Vp(m:Nat)(hb:m<=140737488355328):
 az prog 179 #[.slice none 0 0,an (m:Int)] tt (λv=>aE λa=>aE λc=>aA (v=.slice a 0 c) (dS a 0 c [])):=by
 refine ao (ρ:=[.a none,.n 0,.n 0,.p tt,.i m]) {dN:=true} [(.s 0),4] wn 5 ?_;refine⟨λh=>absurd h (by omega),λ_=>⟨bh _ (by omega) (by omega),λ_=>⟨bh _ (by omega) (by omega),λ_=>⟨λhm=>?_,λhm=>?_⟩⟩⟩⟩
 ·refine⟨none,0,0,?_,?_⟩
  ·rw[jc];exact gp qB FU tt none 0 0 none (some 0) none (Nat.le_refl _) (Nat.le_refl _) (Nat.le_refl _) (λh=>by cases h)
  ·rw[IU (by decide),show((m:Int) - ((0:Nat) - (0:Nat):Int))=(m:Int) by omega];refine(aee m (by omega) hb tt).wk ?_;rintro v R h ⟨x,c,rfl,H⟩;have hle:=bY.le (ai H);refine⟨some ⟨x,0,none⟩,m,c,dS (some ⟨x,0,none⟩) m c (List.replicate m 0),tt,rfl,⟨some ⟨x,0,none⟩,0,c,?_,?_⟩,H⟩
   ·rw[jc]
    have h2:aM prog (i6 37 (.slice (some ⟨x,0,none⟩) m c) (iv none) (iv (some 0)) (iv none)) (dS (some ⟨x,0,none⟩) m c (List.replicate m 0)) (.slice (some ⟨x,0,none⟩) 0 c):=by
     simpa[addr_add]using gp qB FU (dS (some ⟨x,0,none⟩) m c (List.replicate m 0)) (some ⟨x,0,none⟩) m c none (some 0) none (Nat.le_refl _) (Nat.zero_le _) (Nat.le_refl _) (λh=>by cases h)
    exact h2
   ·refine .of λR h H=>⟨some ⟨x,0,none⟩,c,rfl,?_⟩;obtain⟨hl,h'⟩:=ah H;rcases h' with⟨e,_⟩|⟨g,cur,e,hg,q1,q2,q3,q4⟩
    ·cases e
    ·exact⟨by simp,.inr ⟨g,cur,e,hg,Nat.zero_le _,q2,q3,by simp⟩⟩
 ·exact .of λR h H=>⟨none,0,rfl,bY.nil _ _ R h⟩
theorem bX.left{A B}{a}{n}{xs}(r:bX A a n xs):bX (aj A B) a n xs:=⟨r.rd.left,λR h H e=>r.none R h (ai H) e⟩
theorem bX.right{A B}{a}{n}{xs}(r:bX B a n xs):bX (aj A B) a n xs:=⟨r.rd.right,λR h H e=>r.none R h (ah H) e⟩
theorem OS:gZ prog 37=false:=by kernel_rfl
theorem ZA:iA prog 37=1:=by kernel_rfl
theorem LX b a1 a2 n1 c1 n2 c2(l1 l2:ax)(P1 P2:HP)(r1:bX P1 a1 n1 (l1.map eX))(r2:bX P2 a2 n2 (l2.map eX))(h1:l1.length=n1)(h2:l2.length=n2)
 (s1:n1≠0->a1.isSome=true) (s2:n2≠0->a2.isSome=true) (hb:n1+n2<=140737488355328):
 az prog 109 #[.slice (some ⟨b,0,none⟩) 2 2] (aj (HP.one b (.cells #[.slice a1 n1 c1,.slice a2 n2 c2] 37 (0,0))) (aj P1 P2))
  (λv=>aE λa=>aE λc=>aA (v=.slice a (n1+n2) c) (aj (dS a (n1+n2) c (l1++l2)) (aj (HP.one b (.cells #[.slice a1 n1 c1,.slice a2 n2 c2] 37 (0,0))) (aj P1 P2)))):=by
 generalize hS:aj (HP.one b (.cells #[.slice a1 n1 c1,.slice a2 n2 c2] 37 (0,0))) (aj P1 P2)=S
 have yW:Rd S (some ⟨b,0,none⟩) [.slice a1 n1 c1,.slice a2 n2 c2]:=by
  subst hS;exact Rd.left (eQ b #[.slice a1 n1 c1,.slice a2 n2 c2] _)
 have hr1:bX S a1 n1 (l1.map eX):=by subst hS;exact(r1.left).right
 have xF:bX S a2 n2 (l2.map eX):=by subst hS;exact(r2.right).right
 refine ao (ρ:=[.a (some ⟨b,0,none⟩),.n 2,.n 2,.p S]) {hv:=[(2,[(.a 6)])]} [(.s 0)] wn 4 ?_;refine⟨λx k=>(k=0/\x=0)\/(k=1/\x=n1)\/(k=2/\x=n1+n2),λ_ k=>2 - k.toNat,.inl ⟨rfl,rfl⟩,?_⟩;intro x k Dt
 have Vq:aM prog (bO 37 (pt b)) S (.slice a1 n1 c1):=by
  have:=cU qB OS ZA yW (k:=0) (off:=0) (v:=.slice a1 n1 c1) rfl;simpa[addr_add]using this
 have ld2:aM prog (bO 37 (.pointer (some ⟨b,1,none⟩))) S (.slice a2 n2 c2):=by
  have:=cU qB OS ZA yW (k:=1) (off:=0) (v:=.slice a2 n2 c2) rfl;simpa[addr_add]using this
 refine⟨λhlt=>⟨by omega,λ_=>⟨rfl,λ_=>?_⟩⟩,λlH=>?_⟩
 ·rcases Dt with⟨rfl,rfl⟩|⟨rfl,rfl⟩|⟨rfl,rfl⟩
  ·refine⟨a1,n1,c1,by simpa[addr_add]using Vq,bh _ (by omega) (by omega),λ_=>⟨λh=>absurd h (by omega),λ_=>⟨bh _ (by omega) (by omega),λ_=>⟨.inr (.inl ⟨rfl,by omega⟩),by dsimp only;omega⟩⟩⟩⟩
  ·refine⟨a2,n2,c2,by simpa[addr_add]using ld2,bh _ (by omega) (by omega),λ_=>⟨λh=>absurd h (by omega),λ_=>⟨bh _ (by omega) (by omega),λ_=>⟨.inr (.inr ⟨rfl,by omega⟩),by dsimp only;omega⟩⟩⟩⟩
  ·omega
 ·obtain rfl:x=((n1+n2:Nat):Int):=by omega
  refine(Vp (n1+n2) hb).wk ?_;rintro v R h ⟨a,c,rfl,H⟩;refine⟨a,0,c,dS a 0 c [],rfl,?_,H⟩;refine⟨λa n c k p=>∃ll:ax,n=ll.length/\HP.aT p (dS a ll.length c ll)/\((k=0/\ll=[])\/(k=1/\ll=l1)\/(k=2/\ll=l1++l2)),λ_ _ _ k _=>2 - k.toNat,⟨[],rfl,HP.aT.refl _,.inl ⟨rfl,rfl⟩⟩,?_⟩;rintro a n c k p ⟨ll,rfl,hp,hk⟩;refine⟨λhlt=>⟨by omega,λ_=>⟨rfl,λ_=>?_⟩⟩,λlH=>?_⟩
  ·rcases hk with⟨rfl,rfl⟩|⟨rfl,rfl⟩|⟨rfl,rfl⟩
   ·refine⟨a1,n1,c1,by simpa[addr_add]using Vq,?_⟩;refine(oB a 0 c [] S a1 n1 c1 l1 hr1 h1 s1 (by omega)).bv ((HP.aT.aj hp S).trans (.of λ_ _=>aD)) λv=>.of λR h H=>?_;obtain⟨a',c',rfl,H'⟩:=ai H;refine⟨a',_,c',dS a' (0+n1) c' ([]++l1),rfl,⟨bh _ (by omega) (by omega),λ_=>⟨⟨l1,by omega,?_,.inr (.inl ⟨rfl,rfl⟩)⟩,by dsimp only;omega⟩⟩,H'⟩;rw[Nat.zero_add,List.nil_append,h1];exact HP.aT.refl _
   ·refine⟨a2,n2,c2,by simpa[addr_add]using ld2,?_⟩;refine(oB a ll.length c ll S a2 n2 c2 l2 xF h2 s2 (by omega)).bv ((HP.aT.aj hp S).trans (.of λ_ _=>aD)) λv=>.of λR h H=>?_;obtain⟨a',c',rfl,H'⟩:=ai H;refine⟨a',_,c',dS a' (ll.length+n2) c' (ll++l2),rfl,⟨bh _ (by omega) (by omega),λ_=>⟨⟨ll++l2,by simp;omega,?_,.inr (.inr ⟨rfl,rfl⟩)⟩,by dsimp only;omega⟩⟩,H'⟩;rw[List.length_append,h2];exact HP.aT.refl _
   ·omega
  ·obtain⟨rfl,rfl⟩:k=2/\ll=l1++l2:=by
    rcases hk with⟨rfl,_⟩|⟨rfl,_⟩|⟨rfl,e⟩
    ·omega
    ·omega
    ·exact⟨rfl,e⟩
   have e:(l1++l2).length=n1+n2:=by rw[List.length_append,h1,h2]
   refine(HP.aT.gX (HP.aT.refl S) hp).trans (.of λR h H=>⟨a,c,by rw[e],?_⟩);rw[e]at H;exact ak H
def ml(l:ax):ax:=l++eg (se l) 4
def cO(l:ax):Option ax:=if l.length<4 then none else if xE (l.drop (l.length - 4))=se (l.take (l.length - 4))then some (l.take (l.length - 4))else none
theorem kh l:(ml l).length=l.length+4:=by simp[ml,bF]
theorem FW l:se l<4294967296:=Vg (by decide) l
theorem FX a n c l S(hr:bX S a n (l.map eX))(hl:l.length=n)(ha:n≠0->a.isSome=true)(hb:n<=140737488355000):
 az prog 56 #[.slice a n c] S (λv=>aE λa'=>aE λc'=>aA (v=.slice a' (ml l).length c') (aj S (dS a' (ml l).length c' (ml l)))):=by
 refine ao (ρ:=[.a a,.n n,.n c,.p S]) {aF:=[109]} [(.s 0)] wn 4 ?_;intro x;refine(BF a n c l S hr hl ha (by omega)).wk ?_;rintro v R h ⟨rfl,H⟩;have hlt:=FW l;refine⟨_,S,rfl,⟨UW _ (by omega) (by omega),λ_=>?_⟩,H⟩;refine(fB x [] (se l) 4 (by omega) (by simp)).aK (λR h H=>⟨none,0,ak (ae (aW H) (λy _=>bY.nil _ _ R y) λ_ h=>h)⟩) ?_;rintro v R h ⟨rfl,xa,xc,H⟩;refine⟨xa,_,xc,_,rfl,?_,H⟩;refine(kF x ([]++eg (se l) 4) (by simp[bF])).aK (λR h H=>⟨xa,xc,H⟩) ?_;rintro v R h ⟨a',c',rfl,H⟩;obtain⟨h1,h2,d,q1,q2,⟨ya,yc,HW⟩,HO⟩:=H;have e4:([]++eg (se l) 4).length=4:=by simp[bF]
 have Fw:a'.isSome=true:=bY.some HO (by omega);refine⟨a',_,c',dS a' _ c' _,ya,_,yc,dS ya _ yc _,rfl,λy=>?_,h2,h1,d.symm,q2,q1,HO,HW⟩;refine(LX y a a' n c _ c' l ([]++eg (se l) 4) S (dS a' _ c' _) hr (ow _ _ _ _ _ _) hl rfl ha (λ_=>Fw) (by omega)).wk ?_;rintro v R h ⟨b',d',rfl,H⟩;refine⟨b',_,d',dS b' _ d' _,rfl,.of λR h H=>⟨b',d',?_,?_⟩,H⟩
 ·rw[kh,e4,hl]
 ·rw[kh,hl];rw[e4]at H;exact H
theorem bX.ahR{S}{a}{n}{xs}(r:bX S a n xs) o k(hk:o+k<=n) z[Decidable z](hz:z->k=0):bX S (if z then a else a.map λx=>x.add o) k ((xs.drop o).take k) where
 rd w R h F s H j u hj:=by
  rw[List.getElem?_take]at hj;split at hj
  ·rename_i hjk;rw[List.getElem?_drop]at hj;obtain⟨g,off,rfl,hc⟩:=r.rd w R h F s H (o+j) u hj;rw[aq (λh=>by have:=hz h;omega)];refine⟨g,off+o,by rw[Option.map_some,RX.addr_add],?_⟩;rw[Nat.add_assoc];exact hc
  ·cases hj
 none R h H e:=by
  split at e
  ·exact hz ‹_›
  ·have:=r.none R h H (by simpa using e);omega
theorem tx a n c l S(hr:bX S a n (l.map eX))(hl:l.length=n)(hc:n<=c)(ha:n≠0->a.isSome=true)(hb:n<=140737488355000):
 az prog 58 #[.slice a n c] S (λv=>aE λa'=>aE λc'=>aA (v=.tuple #[.slice a' ((cO l).getD []).length c',an (if(cO l).isSome then 0 else 3)])
  (aj S (dS a' ((cO l).getD []).length c' ((cO l).getD [])))):=by
 refine ao (ρ:=[.a a,.n n,.n c,.p S]) {} [(.s 0)] wn 4 ?_;subst hl
 have bad:∀R h,cO l=none->S.p R h->(aE λa'=>aE λc'=>aA (Value.tuple #[.slice none 0 0,an 3]=.tuple #[.slice a' ((cO l).getD []).length c',an (if(cO l).isSome then 0 else 3)])
  (aj S (dS a' ((cO l).getD []).length c' ((cO l).getD [])))).p R h:=λR h e H=>by
  rw[e];exact⟨none,0,rfl,ak (ae (aW H) (λy _=>bY.nil _ _ R y) λ_ h=>h)⟩
 refine⟨bh _ (by omega) (by omega),λ_=>⟨λh4=>?_,λh4=>?_⟩⟩
 ·exact .of λR h H=>bad R h (by unfold cO;rw[aB (by omega)]) H
 ·obtain⟨m,hm⟩:∃m,l.length=m+4:=⟨l.length - 4,by omega⟩;have em:((l.length:Int) - 4)=(m:Nat):=by omega
  rw[em]
  have r1:bX S (if m=0 then a else a.map λx=>x.add (0*iA prog 5)) m ((l.take m).map eX):=by
   have:=hr.ahR 0 m (by omega) (m=0) (λh=>h);rw[Nat.zero_mul,List.map_take];simpa using this
  have r2:bX S (if c=m then a else a.map λx=>x.add (m*iA prog 5)) 4 ((l.drop m).map eX):=by
   have:=hr.ahR m 4 (by omega) (c=m) (λh=>by omega);rw[sz8,Nat.mul_one,List.map_drop]
   rwa [List.take_of_length_le (by simp;omega)]at this
  have hA1:m≠0->(if m=0 then a else a.map λx=>x.add (0*iA prog 5)).isSome=true:=λh=>by
   rw[aq h,Option.isSome_map];exact ha (by omega)
  have lt1:(l.take m).length=m:=by rw[List.length_take];omega
  have lt2:(l.drop m).length=4:=by rw[List.length_drop];omega
  refine⟨(if m=0 then a else a.map λx=>x.add (0*iA prog 5)),m,m,by rw[jc];exact gp qB FU S a l.length c (some 0) (some m) (some m) (Nat.zero_le _) (Nat.le_refl _) (by show m<=c;omega) (λ_=>rfl),(if c=m then a else a.map λx=>x.add (m*iA prog 5)),4,c - m,?_,?_⟩
  ·rw[jc];have:=gp qB FU S a l.length c (some m) none none (by show m<=l.length;omega) (by show l.length<=c;omega) (Nat.le_refl _) (λh=>by cases h);have e4:l.length - m=4:=by omega
   simp only[Option.getD_some,Option.getD_none,e4]at this;exact this
  refine(pS _ 4 (c - m) (l.drop m) S r2 lt2 (by omega)).wk ?_;rintro v R h ⟨b,rfl,H⟩;refine⟨b,_,S,rfl,?_,ak H⟩;refine(ig b (l.drop m,false) 4 (by omega)).wk ?_;rintro v R h ⟨rfl,H⟩;refine⟨_,_,rfl,?_,H⟩;refine(BF _ m m (l.take m) S r1 lt1 hA1 (by omega)).wk ?_;rintro v R h ⟨rfl,H⟩;have hlt:=FW (l.take m)
  have hn:(bg (l.drop m,false) 4).1=xE (l.drop m):=by
   unfold bg fS;rw[aq (by simp),aq (by rw[lt2];omega),List.take_of_length_le (by rw[lt2];omega)]
  rw[hn]
  have hu:cO l=if xE (l.drop m)=se (l.take m)then some (l.take m)else none:=by
   unfold cO;rw[aq (by omega),show l.length - 4=m by omega]
  refine⟨_,S,rfl,⟨UW _ (by omega) (by omega),λ_=>⟨λhne=>?_,λhe=>?_⟩⟩,H⟩
  ·exact .of λR h H=>bad R h (by rw[hu,aq (by omega)]) H
  ·rw[aB (by omega)]at hu;refine(iC S _ m m (l.take m) r1 lt1 (by omega)).wk ?_;rintro v R h ⟨a',c',rfl,H⟩;refine⟨a',m,c',dS a' m c' (l.take m),S,rfl,.of λR h H=>?_,H⟩;rw[hu];refine⟨a',c',?_,?_⟩
   ·simp only[Option.getD_some,Option.isSome_some,if_true,lt1]
   ·simp only[Option.getD_some,lt1];exact H
end
namespace RX
def jg:=(({aF:=[251,279,51,223,215,99999,99999]}:jo).aF)
abbrev qI:List W:=[(.s 0),(.val 4)]
abbrev qJ:Hp:=[(0,3),(4,5)]
abbrev uS:Hp:=[(.b 0,1)]
abbrev Vr:List A:=[9,10,11,(.bool 12),13,14,15,16,(.s 17),20,21,(.s 22),25,26,27,28]
abbrev sf:Hp:=[(0,3)]
abbrev Vs:Hp:=[(1,4)]
abbrev FY:List FV:=[(.z (.i 0)),(.z (.i 0)),(.p [(4,5)])]
abbrev tz:Hp:=[(0,7),(4,8)]
abbrev OT:List W:=[(.ptr 0 0),(.a (.int .u64 (.o1 (.wrap .u64) (.of 3)))),(.k 4)]
abbrev FZ:Hp:=[(.b 0,8)]
abbrev Ae:List So:=[.a,.n,.n]
abbrev ZB:Hp:=[((.b 1),(.cells [(.s 2)] 23)),(2,5)]
abbrev ZC:Hp:=[(1,4),(5,8)]
abbrev OV:List FV:=[(.z (.i 0)),(.p FZ),(.p [(6,7)])]
abbrev OW:List W:=[(.ptr 0 0)]
abbrev wu:List So:=[.i,.p,.p]
def xW:T:=
(.loop [.i,.i,.p] FY
(.br (.lt 7 (.of 1))
(.need (.le (.i 0) 7)
(.need (.is 0)
(.ld 3 14 (.mz 0 7 1 0) sf [.i] 9
(.om 4 [9] [(4,8)] [.c,.p] (.bool 10) [(4,11)]
(.br 10
(.ret 7 [(0,3),(4,11)])
(.rg (.add 7 (.i 1))
(.again 0 [.z 6,.z (.add 7 (.i 1)),.p [(4,11)]])))))))
(.ret (.k (-1)) [(0,3),(4,8)])))
theorem F0:tree prog {hv:=[(0,[.a 4])],aF:=jg,dv:=true} Tryz.f158 qI qJ 6=xW:=by kernel_rfl
def xX:T:=
(.loop [.i,.i,.p] FY
(.br (.lt 7 (.of 1))
(.need (.le (.i 0) 7)
(.need (.is 0)
(.ld 23 14 (.mz 0 7 1 0) sf Ae (.s 9)
(.om 4 [.s 9] [(4,8),(0,3)] [.c,.p] (.bool 12) [(4,13),(0,3)]
(.br 12
(.ret 7 [(0,3),(4,13)])
(.rg (.add 7 (.i 1))
(.again 0 [.z 6,.z (.add 7 (.i 1)),.p [(4,13)]])))))))
(.ret (.k (-1)) [(0,3),(4,8)])))
theorem F3:tree prog {hv:=[(0,[.a 4])],aF:=jg,dv:=true} Tryz.f297 qI qJ 6=xX:=by kernel_rfl
def qK:T:=
(.call 297 qI qJ wu 6 tz
(.ret (.bool (.le (.i 0) 6)) tz))
theorem zP:tree prog {aF:=jg,dv:=true} Tryz.f277 qI qJ 6=qK:=by kernel_rfl
def xY:T:=
(.loop [.i,.i,.p] FY
(.br (.lt 7 (.of 1))
(.need (.le (.i 0) 7)
(.need (.is 0)
(.ld 64 14 (.mz 0 7 16 0) sf [.i,.i,.i,.c,.i,.i,.i,.i,.a,.n,.n,.i,.i,.a,.n,.n,.i,.i,.i,.i] (.agg Vr)
(.om 4 [.agg Vr] [(4,8),(0,3)] [.c,.p] (.bool 29) [(4,30),(0,3)]
(.br 29
(.ret 7 [(0,3),(4,30)])
(.rg (.add 7 (.i 1))
(.again 0 [.z 6,.z (.add 7 (.i 1)),.p [(4,30)]])))))))
(.ret (.k (-1)) [(0,3),(4,8)])))
theorem F4:tree prog {hv:=[(0,[.a 4])],aF:=jg,dv:=true} Tryz.f142 qI qJ 6=xY:=by kernel_rfl
def qL:T:=
(.call 142 qI qJ wu 6 tz
(.ret (.bool (.le (.i 0) 6)) tz))
theorem zQ:tree prog {aF:=jg,dv:=true} Tryz.f78 qI qJ 6=qL:=by kernel_rfl
def xZ:T:=
(.call 158 qI qJ wu 6 tz
(.br (.eq 6 (.i (-1)))
(.ret (.s 0) tz)
(.rg (.add 6 (.i 1))
(.loop [.i,.i,.p,.p] [.z 6,.z (.add 6 (.i 1)),.p [(0,7)],.p [(4,8)]]
(.br (.lt 10 (.of 1))
(.need (.le (.i 0) 10)
(.need (.is 0)
(.ld 3 24 (.mz 0 10 1 0) [(0,11)] [.i] 13
(.om 4 [13] [(4,12)] [.c,.p] (.bool 14) [(4,15)]
(.br (.not 14)
(.need (.le (.i 0) 9)
(.need (.lt 9 (.of 1))
(.op (.store 3 (.tmp 33) (.tmp 32)) 0 [(33,.mz 0 9 1 0),(32,13)] [(0,11)] [.p] (.gY []) [(0,16)]
(.rg (.add 9 (.i 1))
(.rg (.add 10 (.i 1))
(.again 0 [.z (.add 9 (.i 1)),.z (.add 10 (.i 1)),.p [(0,16)],.p [(4,15)]]))))))
(.rg (.add 10 (.i 1))
(.again 0 [.z 9,.z (.add 10 (.i 1)),.p [(0,11)],.p [(4,15)]])))))))
(.read (.slice 23 (.tmp 36) (some (.tmp 37)) none none) 23 [(36,.s 0),(37,9)] [(0,11)] Ae (.s 13)
(.op
(.call ⟨.builtin .clear,#[.tmp 38],#[23]⟩) 0 [(38,.s 13)] [(0,11)] [.p] (.gY []) [(0,16)]
(.read (.slice 23 (.tmp 39) none (some (.tmp 40)) none) 23 [(39,.s 0),(40,9)] [(0,16)] Ae (.s 17)
(.ret (.s 17) [(0,16),(4,12)])))))))))
theorem F5:tree prog {hv:=[(0,[.a 0,.a 4])],aF:=jg,dv:=true} Tryz.f87 qI qJ 6=xZ:=by kernel_rfl
def Vt:T:=
(.call 108 OT uS [.p] (.gY []) FZ
(.read (.binOp .eql 317 (.tmp 13) (.const .nilFunc) 317) 4 [(13,.val 6)] [(6,7)] [.c] (.bool 9)
(.br 9
(.ret (.gY []) [(.b 0,8),(2,5),(6,7)])
(.loop wu OV
(.br (.lt 10 (.of 3))
(.need (.le (.i 0) 10)
(.need (.is 2)
(.ld 3 19 (.mz 2 10 1 0) [(2,5)] [.i] 13
(.om 6 [.ptr 0 0,13] [(6,12),(.b 0,11)] [.p,.p] (.gY []) [(6,14),(.b 0,15)]
(.rg (.add 10 (.i 1))
(.again 0 [.z (.add 10 (.i 1)),.p [(.b 0,15)],.p [(6,14)]]))))))
(.ret (.gY []) [(.b 0,11),(2,5),(6,12)]))))))
theorem Q4:tree prog {hv:=[(0,[.b 0,.a 6])],vt:=[.b 0]} Tryz.f254 [.ptr 0 0,.s 2,.val 6] [(.b 0,1),(2,5),(6,7)] 8=Vt:=by kernel_rfl
def Vu:T:=
(.call 108 OT uS [.p] (.gY []) FZ
(.read (.binOp .eql 318 (.tmp 13) (.const .nilFunc) 318) 4 [(13,.val 6)] [(6,7)] [.c] (.bool 9)
(.br 9
(.ret (.gY []) [(.b 0,8),(2,5),(6,7)])
(.loop wu OV
(.br (.lt 10 (.of 3))
(.need (.le (.i 0) 10)
(.need (.is 2)
(.ld 23 19 (.mz 2 10 1 0) [(2,5)] Ae (.s 13)
(.om 6 [.ptr 0 0,.s 13] [(6,12),(.b 0,11),(2,5)] [.p,.p] (.gY []) [(6,16),(.b 0,17),(2,5)]
(.rg (.add 10 (.i 1))
(.again 0 [.z (.add 10 (.i 1)),.p [(.b 0,17)],.p [(6,16)]]))))))
(.ret (.gY []) [(.b 0,11),(2,5),(6,12)]))))))
theorem Q5:tree prog {hv:=[(0,[.b 0,.a 6])],vt:=[.b 0]} Tryz.f252 [.ptr 0 0,.s 2,.val 6] [(.b 0,1),(2,5),(6,7)] 8=Vu:=by kernel_rfl
end RX
section
open RX
structure ky where
 a:aG
 c:Nat
 l:List Int
def ip:o5 ky:=⟨1,by decide,λx=>[.slice x.a x.l.length x.c],λ_=>rfl,λx=>vP x.a x.l.length x.l,λ_ _ _ _ H=>H⟩
theorem tA:∀x,∀u∈ip.aJ x,u.oneCell'=true:=λx u hu=>by
 obtain rfl:=List.mem_singleton.1 hu;rfl
abbrev BG:PK ky:=Zt ip 23 tA
theorem x9:(prog.info? 23).map (λi=>(i.zero,i.size,i.bytes))=some (some (.slice none 0 0),1,24):=by kernel_rfl
theorem IV:prog.underlying 32=some (.slice 23):=by kernel_rfl
theorem OX:gZ prog 23=false:=by kernel_rfl
theorem ZD:iA prog 23=1:=by kernel_rfl
theorem ldC{S}{a}{n}{es}(hS:∀R h,S.p R h->(Ls ip a n es).p R h){k:Nat}{x}(hk:es[k]? =some x):
 aM prog (bO 23 (.pointer (a.map λy=>(y.add ((k:Int).toNat*1)).add 0))) S (.slice x.a x.l.length x.c):=
 aM.aT (.of hS) (Ls.aca (K:=ip) (off:=0) Ba OX ZD hk rfl)
theorem ldI{S}{a}{l:List Int}{k:Nat}{x}(r:Rd S a (l.map cr))(hk:l[k]? =some x):
 aM prog (bO 3 (.pointer (a.map λy=>(y.add ((k:Int).toNat*1)).add 0))) S (an x):=
 cU rV Dj Oz r (k:=(k:Int).toNat*1) (off:=0) (by simp[hk,cr])
theorem Ls.mem{α:Type}{K}{a}{n}{l}{R h}(H:(Ls K a n l).p R h){x:α}(hx:x∈l):(K.hp x).p R h:=H.2.2 x hx
theorem IW(a:aG) n c l S b m c2 q(hr:bX S b m (q.map cr))(hm:q.length=m)(YB:b.isSome=true)(hb:n+m<=1000000000):
 aR prog (o4 23 23 (.slice a n c) (.slice b m c2)) (aj (kv a n c l) S)
  (λv=>aE λa'=>aE λc'=>aA (v=.slice a' (n+m) c') (aj (kv a' (n+m) c' (l++q)) S)):=by
 cases b with
 |some ad=>exact vQ a n c l S ad m c2 q hr.rd hm hb
 |none=>cases YB
theorem Ef S a n c l(hr:bX S a n (l.map cr))(hl:l.length=n)(hb:n<=1000000000):
 az prog 51 #[.slice a n c] S (λv=>aE λa'=>aE λc'=>aA (v=.slice a' n c') (aj (kv a' n c' l) S)):=by
 refine ao (ρ:=[.a a,.n n,.n c,.p S]) {aF:=jg,dv:=true} [(.s 0)] sf 4 ?_;refine⟨λha=>.of λR h H=>?_,λha x=>?_⟩
 ·have hn:n=0:=hr.none R h H (by simpa using ha);subst hn;obtain rfl:l=[]:=List.eq_nil_of_length_eq_zero hl;exact⟨none,0,rfl,aW H|>λH=>ae H (λx _=>bY.nil _ _ R x) λ_ h=>h⟩
 ·refine(IW (some ⟨x,0,none⟩) 0 0 [] S a n c l hr hl (by simpa[Option.isSome_iff_ne_none]using ha) (by omega)).aK (λR h H=>ae H (λy hy=>⟨rfl,.inr ⟨x,#[],rfl,hy,Nat.le_refl _,by unfold maxLen;omega,rfl,rfl⟩⟩) λ_ h=>h) ?_;rintro v R h ⟨a',c',rfl,H⟩;rw[Nat.zero_add,List.nil_append]at H;exact⟨a',n,c',kv a' n c' l,by rw[Nat.zero_add],.of λR' h' H'=>⟨a',c',rfl,ak H'⟩,H⟩
theorem uT S a n c l(hr:bX S a n (l.map cr))(hl:l.length=n)(hb:n<=1000000000):
 az prog 51 #[.slice a n c] S (λv=>aE λa'=>aE λc'=>aA (v=.slice a' n c') (aj (vP a' n l) S)):=
 (Ef S a n c l hr hl hb).post λv=>λR h d ⟨a',c',e,H⟩=>by
   obtain⟨R1,h1,q1,q2,q3,q4,H1⟩:=(HP.aT.aj (bY.eP _ _ _ _ _ _) S) R h d H;exact⟨R1,h1,q1,q2,q3,q4,a',c',e,H1⟩
theorem Q6{α:Type}{K:o5 α}{l:List α}{R}(H:∀x∈l,∀h,(K.hp x).p R h) h:(cw (l.map K.hp)).p R h:=by
 induction l generalizing h with
 |nil=>trivial
 |cons x r ih=>exact cQ.2 ⟨PH.cV,h,PH.eL _,PH.dB _,PH.le.refl _,H x (by simp) _,ih (λy hy=>H y (by simp[hy])) h⟩
theorem Eg S a n c es(hS:∀R h,S.p R h->(Ls ip a n es).p R h)(hb:n<=1000000000):
 az prog 50 #[.slice a n c] S (λv=>aE λa'=>aE λc'=>aA (v=.slice a' n c') (aj (PL BG a' n c' es) S)):=by
 refine az.cM (φ:=es.length=n/\(n≠0->a.isSome=true)) (λR h H=>⟨(hS R h H).1,λhn=>bN.some (hS R h H).2.1 (by omega)⟩) λ⟨hl,hs⟩=>?_;refine ao (ρ:=[.a a,.n n,.n c,.p S]) {aF:=jg,dv:=true} [(.s 0)] sf 4 ?_;refine⟨λha=>.of λR h H=>?_,λha x=>?_⟩
 ·have hn:n=0:=Classical.byContradiction λhn=>ha (hs hn);subst hn;obtain rfl:es=[]:=List.eq_nil_of_length_eq_zero hl;exact⟨none,0,rfl,aW H|>λH=>ae H (λx _=>wd _ R x) λ_ h=>h⟩
 ·cases a with
  |none=>simp at ha
  |some ad=>
   obtain⟨i,hi,h1,h2,h3⟩:=info_parts x9
   have:=fy 32 32 23 i (.slice none 0 0) IV hi h1 (by rw[h2];rfl) (by omega) (some ⟨x,0,none⟩) 0 0 [] S ad n c (es.flatMap ip.aJ) (tN (Ls.rd (K:=ip)) hS) (by rw[jq ip.aJ 1 ip.len,hl,h2]) (λu hu=>by
    obtain⟨y,_,hy⟩:=List.mem_flatMap.1 hu;exact tA y u hy) (by unfold maxLen;omega) (by rw[h3];omega)
   rw[h2]at this;refine this.aK (λR h H=>ae H (λy hy=>⟨by simp,.inr ⟨x,#[],rfl,hy,Nat.le_refl _,by unfold maxLen;omega,rfl,rfl⟩⟩) λ_ h=>h) ?_;rintro v R h ⟨a',c',rfl,H⟩;rw[Nat.zero_add,List.nil_append]at H;have hro:=hS R _ (ah H);refine⟨a',n,c',PL BG a' n c' es,by rw[Nat.zero_add],.of λR' h' H'=>⟨a',c',rfl,ak H'⟩,ae H (λy hy=>⟨hl,ak ⟨PH.cV,y,PH.eL _,PH.dB _,PH.le.refl _,Q6 (K:=ip) (λz hz _=>hro.2.2 z hz) _,hy⟩⟩) λ_ h=>h⟩
set_option maxHeartbeats 1000000 in
theorem Q7 S a n c(l:List Int)(hr:bX S a n (l.map cr))(hl:l.length=n)(hn:n<=1000000000)(x:Int):
 az prog 279 #[.slice a n c,an x] S (λv=>aE λr:Int=>aA (v=an r/\(0<=r↔x∈l)) S):=by
 refine az.cM (φ:=a=none->n=0) (λR h H=>hr.none R _ H) λxP=>?_;refine ao (ρ:=[.a a,.n n,.n c,.p S,.i x]) {aF:=jg,dv:=true} [(.s 0),4] sf 5 ?_;refine⟨λ_ i=>∃k:Nat,i=k/\k<=n/\x∉l.take k,λ_ i=>n - i.toNat,⟨0,rfl,Nat.zero_le _,by simp⟩,?_⟩;rintro _ _ ⟨k,rfl,hk,hall⟩;refine⟨λhlt=>⟨by omega,λ_=>⟨?_,λ_=>?_⟩⟩,λlH=>.of λR h H=>⟨-1,⟨rfl,?_⟩,H⟩⟩
 ·cases a with
  |none=>have:=xP rfl;omega
  |some _=>rfl
 ·have ki:k<l.length:=by omega
  refine⟨l[k],ldI hr.rd (List.getElem?_eq_getElem ki),λhe=>.of λR h H=>⟨k,⟨rfl,⟨λ_=>by rw[he];exact List.getElem_mem ki,λ_=>by omega⟩⟩,H⟩,λhe=>⟨bh _ (by omega) (by omega),λ_=>⟨⟨k+1,by omega,by omega,?_⟩,by dsimp only;omega⟩⟩⟩;rw[List.take_succ_eq_append_getElem ki];simp only[List.mem_append,List.mem_singleton,not_or];exact⟨hall,he⟩
 ·have:k=l.length:=by omega
  rw[this,List.take_length]at hall;exact⟨λh=>by omega,λh=>absurd h hall⟩
theorem ww S a n c(l:List Int)(hr:bX S a n (l.map cr))(hl:l.length=n)(hn:n<=1000000000) x:
 az prog 251 #[.slice a n c,an x] S (λv=>aA (v=.bool (decide (x∈l))) S):=by
 refine ao (ρ:=[.a a,.n n,.n c,.p S,.i x]) {aF:=jg,dv:=true} [(.s 0),4] sf 5 ?_;refine(Q7 S a n c l hr hl hn x).wk ?_;rintro v R h ⟨r,⟨rfl,xF⟩,H⟩;exact⟨r,rfl,.of λR h H=>⟨by simp[xF],H⟩,H⟩
set_option maxHeartbeats 1000000 in
theorem LY S Q a n c(l:List Int)(hr:bX S a n (l.map cr))(hlen:l.length=n)(hn:n<=1000000000) fv(h1:eD fv=fv)(p:Int->Bool)
 (hf:∀x∈l,jG prog fv #[an x] Q λv=>aA (v=.bool (p x)) Q):
 az prog 158 #[.slice a n c,fv] (aj S Q) (λv=>aE λr:Int=>aA (v=an r/\((r= -1/\∀x∈l,p x=false)\/∃k:Nat,r=k/\(∀(j:Nat) (x:Int),j<k->l[j]? =some x->p x=false)/\∃x,l[k]? =some x/\p x=true)) (aj S Q)):=by
 refine az.cM (φ:=l.length=n/\(n≠0->a.isSome=true)) (λR h H=>⟨hlen,λhn=>Option.isSome_iff_ne_none.2 λe=>hn (hr.none R _ (ai H) e)⟩) λ⟨hl,hs⟩=>?_;have:=cC (ρ:=[.a a,.n n,.n c,.p S,.v fv,.p Q]) mixed Tryz.func158 (t:=xW) (post:=λv=>aE λr:Int=>aA (v=an r/\((r= -1/\∀x∈l,p x=false)\/∃k:Nat,r=k/\(∀(j:Nat) (x:Int),j<k->l[j]? =some x->p x=false)/\∃x,l[k]? =some x/\p x=true)) (aj S Q)) F0 ?_
 ·simpa[W.den,RX.A.den,SA.den,E.den,RX.look,h1,cT,jH]using this
 unfold xW;refine Iz ?_
 try simp only[h1,ne_eq,Nat.reduceEqDiff,not_false_eq_true]
 refine⟨λ_ i P=>∃k:Nat,i=k/\k<=n/\Q=P/\∀(j:Nat) (x:Int),j<k->l[j]? =some x->p x=false,λ_ i _=>n - i.toNat,⟨0,rfl,Nat.zero_le _,rfl,λq x h=>by omega⟩,?_⟩;rintro _ _ _ ⟨k,rfl,hk,rfl,hall⟩;refine⟨λhlt=>⟨by omega,λ_=>⟨hs (by omega),λ_=>?_⟩⟩,λlH=>.of λR h H=>⟨-1,⟨rfl,.inl ⟨rfl,λx hx=>?_⟩⟩,H⟩⟩
 ·have ki:k<l.length:=by omega
  obtain⟨x,hx⟩:∃x,l[k]? =some x:=⟨l[k],List.getElem?_eq_getElem ki⟩;refine⟨x,ldI hr.rd hx,?_⟩;refine(hf x (List.mem_of_getElem? hx)).wk ?_;rintro v R h ⟨rfl,H⟩;refine⟨p x,Q,rfl,⟨λhp=>.of λR h H=>⟨k,⟨rfl,.inr ⟨k,rfl,hall,x,hx,hp⟩⟩,H⟩,λhp=>⟨bh _ (by omega) (by omega),λ_=>⟨⟨k+1,by omega,by omega,rfl,λq y hq hy=>?_⟩,by dsimp only;omega⟩⟩⟩,H⟩;rcases Nat.lt_or_ge q k with h|h
  ·exact hall q y h hy
  ·obtain rfl:q=k:=by omega
   rw[hx]at hy;cases hy;simpa using hp
 ·obtain⟨q,hq,rfl⟩:=List.mem_iff_getElem.1 hx;exact hall q l[q] (by omega) (List.getElem?_eq_getElem hq)
set_option maxHeartbeats 1000000 in
theorem LZ S Q a n c l(hS:∀R h,S.p R h->(Ls ip a n l).p R h)(hn:n<=1000000000) fv(h1:eD fv=fv)(p:ky->Bool)
 (hf:∀x∈l,jG prog fv #[.slice x.a x.l.length x.c] (aj Q S) λv=>aA (v=.bool (p x)) (aj Q S)):
 az prog 297 #[.slice a n c,fv] (aj S Q) (λv=>aE λr:Int=>aA (v=an r/\((r= -1/\∀x∈l,p x=false)\/∃k:Nat,r=k/\(∀(j:Nat) (x:ky),j<k->l[j]? =some x->p x=false)/\∃x,l[k]? =some x/\p x=true)) (aj S Q)):=by
 refine az.cM (φ:=l.length=n/\(n≠0->a.isSome=true)) (λR h H=>⟨(hS R _ (ai H)).1,λhn=>bN.some (hS R _ (ai H)).2.1 (by omega)⟩) λ⟨hl,hs⟩=>?_;have:=cC (ρ:=[.a a,.n n,.n c,.p S,.v fv,.p Q]) mixed Tryz.func297 (t:=xX) (post:=λv=>aE λr:Int=>aA (v=an r/\((r= -1/\∀x∈l,p x=false)\/∃k:Nat,r=k/\(∀(j:Nat) (x:ky),j<k->l[j]? =some x->p x=false)/\∃x,l[k]? =some x/\p x=true)) (aj S Q)) F3 ?_
 ·simpa[W.den,RX.A.den,SA.den,E.den,RX.look,h1,cT,jH]using this
 unfold xX;refine Iz ?_
 try simp only[h1,ne_eq,Nat.reduceEqDiff,not_false_eq_true]
 refine⟨λ_ i P=>∃k:Nat,i=k/\k<=n/\Q=P/\∀(j:Nat) (x:ky),j<k->l[j]? =some x->p x=false,λ_ i _=>n - i.toNat,⟨0,rfl,Nat.zero_le _,rfl,λq x h=>by omega⟩,?_⟩;rintro _ _ _ ⟨k,rfl,hk,rfl,hall⟩;refine⟨λhlt=>⟨by omega,λ_=>⟨hs (by omega),λ_=>?_⟩⟩,λlH=>.of λR h H=>⟨-1,⟨rfl,.inl ⟨rfl,λx hx=>?_⟩⟩,H⟩⟩
 ·have ki:k<l.length:=by omega
  obtain⟨x,hx⟩:∃x,l[k]? =some x:=⟨l[k],List.getElem?_eq_getElem ki⟩;refine⟨x.a,x.l.length,x.c,ldC hS hx,?_⟩;refine(hf x (List.mem_of_getElem? hx)).wk ?_;rintro v R h ⟨rfl,H⟩;refine⟨p x,Q,rfl,⟨λhp=>.of λR h H=>⟨k,⟨rfl,.inr ⟨k,rfl,hall,x,hx,hp⟩⟩,H⟩,λhp=>⟨bh _ (by omega) (by omega),λ_=>⟨⟨k+1,by omega,by omega,rfl,λq y hq hy=>?_⟩,by dsimp only;omega⟩⟩⟩,H⟩;rcases Nat.lt_or_ge q k with h|h
  ·exact hall q y h hy
  ·obtain rfl:q=k:=by omega
   rw[hx]at hy;cases hy;simpa using hp
 ·obtain⟨q,hq,rfl⟩:=List.mem_iff_getElem.1 hx;exact hall q l[q] (by omega) (List.getElem?_eq_getElem hq)
theorem Du S Q a n c l(hS:∀R h,S.p R h->(Ls ip a n l).p R h)(hn:n<=1000000000) fv(h1:eD fv=fv) p
 (hf:∀x∈l,jG prog fv #[.slice x.a x.l.length x.c] (aj Q S) λv=>aA (v=.bool (p x)) (aj Q S)):
 az prog 277 #[.slice a n c,fv] (aj S Q) (λv=>aA (v=.bool (l.any p)) (aj S Q)):=by
 have:=cC (ρ:=[.a a,.n n,.n c,.p S,.v fv,.p Q]) mixed Tryz.func277 (t:=qK) (post:=λv=>aA (v=.bool (l.any p)) (aj S Q)) zP ?_
 ·simpa[W.den,RX.A.den,SA.den,E.den,RX.look,h1,cT,jH]using this
 unfold qK;refine Iz ?_
 try simp only[h1,ne_eq,Nat.reduceEqDiff,not_false_eq_true]
 refine(LZ S Q a n c l hS hn fv h1 p hf).wk ?_;rintro v R h ⟨r,⟨rfl,xF⟩,H⟩;refine⟨r,S,Q,rfl,.of λR h H=>⟨?_,H⟩,H⟩;congr 1;rcases xF with⟨rfl,hall⟩|⟨k,rfl,_,x,hx,hp⟩
 ·have:l.any p=false:=by rw[List.any_eq_false];exact λx hx=>by rw[hall x hx];decide
  rw[this];rfl
 ·have:l.any p=true:=List.any_eq_true.2 ⟨x,List.mem_of_getElem? hx,hp⟩;rw[this];simp
def Q8(f:Nat->Bool):List Value:=(List.range 7).map λk=>.bool (f k)
theorem qM f{k}(h:k<7):(Q8 f)[k]? =some (.bool (f k)):=by
 unfold Q8;rw[List.getElem?_map,List.getElem?_range h];rfl
theorem eM f:(Q8 f).length=7:=by simp[Q8]
def fh(f:Nat->Bool)(k:Nat)(b:Bool)(j:Nat):Bool:=if j=k then b else f j
theorem F6 f{k}(h:k<7) b:(Q8 f).set k (.bool b)=Q8 (fh f k b):=by
 refine List.ext_getElem? λj=>?_;rw[List.getElem?_set,eM]
 by_cases hj:j<7
 ·rw[qM _ hj,qM _ hj];unfold fh
  by_cases e:k=j
  ·subst e;rw[aB rfl,aB h,aB rfl]
  ·rw[aq e,aq (Ne.symm e)]
 ·rw[List.getElem?_eq_none (by rw[eM];omega)]
  by_cases e:k=j
  ·omega
  ·rw[aq e,List.getElem?_eq_none (by rw[eM];omega)]
theorem uf:prog.underlying 159=some (.array 7 4):=by kernel_rfl
theorem zj:(prog.info? 4).isSome=true:=by kernel_rfl
theorem L0:(prog.info? 4).map (λi=>(i.zero,i.size,i.bytes))=some (some (.bool false),1,1):=by kernel_rfl
structure rx where
 ep:Int
 ch:List (List Int)
 deriving DecidableEq
def dw(p:rx):Bool:=decide (0<=p.ep/\p.ep<=2147483647/\1<=p.ch.length/\p.ch.length<=7/\(∀c∈p.ch,c≠[])/\(∀u∈p.ch.flatten,0<=u/\u<7)/\p.ch.flatten.Nodup)
def Pl7(b:Nat)(f:Nat->Bool):HP:=HP.one b (.cells (Q8 f).toArray 159 (0,0))
theorem aeg{b}{f}{P}(hP:HP.aT P (Pl7 b f)){k}(hk:k<7):aM prog (bO 4 (.pointer (some ⟨b,0+k,none⟩))) P (.bool (f k)):=by
 rw[Nat.zero_add];exact aM.aT (hP.trans (.of λR h H=>aD H)) (Zu (Q:=tt) IP IQ zN (by simpa using qM f hk))
theorem aeh{b}{f}{P}(hP:HP.aT P (Pl7 b f)){k}(hk:k<7):aR prog (cv 4 (.pointer (some ⟨b,0+k,none⟩)) (.bool true)) P (λv=>aA (v=cE) (Pl7 b (fh f k true))):=by
 obtain⟨i,hi,h1,h2,h3⟩:=info_parts L0;rw[Nat.zero_add];refine(Zv (cs':=(Q8 (fh f k true)).toArray) hi h2 rfl rfl (by simp[eM];exact hk) (by rw[<-F6 f hk];simp) tt).bv (K:=tt) (hP.trans (.of λR h H=>aD (aD H))) λv=>.of λR h H=>?_;obtain⟨e,H⟩:=ai H;exact⟨e,ai H⟩
def zk(l:List Int)(k:Nat):Bool:=decide ((k:Int)∈l)
theorem wz(es:List ky) k h:((es.take (k+1)).map (·.l)).flatten=((es.take k).map (·.l)).flatten++es[k].l:=by
 rw[List.take_succ_eq_append_getElem h,List.map_append,List.flatten_append,List.map_cons,List.map_nil,List.flatten_cons,List.flatten_nil,List.append_nil]
theorem wC S ep(a:aG)(n c:Nat)(es:List ky)(hS:∀R h,S.p R h->(Ls ip a n es).p R h)(hb:∀x∈es,x.l.length<=1000000000):
 az prog 223 #[.agg #[an ep,.slice a n c]] S (λv=>aA (v=.bool (dw ⟨ep,es.map (·.l)⟩)) S):=by
 refine az.cM (φ:=es.length=n/\(n≠0->a.isSome=true)/\∀x∈es,x.l.length≠0->x.a.isSome=true) (λR h H=>⟨(hS R h H).1,λhn=>bN.some (hS R h H).2.1 (by omega),λx hx hn=>bN.some ((hS R h H).2.2 x hx) (by omega)⟩) λ⟨hl,hs,hse⟩=>?_;refine ao (ρ:=[.i ep,.a a,.n n,.n c,.p S]) {iS:=[159],hv:=[(0,[(.b 6)]),(2,[(.b 6)])],aF:=jg,dN:=true,dv:=true} [(.agg [0,(.s 1)])] Vs 5 ?_
 try simp only[p7,ne_eq,Nat.reduceEqDiff,not_false_eq_true]
 intro _;have no:∀ {K:HP},¬(0<=ep/\ep<=2147483647/\1<=(es.map (·.l)).length/\(es.map (·.l)).length<=7/\(∀c∈es.map (·.l),c≠[])/\(∀u∈(es.map (·.l)).flatten,0<=u/\u<7)/\(es.map (·.l)).flatten.Nodup)->HP.aT K S->HP.aT K (aA (Value.bool false=.bool (dw ⟨ep,es.map (·.l)⟩)) S):=λh hk=>hk.trans (.of λR h' H=>⟨by unfold dw;rw[decide_eq_false h],H⟩);refine⟨λh1=>no (λh=>by omega) (.refl _),λh1=>⟨λh2=>no (λh=>by omega) (.refl _),λh2=>⟨λh3=>no (λh=>by simp at h;omega) (.refl _),λh3=>⟨λh4=>no (λh=>by simp at h;omega) (.refl _),λh4=>?_⟩⟩⟩⟩;intro b
 refine⟨λ_ i P=>∃k:Nat,i=k/\k<=n/\(∀x∈es.take k,x.l≠[])/\(∀u∈((es.take k).map (·.l)).flatten,0<=u/\u<7)/\((es.take k).map (·.l)).flatten.Nodup/\HP.aT P (Pl7 b (zk ((es.take k).map (·.l)).flatten)),λ_ i _=>n - i.toNat,
  ⟨0,rfl,Nat.zero_le _,by simp,by simp,by simp,.of λR h H=>H⟩,?_⟩
 rintro _ _ P ⟨k,rfl,hk,hne,hrg,iZ,hP⟩;refine⟨λhlt=>⟨by omega,λ_=>⟨hs (by omega),λ_=>?_⟩⟩,λlH=>?_⟩
 ·have ki:k<es.length:=by omega
  have hx:es[k]? =some es[k]:=List.getElem?_eq_getElem ki;have kM:=List.mem_of_getElem? hx;have hpre:(es.take k).map (·.l)<+:es.map (·.l):=(List.take_prefix k es).map _;have BH:((es.take (k+1)).map (·.l)).flatten=((es.take k).map (·.l)).flatten++es[k].l:=wz es k ki
  have rR:∀u,u∈((es.take (k+1)).map (·.l)).flatten->u∈(es.map (·.l)).flatten:=λu hu=>by
   obtain⟨c,hc,hu⟩:=List.mem_flatten.1 hu;exact List.mem_flatten.2 ⟨c,(((List.take_prefix (k+1) es).map _).subset hc),hu⟩
  have amK:(es.map (·.l)).flatten.Nodup->(((es.take k).map (·.l)).flatten++es[k].l).Nodup:=λh=>by
   rw[<-BH];have e:es.map (·.l)=(es.take (k+1)).map (·.l)++(es.drop (k+1)).map (·.l):=by rw[<-List.map_append,List.take_append_drop]
   rw[e,List.flatten_append]at h;exact(List.nodup_append.1 h).1
  generalize es[k]=x at*;refine⟨x.a,x.l.length,x.c,ldC hS hx,λh0=>no (λh=>h.2.2.2.2.1 x.l (List.mem_map.2 ⟨x,kM,rfl⟩) (List.eq_nil_of_length_eq_zero (by omega))) (.refl _),λh0=>?_⟩;have lj:=hb x kM
  refine⟨λ_ i P=>∃j:Nat,i=j/\j<=x.l.length/\(∀u∈((es.take k).map (·.l)).flatten++x.l.take j,0<=u/\u<7)/\(((es.take k).map (·.l)).flatten++x.l.take j).Nodup/\HP.aT P (Pl7 b (zk (((es.take k).map (·.l)).flatten++x.l.take j))),λ_ i _=>x.l.length - i.toNat,
   ⟨0,rfl,Nat.zero_le _,by simpa using hrg,by simpa using iZ,by simpa using hP⟩,?_⟩
  rintro _ _ P ⟨j,rfl,hj,hrg,iZ,hP⟩;refine⟨λhlt=>⟨by omega,λ_=>⟨hse x kM (by omega),λ_=>?_⟩⟩,λlH=>?_⟩
  ·have L4:j<x.l.length:=by omega
   have hu:x.l[j]? =some x.l[j]:=List.getElem?_eq_getElem L4;have hum:x.l[j]∈(es.map (·.l)).flatten:=rR _ (by rw[BH];exact List.mem_append_right _ (List.getElem_mem L4));have A4:x.l.take (j+1)=x.l.take j++[x.l[j]]:=List.take_succ_eq_append_getElem L4;generalize x.l[j]=u at*;refine⟨u,ldI (tN (bN.rd 1 x.a x.l.length (x.l.map cr)) λR h H=>(hS R h H).2.2 x kM) hu,λh5=>no (λh=>by have:=h.2.2.2.2.2.1 u hum;omega) (.refl _),λh5=>⟨λh6=>no (λh=>by have:=h.2.2.2.2.2.1 u hum;omega) (.refl _),λh6=>?_⟩⟩;obtain⟨m,rfl⟩:∃m:Nat,u=m:=⟨u.toNat,by omega⟩;have hm:m<7:=by omega
   refine⟨.pointer (some ⟨b,0+m,none⟩),Bx uf zj zN rfl hm,zk (((es.take k).map (·.l)).flatten++x.l.take j) m,aeg hP hm,λh7=>?_,λh7=>?_⟩
   ·refine no (λh=>?_) (.refl _);have h8:=amK h.2.2.2.2.2.2;have h9:(m:Int)∈((es.take k).map (·.l)).flatten++x.l.take j:=by simpa[zk]using h7
    have:x.l=(x.l.take j++[(m:Int)])++x.l.drop (j+1):=by rw[<-A4,List.take_append_drop]
    rw[this,<-List.append_assoc,<-List.append_assoc]at h8;have Tr:=(List.nodup_append.1 h8).1;exact(List.nodup_append.1 Tr).2.2 _ h9 _ (by simp) rfl
   ·have h7':(m:Int)∉((es.take k).map (·.l)).flatten++x.l.take j:=by simpa[zk]using h7
    refine⟨.pointer (some ⟨b,0+m,none⟩),Bx uf zj zN rfl hm,?_⟩;refine(aeh hP hm).wk ?_;rintro v R h ⟨rfl,H⟩;refine⟨_,rfl,⟨bh _ (by omega) (by omega),λ_=>⟨⟨j+1,by omega,by omega,?_,?_,.of λR h H=>?_⟩,by dsimp only;omega⟩⟩,H⟩
    ·rw[A4,<-List.append_assoc];intro u hu;rcases List.mem_append.1 hu with hu|hu
     ·exact hrg u hu
     ·obtain rfl:=List.mem_singleton.1 hu;omega
    ·rw[A4,<-List.append_assoc,List.nodup_append];exact⟨iZ,by simp,λa ha b hb e=>by obtain rfl:=List.mem_singleton.1 hb;exact h7' (e▸ha)⟩
    ·have e:fh (zk (((es.take k).map (·.l)).flatten++x.l.take j)) m true=zk (((es.take k).map (·.l)).flatten++x.l.take (j+1)):=by
      funext q;unfold fh zk;rw[A4,<-List.append_assoc]
      by_cases e:q=m
      ·subst e;simp
      ·rw[aq e];have:(q:Int)≠m:=by omega
       simp[this]
     rw[<-e];exact H
  ·obtain rfl:j=x.l.length:=by omega
   rw[List.take_length]at hrg iZ hP;refine⟨bh _ (by omega) (by omega),λ_=>⟨⟨k+1,by omega,by omega,?_,by rw[BH];exact hrg,by rw[BH];exact iZ,by rw[BH];exact hP⟩,by dsimp only;omega⟩⟩;intro y hy;rw[List.take_add_one,hx]at hy;rcases List.mem_append.1 hy with hy|hy
   ·exact hne y hy
   ·simp at hy;subst hy;intro e;rw[e]at h0;exact h0 rfl
 ·have:k=es.length:=by omega
  rw[this,List.take_length]at hne hrg iZ;refine .of λR h H=>⟨?_,H⟩;unfold dw;rw[decide_eq_true];exact⟨show 0<=ep by omega,show ep<=2147483647 by omega,by simp;omega,by simp;omega,λc hc=>by obtain⟨x,hx,rfl⟩:=List.mem_map.1 hc;exact hne x hx,hrg,iZ⟩
theorem amL{e}{size}{a}{n c}{xs}{R h}(H:(bY e size a n c xs).p R h) k(hk:k=0):a.map (·.add k)=a:=by
 subst hk;rcases H.2 with⟨rfl,h0,_⟩|⟨g,_,rfl,_⟩<;>rfl
theorem stI a n c l(hl:l.length=n) k(hk:k<n) x:
 aR prog (cv 3 (.pointer (a.map λy=>(y.add ((k:Int).toNat*1)).add 0)) (an x)) (kv a n c l) (λv=>aA (v=cE) (kv a n c (l.set k x))):=by
 obtain⟨i,hi,h1,h2,h3⟩:=info_parts jS;have:=pP hi 3 1 a n c (l.map cr) (k*1) 0 (an x) [cr x] rfl h2 (by simp) (λv hv=>by obtain rfl:=List.mem_singleton.1 hv;rfl) (by simp;omega);refine this.wk λv R h ⟨e,H⟩=>⟨e,?_⟩
 have e2:(l.set k x).map cr=(l.map cr).take (k*1+0)++[cr x]++(l.map cr).drop (k*1+0+[cr x].length):=by
  rw[List.map_set,List.set_eq_take_append_cons_drop,aB (by simp;omega)];simp
 unfold kv;rw[e2];exact H
set_option maxHeartbeats 2000000 in
theorem BI Q(a:aG) n c zs(hn:n<=1000000)(fv:Value)(h1:eD fv=fv)(p:Int->Bool)(hf:∀x,jG prog fv #[an x] Q λv=>aA (v=.bool (p x)) Q):
 az prog 87 #[.slice a n c,fv] (aj (kv a n c zs) Q)
  (λv=>aE λc'=>aA (v=.slice a (zs.filter λx=> !p x).length c') (aj (kv a (zs.filter λx=> !p x).length c' (zs.filter λx=> !p x)) Q)):=by
 refine az.cM (φ:=zs.length=n/\(n≠0->a.isSome=true)/\(a.map (·.add 0)=a)/\n<=c) (λR h H=>⟨by simpa using bY.len (ai H),λhn=>bY.some (ai H) (Nat.pos_of_ne_zero hn),amL (ai H) 0 rfl,bY.le (ai H)⟩) λ⟨hl,ha,ha0,hc⟩=>?_;have tr:=cC (ρ:=[.a a,.n n,.n c,.p (kv a n c zs),.v fv,.p Q]) mixed Tryz.func87 (t:=xZ) (post:=(λv=>aE λc'=>aA (v=.slice a (zs.filter λx=> !p x).length c') (aj (kv a (zs.filter λx=> !p x).length c' (zs.filter λx=> !p x)) Q))) F5 ?_
 ·simpa[W.den,RX.A.den,SA.den,E.den,RX.look,h1,cT,jH]using tr
 unfold xZ;refine Iz ?_
 try simp only[h1,ne_eq,Nat.reduceEqDiff,not_false_eq_true]
 refine(LY (kv a n c zs) Q a n c zs (ow _ _ _ _ _ _) hl (by omega) fv h1 p λx _=>hf x).wk ?_;rintro v R h ⟨k0,⟨rfl,Eh⟩,H⟩;refine⟨k0,kv a n c zs,Q,rfl,⟨λh=>.of λR h' H=>?_,λh=>?_⟩,H⟩
 ·rcases Eh with⟨_,hall⟩|⟨j,hj,_⟩
  ·have:(zs.filter λx=> !p x)=zs:=List.filter_eq_self.2 λx hx=>by rw[hall x hx];rfl
   rw[this,hl];exact⟨c,rfl,H⟩
  ·omega
 clear H;obtain⟨j0,rfl,hb,x0,G9,hj⟩:=Eh.resolve_left (λe=>h e.1);have hj0:j0<n:=by have:=(List.getElem?_eq_some_iff.1 G9).1;omega
 refine⟨bh _ (by omega) (by omega),λ_=>?_⟩
 have f0:(zs.take j0).filter (λx=> !p x)=zs.take j0:=List.filter_eq_self.2 λx hx=>by
  obtain⟨i,hi⟩:=List.mem_iff_getElem?.1 hx;rw[List.getElem?_take]at hi;split at hi
  ·rw[hb i x (by assumption) hi];rfl
  ·cases hi
 have Vv:∀(j:Nat) (x:Int),zs[j]? =some x->(zs.take (j+1)).filter (λx=> !p x)=(zs.take j).filter (λx=> !p x)++if p x then[]else[x]:=λj x hx=>by
  have hlt:=(List.getElem?_eq_some_iff.1 hx).1;rw[List.take_succ_eq_append_getElem hlt,List.filter_append];rw[List.getElem?_eq_getElem hlt]at hx;rw[Option.some.inj hx];congr 1
  by_cases e:p x=true<;>simp[e]
 refine⟨λi j P Q'=>∃(i' j':Nat) (es:List Int),i=i'/\j=j'/\i'<j'/\j'<=n/\es.length=n/\es.take i'=(zs.take j').filter (λx=> !p x)/\es.drop j'=zs.drop j'/\P=kv a n c es/\Q=Q',λ_ j _ _=>n - j.toNat,⟨j0,j0+1,zs,rfl,by omega,by omega,by omega,hl,?_,rfl,rfl,rfl⟩,?_⟩
 ·rw[Vv j0 x0 G9,f0,hj];simp
 rintro _ _ _ _ ⟨i,j,es,rfl,rfl,D4,Af,Ts,ht,hd,rfl,rfl⟩;refine⟨λhlt=>⟨by omega,λ_=>⟨ha (by omega),λ_=>?_⟩⟩,λlH=>?_⟩
 ·obtain⟨x,hx⟩:∃x,zs[j]? =some x:=⟨_,List.getElem?_eq_getElem (by omega)⟩
  have hex:es[j]? =some x:=by
   have:(es.drop j)[0]? =(zs.drop j)[0]? :=by rw[hd]
   simpa[hx]using this
  have C7:es.drop (j+1)=zs.drop (j+1):=by
   have:=congrArg (List.drop 1) hd
   rwa [List.drop_drop,List.drop_drop]at this
  refine⟨x,ldI (bY.rd _ _ _ _ _ _) hex,?_⟩;refine(hf x).wk ?_;rintro v R h ⟨rfl,H⟩;refine⟨p x,Q,rfl,⟨λh1=>⟨by omega,λ_=>⟨by omega,λ_=>?_⟩⟩,λh1=>⟨bh _ (by omega) (by omega),λ_=>⟨⟨i,j+1,es,rfl,by omega,by omega,by omega,Ts,?_,C7,rfl,rfl⟩,by dsimp only;omega⟩⟩⟩,H⟩
  ·have hok:p x=false:=by simpa using h1
   refine(stI a n c es Ts i (by omega) x).wk ?_;rintro v R h ⟨rfl,H⟩;refine⟨kv a n c (es.set i x),rfl,⟨bh _ (by omega) (by omega),λ_=>⟨bh _ (by omega) (by omega),λ_=>⟨⟨i+1,j+1,es.set i x,by omega,by omega,by omega,by omega,by rw[List.length_set];exact Ts,?_,?_,rfl,rfl⟩,by dsimp only;omega⟩⟩⟩,H⟩
   ·rw[Vv j x hx,hok,<-ht];rw[List.take_succ_eq_append_getElem (by rw[List.length_set];omega),List.take_set_of_le (Nat.le_refl _)];simp
   ·rw[List.drop_set_of_lt (by omega),C7]
  ·have hok:p x=true:=by simpa using h1
   rw[Vv j x hx,hok,ht];simp
 ·obtain rfl:j=n:=by omega
  have BH:(zs.filter λx=> !p x).length=i:=by
   have:=congrArg List.length ht;rw[List.take_of_length_le (by omega:zs.length<=j),List.length_take]at this;omega
  have hft:(zs.filter λx=> !p x)=es.take i:=by rw[ht,List.take_of_length_le (by omega:zs.length<=j)]
  obtain⟨i2,hi2,To,KS,Tp⟩:=info_parts jS
  have A8:∀ys:List Value,ys.take (i*1)=(es.map cr).take (i*1)->∀R h,(bY 3 1 a j c ys).p R h->(kv a i c (zs.filter λx=> !p x)).p R h:=λys QG R h H=>by
   have e1:(zs.filter λx=> !p x).map cr=ys.take (i*1):=by
    rw[QG,hft,List.map_take,Nat.mul_one]
   obtain⟨h1,h2⟩:=H;refine⟨by rw[List.length_map,BH,Nat.mul_one],?_⟩;rcases h2 with⟨q1,q2,q3⟩|⟨g,cur,q1,q2,q3,q4,q5,q6⟩
   ·exact .inl ⟨q1,by omega,q3⟩
   ·refine .inr ⟨g,cur,q1,q2,by omega,q4,q5,?_⟩;rw[e1,<-q6,List.take_take,Nat.min_eq_left (by omega)]
  have rest:∀(ys:List Value),ys.take (i*1)=(es.map cr).take (i*1)->∃(a':aG) (n' c':Nat),aM prog (i6 23 (.slice a j c) none (some (an (i:Int))) none) (bY 3 1 a j c ys) (.slice a' n' c')/\
   HP.aT (aj (bY 3 1 a j c ys) Q) (aE λc3=>aA (Value.slice a' n' c'=.slice a (zs.filter λx=> !p x).length c3) (aj (kv a (zs.filter λx=> !p x).length c3 (zs.filter λx=> !p x)) Q)):=λys QG=>by
   refine⟨_,_,_,gp Ba hi2 _ a j c none (some i) none (Nat.zero_le _) (by simp;omega) (Nat.le_refl _) (λh=>by simp at h),.of λR h H=>⟨c,?_,ae H (λy hy=>?_) λ_ h=>h⟩⟩
   ·simp[BH,ha0]
   ·rw[BH];exact A8 ys QG R _ hy
  have sl1:=gp Ba hi2 (kv a j c es) a j c (some i) none none (by simp;omega) (by simp;omega) (Nat.le_refl _) (λh=>by simp at h);have hci:c≠i:=by omega
  have sl2:aM prog (i6 23 (.slice a j c) (some (an (i:Int))) none none) (kv a j c es) (.slice (a.map (·.add (i*1))) (j - i) (c - i)):=by
   have e:(if(none:Option Nat).getD c=(some i).getD 0 then a else a.map (·.add ((some i).getD 0*iA prog 3)))=a.map (·.add (i*1)):=by
    rw[Oz,aq (by simpa using hci)];rfl
   rw[e]at sl1;exact sl1
  refine⟨_,_,_,by rw[jc];exact sl2,?_⟩;rw[By];refine(QY Ba hi2 To (z:=an 0) (size:=1) rfl (λv hv=>by obtain rfl:=Array.mem_singleton.1 hv;rfl) _ a j c (es.map cr) i (j - i) (c - i) (by omega)).wk ?_;rintro v R h ⟨ys,⟨rfl,QG⟩,H⟩;obtain⟨a',n',c',h1,h2⟩:=rest ys QG;refine⟨_,rfl,⟨a',n',c',by rw[jc];exact h1,?_⟩,H⟩;exact h2
theorem ahU:xC prog 250:=⟨_,Tryz.func250,by kernel_rfl,by kernel_rfl⟩
theorem aej bx ta tn tc(tl:List Int) D(hT:bX D ta tn (tl.map cr))(hl:tl.length=tn)(hn:tn<=1000000) x:
 jG prog (.func (.func 250) #[] #[pt bx]) #[an x] (aj (HP.one bx (.cells #[.slice ta tn tc] 23 (0,0))) D)
  (λv=>aA (v=.bool (!decide (x∈tl))) (aj (HP.one bx (.cells #[.slice ta tn tc] 23 (0,0))) D)):=by
 refine .inl ⟨_,_,rfl,ahU,?_⟩;refine ao (ρ:=[.i x,.n bx,.a ta,.n tn,.n tc,.p D]) {aF:=jg,dv:=true} [0,(.ptr 1 0)] ZB 6 ?_;refine(ww D ta tn tc tl hT hl (by omega) x).wk ?_;rintro v R h ⟨rfl,H⟩;refine⟨_,rfl,.of λR h H=>⟨by simp,H⟩,H⟩
theorem IX Q(a:aG) n c zs(hn:n<=1000000) fv(h1:eD fv=fv)(p:Int->Bool)(hf:∀x,jG prog fv #[an x] Q λv=>aA (v=.bool (p x)) Q):
 az prog 87 #[.slice a n c,fv] (aj (kv a n c zs) Q)
  (λv=>aE λc'=>aA (v=.slice a (zs.filter λx=> !p x).length c') (aj (vP a (zs.filter λx=> !p x).length (zs.filter λx=> !p x)) Q)):=
 (BI Q a n c zs hn fv h1 p hf).post λv=>λR h d ⟨c',e,H⟩=>by
   obtain⟨R1,h1,q1,q2,q3,q4,H1⟩:=(HP.aT.aj (bY.eP _ _ _ _ _ _) Q) R h d H;exact⟨R1,h1,q1,q2,q3,q4,c',e,H1⟩
def gT(tl c:List Int):List Int:=c.filter λx=>decide (x∈tl)
def iQ(p:rx)(tl:List Int):rx×Int:=
 if dw p=false\/p.ep=2147483647 then(⟨0,[]⟩,1)
 else if(p.ch.map (gT tl)).any (λc=>decide (c=[]))then(⟨0,[]⟩,5)
 else(⟨p.ep+1,p.ch.map (gT tl)⟩,0)
theorem Q9{p}(h:dw p=true):0<=p.ep/\p.ep<=2147483647:=by
 unfold dw at h;have:=of_decide_eq_true h;exact⟨this.1,this.2.1⟩
theorem ZE{l:List ky}(hx:∀x∈l,x.l.length<=1000000):∀x∈l,x.l.length<=1000000000:=λx h=>by have:=hx x h;omega
set_option maxHeartbeats 1000000 in
theorem Ra S D ep(a:aG)(n c:Nat)(es:List ky)(hS:∀R h,S.p R h->(Ls ip a n es).p R h)(hb:∀x∈es,x.l.length<=1000000)
 (ta:aG) (tn tc:Nat) (tl:List Int) (hT:bX D ta tn (tl.map cr)) (htl:tl.length=tn) (htn:tn<=1000000):
 az prog 214 #[.agg #[an ep,.slice a n c],.slice ta tn tc] (aj S D)
  (λv=>aE λa'=>aE λc'=>aE λcZ:List ky=>aA (v=.tuple #[.agg #[an (iQ ⟨ep,es.map (·.l)⟩ tl).1.ep,.slice a' cZ.length c'],an (iQ ⟨ep,es.map (·.l)⟩ tl).2]/\cZ.map (·.l)=(iQ ⟨ep,es.map (·.l)⟩ tl).1.ch/\∀x∈cZ,x.l.length<=1000000)
    (aj (Ls ip a' cZ.length cZ) (aj S D))):=by
 refine az.cM (φ:=es.length=n/\(n≠0->a.isSome=true)) (λR h H=>⟨(hS R _ (ai H)).1,λhn=>bN.some (hS R _ (ai H)).2.1 (by omega)⟩) λ⟨hl,hs⟩=>?_;refine ao (ρ:=[.i ep,.a a,.n n,.n c,.p S,.a ta,.n tn,.n tc,.p D]) {hv:=[(0,[(.b 13)])],aF:=jg,bU:=[(87,[0])],dv:=true} [(.agg [0,(.s 1)]),(.s 5)] ZC 9 ?_
 have bad:∀ {e:Int} {K:HP},iQ ⟨ep,es.map (·.l)⟩ tl=(⟨0,[]⟩,e)->HP.aT K (aj S D)->HP.aT K (aE λa'=>aE λc'=>aE λcZ:List ky=>aA (Value.tuple #[.agg #[an 0,.slice none 0 0],an e]=.tuple #[.agg #[an (iQ ⟨ep,es.map (·.l)⟩ tl).1.ep,.slice a' cZ.length c'],an (iQ ⟨ep,es.map (·.l)⟩ tl).2]/\cZ.map (·.l)=(iQ ⟨ep,es.map (·.l)⟩ tl).1.ch/\∀x∈cZ,x.l.length<=1000000)
  (aj (Ls ip a' cZ.length cZ) (aj S D))):=λhe hk=>hk.trans (.of λR h H=>⟨none,0,[],⟨by rw[he];rfl,by rw[he];rfl,λx hx=>by cases hx⟩,ak (ae (aD H) (λ_ h=>h) λy _=>⟨rfl,bN.nil _ _ _ _,λx hx=>by cases hx⟩)⟩)
 intro _ bx _;refine(wC S ep a n c es hS (ZE hb)).wk ?_;rintro v R h ⟨rfl,H⟩;refine⟨_,rfl,⟨λh1=>bad (aB (.inl (by simpa using h1))) (.refl _),λh1=>?_⟩,H⟩;have mK:dw ⟨ep,es.map (·.l)⟩=true:=by simpa using h1
 have hep:=Q9 mK;refine⟨λh2=>bad (aB (.inr h2)) (.refl _),λh2=>⟨bh _ (by simp at hep;omega) (by simp at hep;omega),λ_ _=>?_⟩⟩;clear H;have Rb:¬(dw ⟨ep,es.map (·.l)⟩=false\/ep=2147483647):=by rw[mK];simp;exact h2
 have hn7:n<=7:=by
  have h7:=(of_decide_eq_true mK).2.2.2.1;simp at h7;omega
 refine⟨λ_ i e na nn nc P=>∃(k:Nat) (cZ:List ky),i=k/\k<=n/\e=ep+1/\nn=cZ.length/\cZ.map (·.l)=((es.take k).map (·.l)).map (gT tl)/\(∀x∈cZ,x.l≠[]/\x.l.length<=1000000)/\HP.aT P (PL BG na nn nc cZ),λ_ i _ _ _ _ _=>n - i.toNat,
  ⟨0,[],rfl,Nat.zero_le _,rfl,rfl,by simp,(λx hx=>by cases hx),.of λR h _=>wd _ R h⟩,?_⟩
 rintro _ _ _ na _ nc P ⟨k,cZ,rfl,hk,rfl,rfl,hm,hne,hP⟩;refine⟨λhlt=>⟨by omega,λ_=>⟨hs (by omega),λ_=>?_⟩⟩,λlH=>?_⟩
 ·have ki:k<es.length:=by omega
  have hx:es[k]? =some es[k]:=List.getElem?_eq_getElem ki;have kM:=List.mem_of_getElem? hx
  have A4:((es.take (k+1)).map (·.l)).map (gT tl)=((es.take k).map (·.l)).map (gT tl)++[gT tl es[k].l]:=by
   rw[List.take_succ_eq_append_getElem ki,List.map_append,List.map_append];rfl
  generalize es[k]=x at*;have lj:=hb x kM;refine⟨x.a,x.l.length,x.c,ldC hS hx,?_⟩;refine(Ef S x.a x.l.length x.c x.l ⟨tN (bN.rd 1 x.a x.l.length (x.l.map cr)) λR h H=>(hS R h H).2.2 x kM,λR h H e=>(bX.ro 1 x.a x.l.length (x.l.map cr)).none R h ((hS R h H).2.2 x kM) e⟩ rfl (by omega)).wk ?_;rintro v R h ⟨a1,c1,rfl,H⟩;refine⟨a1,_,c1,_,rfl,?_,H⟩;clear H;refine(IX (aj (HP.one bx (.cells #[.slice ta tn tc] 23 (0,0))) D) a1 x.l.length c1 x.l lj _ rfl (λy=> !decide (y∈tl)) (aej bx ta tn tc tl D hT htl htn)).wk ?_;rintro v R h ⟨c2,rfl,H⟩;have hst:(x.l.filter λy=> !!decide (y∈tl))=gT tl x.l:=by unfold gT;congr 1;funext y;simp
  rw[hst]at H⊢;refine⟨a1,(gT tl x.l).length,c2,vP a1 (gT tl x.l).length (gT tl x.l),tt,rfl,⟨λh0=>?_,λh0 y=>?_⟩,ae H (λ_ h=>h) λ_ h=>aW h⟩
  ·refine bad ?_ (.refl _);unfold iQ;rw[aq Rb,aB];rw[List.any_eq_true];exact⟨gT tl x.l,List.mem_map.2 ⟨x.l,List.mem_map.2 ⟨x,kM,rfl⟩,rfl⟩,decide_eq_true (List.eq_nil_of_length_eq_zero (by omega))⟩
  ·obtain⟨i,hi,z1,z2,z3⟩:=info_parts x9;have arD:(gT tl x.l).length<=x.l.length:=List.length_filter_le _ _
   have arE:cZ.length<=n:=by
    have:=congrArg List.length hm;simp at this;omega
   refine(Vb (K:=BG) 32 32 IV hi z1 (by rw[z2];rfl) z2 (by rw[z3];decide) na cZ.length nc cZ y ⟨a1,c2,gT tl x.l⟩ (vP a1 (gT tl x.l).length (gT tl x.l)) (by omega)).bv (K:=tt) ?_ λv=>.of λR h H=>?_
   ·exact(hP.aj _).trans (.of λR h H=>aD (ae H (λ_ h=>h) λz hz=>ae hz (λ_ h=>h) λ_ h=>bN.join h h))
   ·obtain⟨a',c',rfl,H2⟩:=ai H;refine⟨a',cZ.length+1,c',PL BG a' (cZ.length+1) c' (cZ++[⟨a1,c2,gT tl x.l⟩]),rfl,⟨bh _ (by omega) (by omega),λ_=>⟨⟨k+1,cZ++[⟨a1,c2,gT tl x.l⟩],by omega,by omega,rfl,by simp,by rw[A4,List.map_append,hm];rfl,λz hz=>?_,.refl _⟩,by dsimp only;omega⟩⟩,?_⟩
    ·rcases List.mem_append.1 hz with hz|hz
     ·exact hne z hz
     ·obtain rfl:=List.mem_singleton.1 hz;exact⟨λ(e:gT tl x.l=[])=>by rw[e]at h0;exact h0 rfl,by show(gT tl x.l).length<=1000000;omega⟩
    ·exact H2
 ·have LG:k=es.length:=by omega
  rw[LG,List.take_length]at hm
  have e:iQ ⟨ep,es.map (·.l)⟩ tl=(⟨ep+1,(es.map (·.l)).map (gT tl)⟩,0):=by
   unfold iQ;rw[aq Rb,aq];rw[List.any_eq_true];rintro⟨c,hc,h0⟩;rw[<-hm]at hc;obtain⟨z,hz,rfl⟩:=List.mem_map.1 hc;exact(hne z hz).1 (of_decide_eq_true h0)
  refine(HP.aT.gX (.refl _) (HP.aT.gX (.refl _) (hP.trans (PL.eP _ _ _ _)))).trans (.of λR h H=>⟨na,nc,cZ,⟨by rw[e],by rw[e];exact hm,λx hx=>(hne x hx).2⟩,HP.pick [_,_,_] [2,0,1] (by decide) rfl H⟩)
def uU:PK ky:=⟨23,1,by decide,ip.aJ,ip.len,tA,λx=>kv x.a x.l.length x.c x.l⟩
theorem ZF a n c l:HP.aT (PL uU a n c l) (Ls ip a n l):=by
 have key:∀l:List ky,HP.aT (cw (l.map uU.bV)) (cw (l.map ip.hp)):=λl=>by
  induction l with
  |nil=>exact .refl _
  |cons x r ih=>exact(HP.aT.of λR h H=>cQ.1 H).trans (((bY.eP _ _ _ _ _ _).gX ih).trans (.of λR h H=>cQ.2 H))
 refine HP.aT.trans (λR h d H=>?_) (PL.eP (K:=ip) (e:=23) (one:=tA) a n c l);obtain⟨R1,h1,q1,q2,q3,q4,H1⟩:=(HP.aT.gX (.refl (bY 23 1 a n c (l.flatMap ip.aJ))) (key l)) R h d H.2;exact⟨R1,h1,q1,q2,q3,q4,H.1,H1⟩
def fG(u c:Nat):List (List Int):=(List.range c).map λi=>((List.range u).filter λn=>decide (n%c=i)).map λ(n:Nat)=>(n:Int)
def mC(u c:Int):rx×Int:=if 1<=u/\u<=7/\1<=c/\c<=u then(⟨0,fG u.toNat c.toNat⟩,0)else(⟨0,[]⟩,1)
theorem ZG x n{R h}(H:(bY 23 1 (some ⟨x,0,none⟩) n n (List.replicate n (.slice none 0 0))).p R h):(PL uU (some ⟨x,0,none⟩) n n (List.replicate n ⟨none,0,[]⟩)).p R h:=by
 have e:(List.replicate n (⟨none,0,[]⟩:ky)).flatMap ip.aJ=List.replicate n (.slice none 0 0):=by
  induction n with
  |zero=>rfl
  |succ n ih=>simp only[List.replicate_succ,List.flatMap_cons]at ih⊢;rw[show List.flatMap ip.aJ (List.replicate n ⟨none,0,[]⟩)=List.replicate n (.slice none 0 0)from by
    clear ih H
    induction n with
    |zero=>rfl
    |succ n ih=>rw[List.replicate_succ,List.flatMap_cons,ih,List.replicate_succ];rfl];rfl
 have key:∀n (h:PH),(cw ((List.replicate n (⟨none,0,[]⟩:ky)).map uU.bV)).p R h:=λn=>by
  induction n with
  |zero=>exact λ_=>trivial
  |succ n ih=>exact λh=>cQ.2 ⟨PH.cV,h,PH.eL _,PH.dB _,PH.le.refl _,bY.nil _ _ _ _,ih h⟩
 refine⟨by simp,ak ⟨PH.cV,h,PH.eL _,PH.dB _,PH.le.refl _,key n _,?_⟩⟩;show(bY _ _ _ _ _ _).p R h;unfold uU;dsimp only;rw[e];exact H
theorem qN u c:(fG u c).length=c:=by simp[fG]
theorem IY c:fG 0 c=List.replicate c []:=by
 refine List.ext_getElem (by simp[fG]) λi h1 h2=>?_;simp[fG]
theorem IZ u c(hc:0<c):fG (u+1) c=(fG u c).set (u%c) (((fG u c).getD (u%c) [])++[(u:Int)]):=by
 refine List.ext_getElem? λi=>?_;rw[List.getElem?_set];have hu:=Nat.mod_lt u hc
 by_cases hi:i<c
 ·have g:∀v,(fG v c)[i]? =some (((List.range v).filter λn=>decide (n%c=i)).map λ(n:Nat)=>(n:Int)):=λv=>by
   unfold fG;rw[List.getElem?_map,List.getElem?_range hi];rfl
  rw[g,List.range_succ,List.filter_append,List.map_append]
  by_cases e:u%c=i
  ·subst e;rw[aB rfl,aB (by rw[qN];exact hu)];simp only[List.getD_eq_getElem?_getD,g u,Option.getD_some];simp
  ·rw[aq e,g];simp[e]
 ·rw[List.getElem?_eq_none (by rw[qN];omega)]
  by_cases e:u%c=i
  ·omega
  ·rw[aq e,List.getElem?_eq_none (by rw[qN];omega)]
set_option maxHeartbeats 1000000 in
theorem Vw u c:az prog 23 #[an u,an c] tt
 (λv=>aE λa'=>aE λc'=>aE λcZ:List ky=>aA (v=.tuple #[.agg #[an (mC u c).1.ep,.slice a' cZ.length c'],an (mC u c).2]/\cZ.map (·.l)=(mC u c).1.ch/\∀x∈cZ,x.l.length<=1000000) (Ls ip a' cZ.length cZ)):=by
 refine ao (ρ:=[.i u,.i c]) {iS:=[159],hv:=[(0,[(.a 3)])],aF:=jg,dN:=true,dv:=true} [0,1] [] 2 ?_
 try simp only[FR,ne_eq,Nat.reduceEqDiff,not_false_eq_true]
 have bad:∀ {K:HP},¬(1<=u/\u<=7/\1<=c/\c<=u)->HP.aT K (aE λa'=>aE λc'=>aE λcZ:List ky=>aA (Value.tuple #[.agg #[an 0,.slice none 0 0],an 1]=.tuple #[.agg #[an (mC u c).1.ep,.slice a' cZ.length c'],an (mC u c).2]/\cZ.map (·.l)=(mC u c).1.ch/\∀x∈cZ,x.l.length<=1000000) (Ls ip a' cZ.length cZ)):=λh=>.of λR h' H=>⟨none,0,[],⟨by rw[show mC u c=_ from aq h];rfl,by rw[show mC u c=_ from aq h];rfl,λx hx=>by cases hx⟩,rfl,bN.nil _ _ _ _,λx hx=>by cases hx⟩;intro _;refine⟨λh=>bad (by omega),λh1=>⟨λh=>bad (by omega),λh2=>⟨λh=>bad (by omega),λh3=>⟨λh=>bad (by omega),λh4=>?_⟩⟩⟩⟩;obtain⟨m,rfl⟩:∃m:Nat,c=m:=⟨c.toNat,by omega⟩;obtain⟨q,rfl⟩:∃q:Nat,u=q:=⟨u.toNat,by omega⟩;have hm:0<m:=by omega
 obtain⟨i,hi,z1,z2,z3⟩:=info_parts x9;refine(Vd IV hi z1 rfl z2 m (by rw[z3];omega) (by unfold maxLen;omega) tt).wk ?_;rintro v R h ⟨x,rfl,H⟩;refine⟨some ⟨x,0,none⟩,m,m,PL uU (some ⟨x,0,none⟩) m m (List.replicate m ⟨none,0,[]⟩),rfl,λ_=>?_,ZG x m (ai H)⟩;refine⟨λi P=>∃(k:Nat) (es:List ky),i=k/\k<=q/\es.map (·.l)=fG k m/\HP.aT P (PL uU (some ⟨x,0,none⟩) m m es),λi _=>q - i.toNat,⟨0,_,rfl,Nat.zero_le _,by rw[IY];simp,.refl _⟩,?_⟩;rintro _ P ⟨k,es,rfl,hk,he,hP⟩
 have Ts:es.length=m:=by
  have:=congrArg List.length he;rw[qN]at this;simpa using this
 have OA:∀y∈es,y.l.length<=7:=λy hy=>by
  have:y.l∈fG k m:=by rw[<-he];exact List.mem_map.2 ⟨y,hy,rfl⟩
  obtain⟨j,_,e⟩:=List.mem_map.1 this;rw[<-e,List.length_map];have:=List.length_filter_le (λn=>decide (n%m=j)) (List.range k);rw[List.length_range]at this;omega
 refine⟨λhlt=>⟨by omega,λ_=>?_⟩,λlH=>?_⟩
 ·have htm:((k:Int).tmod (m:Int))=((k%m:Nat):Int):=Int.ofNat_tmod _ _;have hkm:=Nat.mod_lt k hm;rw[htm];have hy:es[k%m]? =some es[k%m]:=List.getElem?_eq_getElem (by omega);generalize hye:es[k%m]=y at hy;have tg:=OA y (List.mem_of_getElem? hy);refine⟨by omega,λ_=>⟨by omega,λ_=>⟨rfl,λ_=>?_⟩⟩⟩;refine⟨y.a,y.l.length,y.c,aM.aT hP ?_,λb=>?_⟩
  ·refine cU Ba OX ZD (PL.rd (K:=uU) _ m m es) (k:=((k%m:Nat):Int).toNat*1) (off:=0) ?_;have:=gQ ip.aJ 1 ip.len es (k%m) 0 y hy (by decide);rw[Int.toNat_natCast,Nat.add_zero];exact this
  ·refine(vQ y.a y.l.length y.c y.l (HP.one b (.cells #[an (k:Int)] 3 (0,0))) ⟨b,0,none⟩ 1 1 [(k:Int)] (eQ b #[an (k:Int)] 3) rfl (by omega)).bv (K:=rW uU (some ⟨x,0,none⟩) m m es (k%m)) ((hP.aj _).trans (.of λR h H=>?_)) λv=>.of λR h H=>?_
   ·have H1:=au (ae H (λz hz=>PL.jK (K:=uU) hy hz) λ_ h=>h);exact aC (ae H1 (λ_ h=>h) λz hz=>ak hz)
   ·obtain⟨h1,h2,dd,l1,l2,⟨a',c',rfl,H1⟩,H2⟩:=H;have H3:=HP.pick [kv a' (y.l.length+1) c' (y.l++[(k:Int)]),HP.one b (.cells #[an (k:Int)] 3 (0,0)),rW uU (some ⟨x,0,none⟩) m m es (k%m)] [0,2,1] (by decide) rfl (au ⟨h1,h2,dd,l1,l2,H1,H2⟩);refine⟨a',y.l.length+1,c',kv a' (y.l.length+1) c' (y.l++[(k:Int)]),rW uU (some ⟨x,0,none⟩) m m es (k%m),rfl,?_,H3⟩;refine(rW.set (K:=uU) hi z2 (k:=k%m) (by omega) ⟨a',c',y.l++[(k:Int)]⟩ (v:=.slice a' (y.l.length+1) c') (by simp[Value.cells,uU,ip]) tt).bv (K:=tt) (.of λR h H=>aD (ae H (λ_ h=>h) λz hz=>aD (by simpa[uU]using hz))) λv=>.of λR h H=>?_;obtain⟨rfl,H9⟩:=ai H;refine⟨_,rfl,⟨bh _ (by omega) (by omega),λ_=>⟨⟨k+1,es.set (k%m) ⟨a',c',y.l++[(k:Int)]⟩,by omega,by omega,?_,.refl _⟩,by dsimp only;omega⟩⟩,ai H9⟩;rw[IZ k m hm,<-he,List.map_set];congr 1;rw[List.getD_eq_getElem?_getD,List.getElem?_map,hy];rfl
 ·have hkq:k=q:=by omega
  subst hkq
  have e:mC (k:Int) (m:Int)=(⟨0,fG k m⟩,0):=by
   unfold mC;rw[aB (by omega)];simp
  refine(hP.trans (ZF _ _ _ _)).trans (.of λR h H=>⟨_,m,es,⟨by rw[e,Ts],by rw[e];exact he,λy hy=>by have:=OA y hy;omega⟩,by rw[Ts];exact H⟩)
theorem bX.of{S}{a}{n}{l}(h:∀R x,S.p R x->(vP a n l).p R x):bX S a n (l.map cr):=
 ⟨tN (bN.rd 1 a n (l.map cr)) h,λR x H e=>(bX.ro 1 a n (l.map cr)).none R x (h R x H) e⟩
theorem Vx v n:eg v (n+1)=eg (v / 256) n++[UInt8.ofNat v]:=by
 unfold eg;rw[List.range_succ,List.map_append];congr 1
 ·refine List.map_congr_left λj hj=>?_;have hj:=List.mem_range.1 hj;unfold qC
  have e:2^(8*(n+1 - 1 - j))=256*2^(8*(n - 1 - j)):=by
   rw[show 8*(n+1 - 1 - j)=8*(n - 1 - j)+8 by omega,Nat.pow_add];omega
  rw[e,Nat.div_div_eq_div_mul]
 ·simp[qC]
theorem oG:∀(n v:Nat),v<256^n->xE (eg v n)=v
 |0,v,h=>by simp at h;subst h;rfl
 |n+1,v,h=>by
  rw[Vx,Im,oG n (v / 256) (by rw[Nat.pow_succ]at h;omega),UInt8.toNat_ofNat'];omega
theorem sg l:cO (ml l)=some l:=by
 have h4:(256:Nat)^4=4294967296:=by decide
 unfold cO;rw[kh,aq (by omega),Nat.add_sub_cancel];unfold ml;rw[List.drop_left,List.take_left,oG 4 _ (by have:=FW l;omega),aB rfl]
theorem acn{t ty}{i:Nat}{f}{jy:dI}{A}{ps rs}{vd}(ht:prog.underlying t=some (.func ps rs vd))(hg:prog.eqGuardType prog.depth t=false):aM prog (bZ (.binOp .eql t (.tmp i) (.const .nilFunc) t) ty [(i,.func (.func f) #[] jy)]) A (.bool false):=λw R h F s _=>by
 have e0:∀n,(Op.equalIn (n+1) t (.func (.func f) #[] jy) .nilFunc).run prog w=.ok false w:=λn=>by
  simp only[Op.equalIn,Sem.run_bind,RX.run_underlying ht,Result.andThen_ok,Sem.run_pure]
 have e:(Op.equal t (.func (.func f) #[] jy) .nilFunc).run prog w=.ok false w:=e0 9999;have:=(iX (P:=prog) (w:=w) (.inr (.inr (.inr (.inr ⟨_,_,_,rfl⟩)))) e).1;simp only[bZ,execOp,lW,List.find?_cons,beq_self_eq_true,Option.map_some,Option.getD_some];simp[eqGuard,hg,program,Sem.run_bind,this]
def OY(k:Int):UInt8:=UInt8.ofNat (IntKind.u8.wrap k).toNat
theorem OZ k:((OY k).toNat:Int)=IntKind.u8.wrap k:=by
 have h1:0<=IntKind.u8.wrap k/\IntKind.u8.wrap k<256:=by
  simp only[IntKind.wrap,IntKind.bits,IntKind.signed,Bool.false_and,Bool.false_eq_true,if_false];omega
 unfold OY;rw[UInt8.toNat_ofNat'];omega
def Dv(c:List Int):ax:=eg c.length 4++c.map OY
def Vy(p:rx):ax:=eg p.ep.toNat 4++(eg p.ch.length 4++p.ch.flatMap Dv)
def YI(p:rx):ax:=ml (Vy p)
theorem ahW:xC prog 255:=⟨_,Tryz.func255,by kernel_rfl,by kernel_rfl⟩
theorem ahX:xC prog 253:=⟨_,Tryz.func253,by kernel_rfl,by kernel_rfl⟩
theorem ZH b l x(hb:l.length<140737488355328):az prog 255 #[pt b,an x] (dE b l) (λv=>aA (v=cE) (dE b (l++[OY x]))):=by
 refine ao (ρ:=[.n b,.p (dE b l),.i x]) {aF:=jg,dv:=true} [(.ptr 0 0),2] uS 3 ?_;rw[<-OZ];refine(ny b l (OY x) hb).wk ?_;rintro v R h ⟨rfl,H⟩;exact⟨_,rfl,.of λR h H=>⟨trivial,H⟩,H⟩
theorem Vz{n:Nat}(h:n<=1000000000000):IntKind.u64.wrap (n:Int)=n:=eZ ⟨by simp[IntKind.min,IntKind.signed],by simp[IntKind.max,IntKind.signed,IntKind.bits];omega⟩
set_option maxHeartbeats 1000000 in
theorem ZI b l S a n c q(hr:bX S a n (q.map cr))(hl:q.length=n)(hn:n<=1000000)(hb:l.length<=100000000000):
 az prog 254 #[pt b,.slice a n c,.func (.func 255) #[] #[]] (aj (dE b l) S)
  (λv=>aA (v=cE) (aj (dE b (l++Dv q)) S)):=by
 refine az.cM (φ:=a=none->n=0) (λR h H=>hr.none R _ (ah H)) λha=>?_
 refine(cC (ρ:=[.n b,.p (dE b l),.a a,.n n,.n c,.p S,.v (.func (.func 255) #[] #[]),.p tt]) mixed Tryz.func254 Q4 ?_).aK
  (λR h H=>au (aD H)) λ_ _ _ h=>h
 unfold Vt;refine Iz ?_;rw[Vz (by omega)];refine(fB b l n 4 (by omega) (by omega)).wk ?_;rintro v R h ⟨rfl,H⟩;refine⟨_,rfl,⟨false,acn Tryz.underlying317 (by kernel_rfl),λh=>(by cases h),λ_=>?_⟩,H⟩;refine⟨λk p q'=>∃j:Nat,k=j/\j<=n/\HP.aT p (dE b (l++eg n 4++(q.take j).map OY))/\q'=tt,λk _ _=>n - k.toNat,⟨0,rfl,Nat.zero_le _,by simpa using HP.aT.refl _,rfl⟩,?_⟩;rintro k p _ ⟨j,rfl,hj,hp,rfl⟩;refine⟨λhlt=>⟨by omega,λ_=>⟨Option.isSome_iff_ne_none.2 λe=>(by have:=ha e;omega),λ_=>?_⟩⟩,λlH=>?_⟩
 ·have L4:j<q.length:=by omega
  have hx:q[j]? =some q[j]:=List.getElem?_eq_getElem L4;refine⟨q[j],ldI hr.rd hx,?_⟩;refine .inl ⟨_,#[],rfl,ahW,?_⟩;refine(ZH b _ q[j] (by simp[bF];omega)).bv ((HP.aT.of λR h H=>ak H).trans ((HP.aT.aj hp tt))) λv=>.of λR h H=>?_;obtain⟨rfl,H1⟩:=ai H;refine⟨tt,_,rfl,⟨bh _ (by omega) (by omega),λ_=>⟨⟨j+1,by omega,by omega,?_,rfl⟩,by dsimp only;omega⟩⟩,aW H1⟩;rw[List.take_succ_eq_append_getElem L4,List.map_append,<-List.append_assoc];exact .refl _
 ·have e:j=q.length:=by omega
  rw[e,List.take_length]at hp;refine(HP.aT.gX hp (HP.aT.refl _)).trans (.of λR h H=>⟨trivial,?_⟩);have e2:l++Dv q=l++eg n 4++q.map OY:=by unfold Dv;rw[hl,List.append_assoc]
  rw[e2];exact ae H (λ_ h=>h) λ_ h=>ai h
theorem ZJ b l S a n c q(hr:bX S a n (q.map cr))(hl:q.length=n)(hn:n<=1000000)(hb:l.length<=100000000000):
 az prog 253 #[pt b,.slice a n c] (aj (dE b l) S) (λv=>aA (v=cE) (aj (dE b (l++Dv q)) S)):=by
 refine ao (ρ:=[.n b,.p (dE b l),.a a,.n n,.n c,.p S]) {aF:=jg,dv:=true} [(.ptr 0 0),(.s 2)] [(.b 0,1),(2,5)] 6 ?_;refine(ZI b l S a n c q hr hl hn hb).wk ?_;rintro v R h ⟨rfl,H⟩;exact⟨_,_,rfl,.of λR h H=>⟨trivial,H⟩,H⟩
theorem ZK c:(Dv c).length=4+c.length:=by simp[Dv,bF]
theorem BJ(q:List (List Int)) m(h:∀c∈q,c.length<=m):(q.flatMap Dv).length<=q.length*(4+m):=by
 induction q with
 |nil=>simp
 |cons c r ih=>
  have h1:=h c (by simp);have h2:=ih λd hd=>h d (by simp[hd]);rw[List.flatMap_cons,List.length_append,ZK,List.length_cons,Nat.succ_mul];omega
set_option maxHeartbeats 1000000 in
theorem ZL b l S a n c es(hS:∀R h,S.p R h->(Ls ip a n es).p R h)(hn:n<=1000)(xM:∀x∈es,x.l.length<=1000000)(hb:l.length<=1000):
 az prog 252 #[pt b,.slice a n c,.func (.func 253) #[] #[]] (aj (dE b l) S)
  (λv=>aA (v=cE) (aj (dE b (l++(eg es.length 4++(es.map (·.l)).flatMap Dv))) S)):=by
 refine az.cM (φ:=es.length=n/\(n≠0->a.isSome=true)) (λR h H=>⟨(hS R _ (ah H)).1,λhn=>bN.some (hS R _ (ah H)).2.1 (by omega)⟩) λ⟨hl,hs⟩=>?_
 refine(cC (ρ:=[.n b,.p (dE b l),.a a,.n n,.n c,.p S,.v (.func (.func 253) #[] #[]),.p tt]) mixed Tryz.func252 Q5 ?_).aK
  (λR h H=>au (aD H)) λ_ _ _ h=>h
 unfold Vu;refine Iz ?_;rw[Vz (by omega)];refine(fB b l n 4 (by omega) (by omega)).wk ?_;rintro v R h ⟨rfl,H⟩;refine⟨_,rfl,⟨false,acn Tryz.underlying318 (by kernel_rfl),λh=>(by cases h),λ_=>?_⟩,H⟩;refine⟨λk p q'=>∃j:Nat,k=j/\j<=n/\HP.aT p (dE b (l++eg n 4++((es.take j).map (·.l)).flatMap Dv))/\q'=tt,λk _ _=>n - k.toNat,⟨0,rfl,Nat.zero_le _,by simpa using HP.aT.refl _,rfl⟩,?_⟩;rintro k p _ ⟨j,rfl,hj,hp,rfl⟩;refine⟨λhlt=>⟨by omega,λ_=>⟨hs (by omega),λ_=>?_⟩⟩,λlH=>?_⟩
 ·have L4:j<es.length:=by omega
  have hx:es[j]? =some es[j]:=List.getElem?_eq_getElem L4
  have A4:((es.take (j+1)).map (·.l)).flatMap Dv=((es.take j).map (·.l)).flatMap Dv++Dv es[j].l:=by
   rw[List.take_succ_eq_append_getElem L4,List.map_append,List.flatMap_append];simp
  have kM:=List.mem_of_getElem? hx;generalize es[j]=x at*
  have amP:=BJ ((es.take j).map (·.l)) 1000000 λc hc=>by
   obtain⟨y,hy,rfl⟩:=List.mem_map.1 hc;exact xM y (List.mem_of_mem_take hy)
  have ahY:((es.take j).map (·.l)).length*(4+1000000)<=1000*(4+1000000):=Nat.mul_le_mul_right _ (by simp;omega);refine⟨x.a,x.l.length,x.c,ldC hS hx,?_⟩;refine .inl ⟨_,#[],rfl,ahX,?_⟩;refine(ZJ b _ S x.a x.l.length x.c x.l (.of λR h H=>(hS R h H).2.2 x kM) rfl (xM x kM) (by simp only[List.length_append,bF];omega)).bv (K:=tt) ((HP.aT.of λR h H=>HP.pick [tt,p,S] [1,2] (by decide) rfl H).trans ((HP.aT.aj hp S).trans (.of λR h H=>aD H))) λv=>.of λR h H=>?_;obtain⟨rfl,H1⟩:=ai H;refine⟨tt,_,rfl,⟨bh _ (by omega) (by omega),λ_=>⟨⟨j+1,by omega,by omega,?_,rfl⟩,by dsimp only;omega⟩⟩,aW H1⟩;rw[A4,<-List.append_assoc];exact .refl _
 ·have e:j=es.length:=by omega
  rw[e,List.take_length]at hp;refine(HP.aT.gX hp (HP.aT.refl _)).trans (.of λR h H=>⟨trivial,?_⟩);have e2:l++(eg es.length 4++(es.map (·.l)).flatMap Dv)=l++eg n 4++(es.map (·.l)).flatMap Dv:=by rw[hl,List.append_assoc]
  rw[e2];exact ae H (λ_ h=>h) λ_ h=>ai h
set_option maxHeartbeats 1000000 in
theorem VA(ep:Int)(S:HP)(a:aG)(n c:Nat)(es:List ky)(hS:∀R h,S.p R h->(Ls ip a n es).p R h)(h0:0<=ep)(h1:ep<=2147483648)(hn:n<=1000)(xM:∀x∈es,x.l.length<=1000000):
 az prog 215 #[.agg #[an ep,.slice a n c]] S (λv=>aE λa'=>aE λc'=>aA (v=.slice a' (YI ⟨ep,es.map (·.l)⟩).length c') (aj S (dS a' (YI ⟨ep,es.map (·.l)⟩).length c' (YI ⟨ep,es.map (·.l)⟩)))):=by
 refine ao (ρ:=[.i ep,.a a,.n n,.n c,.p S]) {aF:=jg,dv:=true} [(.agg [0,(.s 1)])] Vs 5 ?_;intro _ x;refine az.cM (φ:=True) (λ_ _ _=>trivial) λ_=>?_
 have hw:IntKind.u64.wrap ep=(ep.toNat:Int):=by
  have:ep=(ep.toNat:Int):=by omega
  conv=>lhs;rw[this]
  exact Vz (by omega)
 rw[hw];refine(fB x [] ep.toNat 4 (by omega) (by simp)).aK (λR h H=>⟨none,0,ak (ae (aW H) (λy _=>bY.nil _ _ R y) λ_ h=>h)⟩) ?_;rintro v R h ⟨rfl,xa,xc,H⟩;refine⟨xa,_,xc,dS xa _ xc _,rfl,?_,H⟩;clear H;have OA:es.length<=1000\/True:=.inr trivial;have amQ:[]++eg ep.toNat 4++(eg es.length 4++(es.map (·.l)).flatMap Dv)=Vy ⟨ep,es.map (·.l)⟩:=by unfold Vy;simp
 refine az.cM (φ:=es.length=n) (λR h H=>(hS R _ (ah (ah H))).1) λhl=>?_
 have amP:=BJ (es.map (·.l)) 1000000 λc hc=>by
  obtain⟨y,hy,rfl⟩:=List.mem_map.1 hc;exact xM y hy
 have ahY:(es.map (·.l)).length*(4+1000000)<=1000*(4+1000000):=Nat.mul_le_mul_right _ (by simp;omega)
 have amR:(Vy ⟨ep,es.map (·.l)⟩).length<=100000000000:=by
  unfold Vy;simp only[List.length_append,bF];omega
 refine(ZL x ([]++eg ep.toNat 4) S a n c es hS hn xM (by simp[bF])).aK (λR h H=>ae (aC H) (λ_ h=>⟨xa,xc,h⟩) λ_ h=>h) ?_;rw[amQ];rintro v R h ⟨rfl,h1,h2,d,q1,q2,⟨ya,yc,HW⟩,HN⟩;refine⟨ya,_,yc,dS ya _ yc _,S,rfl,?_,au ⟨h1,h2,d,q1,q2,HW,HN⟩⟩;refine(kF x (Vy ⟨ep,es.map (·.l)⟩) (by omega)).aK (λR h H=>⟨ya,yc,H⟩) ?_;rintro v R h ⟨a',c',rfl,h1,h2,d,q1,q2,⟨za,zc,HW⟩,HO⟩;have Fw:(Vy ⟨ep,es.map (·.l)⟩).length≠0->a'.isSome=true:=λh=>bY.some HO (by omega);refine⟨a',_,c',dS a' _ c' _,za,_,zc,dS za _ zc _,rfl,?_,h2,h1,d.symm,q2,q1,HO,HW⟩;refine(FX a' _ c' _ _ (ow _ _ _ _ _ _) rfl Fw (by omega)).wk ?_;rintro v R h ⟨b',d',rfl,H⟩;exact⟨b',_,d',dS b' _ d' _,_,rfl,.of λR h H=>⟨b',d',rfl,H⟩,ak H⟩
def zR(s:RS):Int×RS:=((((bg s 1).1%256:Nat):Int),(bg s 1).2)
def ug(s:RS):List Int×RS:=cD zR 7 s
theorem I0:tq zR:=λs h=>by have:=(lM (s:=s) (n:=1) h).2;show(bg s 1).2.1.length+1<=_;omega
theorem VB s:(zR s).2.1.length<=s.1.length:=fN s 1
theorem I1:tq ug:=λs h=>by
 unfold ug at h⊢;rw[xV]at h⊢;have h1:=r9 (zi h);have h2:=BB (f:=zR) VB (bB s 7).1 (bB s 7).2;omega
theorem ael s:(ug s).2.1.length<=s.1.length:=wm (f:=zR) VB 7 s
theorem ZM b(s:RS):az prog 222 #[pt b] (di b s) (λv=>aA (v=an (zR s).1) (di b (zR s).2)):=by
 refine ao (ρ:=[.n b,.p (di b s)]) {} OW uS 2 ?_;refine(mj b s).wk ?_;rintro v R h ⟨rfl,H⟩;exact⟨_,_,rfl,⟨bh _ (by omega) (by omega),λ_=>.of λR h H=>⟨rfl,H⟩⟩,H⟩
set_option maxHeartbeats 1000000 in
theorem VC b(s:RS) bC(hL:s.1.length<=100000000):az prog 221 #[pt b,an bC,.func (.func 222) #[] #[]] (di b s)
 (λv=>aE λa=>aE λc=>aA (v=.slice a (cD zR bC s).1.length c) (aj (kv a (cD zR bC s).1.length c (cD zR bC s).1) (di b (cD zR bC s).2))):=by
 refine ao (ρ:=[.n b,.p (di b s),.i bC,.v (.func (.func 222) #[] #[]),.p tt]) {hv:=[(0,[(.b 0),(.b 9)])],aF:=[258],link:=[(258,0)],shr:=[(0,[(.b 0)])],YA:=[(0,[3])]} [(.ptr 0 0),2,(.a (.func 222 []))] uS 5 ?_;intro x y;refine(rX b s bC).wk ?_;rintro v R h ⟨rfl,H⟩;refine⟨_,_,rfl,λz=>?_,H⟩;refine(wg b _ (di b (bB s bC).2)).wk ?_;rintro v R h ⟨nb,rb,rfl,H⟩;refine⟨.func (.func 282) #[] #[pt nb,pt rb],LS nb rb b _,rfl,λu=>?_,H⟩;have hn:=wj s bC;have hL1:(bB s bC).2.1.length<=100000000:=Nat.le_trans (kg s bC) hL;have nG:cD zR bC s=if(du zR (bB s bC).1 (bB s bC).2).2.2 then([],(du zR (bB s bC).1 (bB s bC).2).2)else du zR (bB s bC).1 (bB s bC).2:=rfl
 generalize hN:(bB s bC).1=N at*;generalize hS1:(bB s bC).2=s1 at*;refine⟨Nat×RS,λg=>di b g.2,λ_ _=>tt,Ve N,Dr N,(0,s1),λg p a n c q=>p=di b g.2/\∃ll,n=ll.length/\HP.aT q (kv a n c ll)/\nF zR N s1 g ll,tj nb rb b N (by omega) s1,?_,?_,?_,?_⟩
 ·exact⟨rfl,[],rfl,.of λR h _=>bY.nil _ _ R h,nF.init _ _ _⟩
 ·rintro g p a n c q ⟨rfl,_⟩;rfl
 ·rintro g args ⟨g',rfl,hi,hw,_⟩ p a n c q ⟨rfl,ll,rfl,hq,hs⟩;refine⟨(g.1:Int),rfl,.of λ_ _ _=>trivial,?_⟩;refine(ZM b g.2).wk ?_;rintro v R h ⟨rfl,H⟩;refine⟨_,_,rfl,λe=>?_,H⟩;have VD:ll.length<=100000000:=by have:=hs.2.1 hw;omega
  refine(vQ a ll.length c ll (HP.one e (.cells #[an (zR g.2).1] 3 (0,0))) ⟨e,0,none⟩ 1 1 [(zR g.2).1] (eQ e #[an (zR g.2).1] 3) rfl (by omega)).bv (K:=tt) ((hq.aj _).trans (.of λ_ _=>aD)) λv=>.of λR h H=>?_;obtain⟨a',c',rfl,H'⟩:=ai H;exact⟨a',_,c',_,rfl,⟨(g.1+1,(zR g.2).2),⟨rfl,hi,hw,rfl⟩,rfl,ll++[(zR g.2).1],by simp,HP.aT.refl _,hs.next I0 hi hw⟩,H'⟩
 ·rintro g hf p a n c q ⟨rfl,ll,rfl,hq,hs⟩;have A8:=hs.iW hf;rw[A8]at nG;refine⟨g.2.2,we b g.2,λhw=>.of λR h H=>?_,λhw=>((HP.aT.refl _).gX hq).trans (.of λR h H=>?_)⟩
  ·rw[nG,aB hw];exact⟨none,0,rfl,ak (ae (aD H) (λ_ h=>h) λy _=>bY.nil _ _ R y)⟩
  ·rw[nG,aq hw];exact⟨a,c,rfl,ak H⟩
theorem ZN b(s:RS)(hL:s.1.length<=100000000):az prog 220 #[pt b] (di b s)
 (λv=>aE λa=>aE λc=>aA (v=.slice a (ug s).1.length c) (aj (vP a (ug s).1.length (ug s).1) (di b (ug s).2))):=by
 refine ao (ρ:=[.n b,.p (di b s)]) {} OW uS 2 ?_;refine(VC b s 7 hL).wk ?_;rintro v R h ⟨a,c,rfl,H⟩;refine⟨a,_,c,_,_,rfl,?_,H⟩;exact((HP.aT.of λR h H=>ak H).trans (HP.aT.aj (bY.eP _ _ _ _ _ _) _)).trans (.of λR h H=>⟨a,c,rfl,H⟩)
set_option maxHeartbeats 1000000 in
theorem VE b(s:RS) bC(hL:s.1.length<=100000000):az prog 219 #[pt b,an bC,.func (.func 220) #[] #[]] (di b s)
 (λv=>aE λa=>aE λc=>aE λes:List ky=>aA (v=.slice a es.length c/\es.map (·.l)=(cD ug bC s).1) (aj (PL BG a es.length c es) (di b (cD ug bC s).2))):=by
 refine ao (ρ:=[.n b,.p (di b s),.i bC,.v (.func (.func 220) #[] #[]),.p tt]) {hv:=[(0,[(.b 0),(.b 9)])],aF:=[258],link:=[(258,0)],shr:=[(0,[(.b 0)])],YA:=[(0,[3])]} [(.ptr 0 0),2,(.a (.func 220 []))] uS 5 ?_;intro x y;refine(rX b s bC).wk ?_;rintro v R h ⟨rfl,H⟩;refine⟨_,_,rfl,λz=>?_,H⟩;refine(wg b _ (di b (bB s bC).2)).wk ?_;rintro v R h ⟨nb,rb,rfl,H⟩;refine⟨.func (.func 282) #[] #[pt nb,pt rb],LS nb rb b _,rfl,λu=>?_,H⟩;have hn:=wj s bC;have hL1:(bB s bC).2.1.length<=100000000:=Nat.le_trans (kg s bC) hL;have nG:cD ug bC s=if(du ug (bB s bC).1 (bB s bC).2).2.2 then([],(du ug (bB s bC).1 (bB s bC).2).2)else du ug (bB s bC).1 (bB s bC).2:=rfl
 generalize hN:(bB s bC).1=N at*;generalize hS1:(bB s bC).2=s1 at*;obtain⟨i,Oo,z1,z2,z3⟩:=info_parts x9;refine⟨Nat×RS,λg=>di b g.2,λ_ _=>tt,Ve N,Dr N,(0,s1),λg p a n c q=>p=di b g.2/\g.2.1.length<=100000000/\∃es:List ky,n=es.length/\HP.aT q (PL BG a n c es)/\nF ug N s1 g (es.map (·.l)),tj nb rb b N (by omega) s1,?_,?_,?_,?_⟩
 ·exact⟨rfl,hL1,[],rfl,.of λR h _=>wd _ R h,nF.init _ _ _⟩
 ·rintro g p a n c q ⟨rfl,_⟩;rfl
 ·rintro g args ⟨g',rfl,hi,hw,_⟩ p a n c q ⟨rfl,hg,es,rfl,hq,hs⟩;refine⟨(g.1:Int),rfl,.of λ_ _ _=>trivial,?_⟩;refine(ZN b g.2 hg).wk ?_;rintro v R h ⟨a1,c1,rfl,H⟩;refine⟨a1,_,c1,_,_,rfl,λe=>?_,H⟩
  have VD:es.length<=100000000:=by
   have:=hs.2.1 hw;simp only[List.length_map]at this;omega
  refine(Vb (K:=BG) 32 32 IV Oo z1 (by rw[z2];rfl) z2 (by rw[z3];decide) a es.length c es e ⟨a1,c1,(ug g.2).1⟩ (vP a1 (ug g.2).1.length (ug g.2).1) (by omega)).bv (K:=tt) ((hq.aj _).trans (.of λR h H=>aD (ae H (λ_ h=>h) λz hz=>ae hz (λ_ h=>h) λ_ h=>bN.join h h))) λv=>.of λR h H=>?_;obtain⟨a',c',rfl,H'⟩:=ai H;have ZO:=hs.next I1 hi hw
  refine⟨a',_,c',_,rfl,⟨(g.1+1,(ug g.2).2),⟨rfl,hi,hw,rfl⟩,rfl,Nat.le_trans (ael _) hg,es++[⟨a1,c1,(ug g.2).1⟩],by simp,HP.aT.refl _,by rw[List.map_append];exact ZO⟩,H'⟩
 ·rintro g hf p a n c q ⟨rfl,hg,es,rfl,hq,hs⟩;have A8:=hs.iW hf;rw[A8]at nG;refine⟨g.2.2,we b g.2,λhw=>.of λR h H=>?_,λhw=>((HP.aT.refl _).gX hq).trans (.of λR h H=>?_)⟩
  ·rw[nG,aB hw];exact⟨none,0,[],⟨rfl,rfl⟩,ak (ae (aD H) (λ_ h=>h) λy _=>wd _ R y)⟩
  ·rw[nG,aq hw];exact⟨a,c,es,⟨rfl,rfl⟩,ak H⟩
theorem Re b(s:RS) bC(hL:s.1.length<=100000000):az prog 219 #[pt b,an bC,.func (.func 220) #[] #[]] (di b s)
 (λv=>aE λa=>aE λc=>aE λes:List ky=>aA (v=.slice a es.length c/\es.map (·.l)=(cD ug bC s).1) (aj (Ls ip a es.length es) (di b (cD ug bC s).2))):=
 (VE b s bC hL).post λv=>λR h d ⟨a,c,es,e,H⟩=>by
   obtain⟨R1,h1,q1,q2,q3,q4,H1⟩:=(HP.aT.aj (PL.eP _ _ _ _) _) R h d H;exact⟨R1,h1,q1,q2,q3,q4,a,c,es,e,H1⟩
theorem Ei{α:Type}(f:RS->α×RS):∀(n:Nat) (s:RS) (x:α),x∈(du f n s).1->∃s',x=(f s').1
 |0,s,x,h=>by cases h
 |n+1,s,x,h=>by
  unfold du at h;split at h
  ·cases h
  ·rcases List.mem_cons.1 h with e|e
   ·exact⟨s,e⟩
   ·exact Ei f n _ x e
theorem Ej{α:Type}(f:RS->α×RS):∀(n:Nat) (s:RS),(du f n s).1.length<=n
 |0,s=>by simp[du]
 |n+1,s=>by
  unfold du;split
  ·simp
  ·have:=Ej f n (f s).2;simp only[List.length_cons];omega
theorem L6(s:RS)(m:Nat):(bB s m).1<=m:=by
 unfold bB;split
 ·simp
 ·split
  ·simp
  ·show(bg s 4).1<=m;omega
theorem Rf{α:Type}(f:RS->α×RS)(m:Nat) s:(cD f m s).1.length<=m:=by
 unfold cD;split
 ·simp
 ·exact Nat.le_trans (Ej f _ _) (L6 s m)
theorem Rh{α:Type} f m s(x:α)(h:x∈(cD f m s).1):∃s',x=(f s').1:=by
 unfold cD at h;split at h
 ·cases h
 ·exact Ei f _ _ x h
def yb(l:ax):rx×RS:=(⟨(bg (l,false) 4).1,(cD ug 7 (bg (l,false) 4).2).1⟩,(cD ug 7 (bg (l,false) 4).2).2)
def dZ(l:ax):rx×Int:=match cO l with
 |none=>(⟨0,[]⟩,3)
 |some i=>if(yb i).2.2=true\/(yb i).2.1≠[]\/dw (yb i).1=false then(⟨0,[]⟩,3)else((yb i).1,0)
theorem L7{l i}(h:cO l=some i):i.length<=l.length:=by
 unfold cO at h;split at h
 ·cases h
 ·split at h
  ·cases h;simp
  ·cases h
set_option maxHeartbeats 1000000 in
theorem I2 a n c l(S:HP)(hr:bX S a n (l.map eX))(hl:l.length=n)(hc:n<=c)(hL:n<=100000000):
 az prog 152 #[.slice a n c] S (λv=>aE λa'=>aE λc'=>aE λes:List ky=>aA (v=.tuple #[.agg #[an (dZ l).1.ep,.slice a' es.length c'],an (dZ l).2]/\es.map (·.l)=(dZ l).1.ch) (aj (Ls ip a' es.length es) S)):=by
 refine az.cM (φ:=a=none->n=0) (λR h H=>hr.none R _ H) λha=>?_;refine ao (ρ:=[.a a,.n n,.n c,.p S]) {} [(.s 0)] sf 4 ?_;have bad:∀ {K:HP},dZ l=(⟨0,[]⟩,3)->HP.aT K S->HP.aT K (aE λa'=>aE λc'=>aE λes:List ky=>aA (Value.tuple #[.agg #[an 0,.slice none 0 0],an 3]=.tuple #[.agg #[an (dZ l).1.ep,.slice a' es.length c'],an (dZ l).2]/\es.map (·.l)=(dZ l).1.ch) (aj (Ls ip a' es.length es) S)):=λhe hk=>hk.trans (.of λR h H=>⟨none,0,[],⟨by rw[he];rfl,by rw[he];rfl⟩,ak (ae (aD H) (λ_ h=>h) λy _=>⟨rfl,bN.nil _ _ _ _,λx hx=>by cases hx⟩)⟩);intro _;refine(tx a n c l S hr hl hc (λh=>Option.isSome_iff_ne_none.2 λe=>h (ha e)) (by omega)).wk ?_;rintro v R h ⟨a1,c1,rfl,H⟩;refine⟨a1,_,c1,dS a1 ((cO l).getD []).length c1 ((cO l).getD []),_,S,rfl,⟨λh1=>bad ?_ (.refl _),λh1=>?_⟩,ak H⟩
 ·cases hu:cO l with
  |none=>unfold dZ;rw[hu]
  |some i=>rw[hu]at h1;simp at h1
 clear H
 obtain⟨i,hu⟩:∃i,cO l=some i:=by
  cases hu:cO l with
  |none=>rw[hu]at h1;simp at h1
  |some i=>exact⟨i,rfl⟩
 have hil:=L7 hu;have I3:dZ l=if(yb i).2.2=true\/(yb i).2.1≠[]\/dw (yb i).1=false then(⟨0,[]⟩,3)else((yb i).1,0):=by unfold dZ;rw[hu]
 rw[hu];simp only[Option.getD_some];refine(pS a1 i.length c1 i (dS a1 i.length c1 i) (ow _ _ _ _ _ _) rfl (by omega)).wk ?_;rintro v R h ⟨b,rfl,H⟩;refine⟨b,di b (i,false),_,rfl,?_,ak H⟩;clear H;refine(ig b (i,false) 4 (by omega)).wk ?_;rintro v R h ⟨rfl,H⟩;have hlt:=mX (i,false) 4;have hwr:IntKind.i64.wrap (((bg (i,false) 4).1:Nat):Int)=((bg (i,false) 4).1:Nat):=eZ (bh _ (by omega) (by omega));refine⟨_,di b (bg (i,false) 4).2,rfl,λ_=>?_,H⟩;clear H;rw[hwr];have hlen:(bg (i,false) 4).2.1.length<=100000000:=Nat.le_trans (fN _ _) (by show i.length<=_;omega);refine(Re b (bg (i,false) 4).2 7 hlen).wk ?_;rintro v R h ⟨a2,c2,es,⟨rfl,xM⟩,H⟩;refine⟨a2,es.length,c2,Ls ip a2 es.length es,di b (cD ug 7 (bg (i,false) 4).2).2,rfl,?_,H⟩;clear H;have amT:yb i=(⟨(bg (i,false) 4).1,es.map (·.l)⟩,(cD ug 7 (bg (i,false) 4).2).2):=by unfold yb;rw[xM]
 rw[amT]at I3;refine(lV b _).wk ?_;rintro v R h ⟨rfl,H⟩;refine⟨_,_,rfl,⟨λh2=>bad ?_ (.of λR h H=>?_),λh2=>?_⟩,H⟩
 ·rw[I3,aB];split at h2
  ·rename_i h3;exact h3.elim .inl λh=>.inr (.inl h)
  ·exact absurd rfl h2
 ·first|exact H|exact ai H|exact ah H
 ·have hno:¬((cD ug 7 (bg (i,false) 4).2).2.2=true\/(cD ug 7 (bg (i,false) 4).2).2.1≠[]):=λh=>by rw[aB h]at h2;exact absurd h2 (by decide)
  have h7:∀x∈es,x.l.length<=7:=λx hx=>by
   have:x.l∈(cD ug 7 (bg (i,false) 4).2).1:=by rw[<-xM];exact List.mem_map.2 ⟨x,hx,rfl⟩
   obtain⟨s',e⟩:=Rh _ _ _ _ this;rw[e];exact Rf zR 7 s'
  refine(wC (Ls ip a2 es.length es) _ a2 es.length c2 es (λ_ _ h=>h) (λx hx=>by have:=h7 x hx;omega)).wk ?_;rintro v R h ⟨rfl,H⟩;refine⟨_,Ls ip a2 es.length es,rfl,⟨λh3=>bad ?_ (.of λR h H=>?_),λh3=>.of λR h H=>⟨a2,c2,es,?_,?_⟩⟩,H⟩
  ·rw[I3,aB];exact .inr (.inr (by simpa using h3))
  ·first|exact H|exact ai H|exact ah H
  ·have e:dZ l=(⟨(bg (i,false) 4).1,es.map (·.l)⟩,0):=by
    rw[I3,aq];rintro(h|h|h)
    ·exact hno (.inl h)
    ·exact hno (.inr h)
    ·rw[h]at h3;cases h3
   rw[e];exact⟨rfl,rfl⟩
  ·exact ak H
theorem ah0 l r:fS (l++r,false) l.length=(l,(r,false)):=by
 unfold fS;rw[aq (by simp),aq (by simp)];simp
theorem aem{l r}{n}(h:l.length=n):bg (l++r,false) n=(xE l,(r,false)):=by
 unfold bg;rw[<-h,ah0]
theorem ah1{n m}{r}(h:n<=m)(hm:m<4294967296):bB (eg n 4++r,false) m=(n,(r,false)):=by
 unfold bB;rw[aem (bF _ _),oG 4 n (by omega),aq (by simp),aq (by omega)]
theorem aco{α:Type}(f:RS->α×RS)(g:α->ax):∀(l:List α) (_:∀x∈l,∀r,f (g x++r,false)=(x,(r,false))) (r:ax),du f l.length (l.flatMap g++r,false)=(l,(r,false))
 |[],_,r=>rfl
 |x::l,hf,r=>by
  rw[List.length_cons,List.flatMap_cons,List.append_assoc];simp only[du];rw[aq (by simp),hf x (by simp)];simp only;rw[aco f g l (λy hy=>hf y (by simp[hy])) r]
theorem acp{α:Type}(f:RS->α×RS)(g:α->ax)(l:List α)(hf:∀x∈l,∀r,f (g x++r,false)=(x,(r,false))) m(hm:l.length<=m)(hm2:m<4294967296) r:cD f m (eg l.length 4++(l.flatMap g++r),false)=(l,(r,false)):=by
 unfold cD;rw[ah1 hm hm2];simp only;rw[aco f g l hf r];rfl
theorem ZP{x}(h0:0<=x)(h1:x<256)(r:ax):zR (OY x::r,false)=(x,(r,false)):=by
 unfold zR;have:=aem (l:=[OY x]) (r:=r) (n:=1) rfl;rw[List.singleton_append]at this;rw[this];have h2:=OZ x;have h3:IntKind.u8.wrap x=x:=eZ ⟨by simpa[IntKind.min,IntKind.signed]using h0,by simp[IntKind.max,IntKind.signed,IntKind.bits];omega⟩;rw[h3]at h2;have h4:xE [OY x]=(OY x).toNat:=by simp[xE]
 rw[h4];congr 1;omega
theorem ZQ{c}(hc:∀x∈c,0<=x/\x<256)(h7:c.length<=7) r:ug (Dv c++r,false)=(c,(r,false)):=by
 unfold ug Dv
 have e:c.map OY=c.flatMap λx=>[OY x]:=by
  clear hc h7
  induction c with
  |nil=>rfl
  |cons x c ih=>rw[List.map_cons,List.flatMap_cons,ih];rfl
 rw[List.append_assoc,e];exact acp zR (λx=>[OY x]) c (λx hx r=>ZP (hc x hx).1 (hc x hx).2 r) 7 h7 (by omega) r
theorem aen{l:List Int}(hd:l.Nodup)(h:∀x∈l,0<=x/\x<7):l.length<=7:=by
 have h3:(l.map Int.toNat).Nodup:=by
  induction l with
  |nil=>exact List.nodup_nil
  |cons x M ih=>
   rw[List.nodup_cons]at hd;rw[List.map_cons,List.nodup_cons];refine⟨λhm=>?_,ih hd.2 (λy hy=>h y (List.mem_cons_of_mem _ hy))⟩;obtain⟨y,hy,e⟩:=List.mem_map.1 hm;have:=h x (List.mem_cons_self ..);have:=h y (List.mem_cons_of_mem _ hy);have:y=x:=by omega
   exact hd.1 (this▸hy)
 have key:∀(n:Nat) (l:List Nat),l.Nodup->(∀a∈l,a<n)->l.length<=n:=by
  intro n
  induction n with
  |zero=>
    intro l _ h
    match l,h with
    |[],_=>simp
    |a::l,h=>exact absurd (h a (by simp)) (by omega)
  |succ n ih=>
    intro l hd h;have h1:(l.erase n).Nodup:=hd.erase n
    have h2:=ih (l.erase n) h1 λa ha=>by
     have h3:=h a (List.mem_of_mem_erase ha);have h4:a≠n:=λe=>by subst e;exact(List.Nodup.mem_erase_iff hd).1 ha |>.1 rfl
     omega
    have:=List.length_erase (a:=n) (l:=l);split at this<;>omega
 have:=key 7 _ h3 λa ha=>by
  obtain⟨y,hy,rfl⟩:=List.mem_map.1 ha;have:=h y hy;omega
 rwa [List.length_map]at this
structure F7(p:rx):Prop where
 ep0:0<=p.ep
 ep1:p.ep<=2147483647
 ah2:1<=p.ch.length
 L8:p.ch.length<=7
 ne:∀c∈p.ch,c≠[]
 rg:∀u∈p.ch.flatten,0<=u/\u<7
 nd:p.ch.flatten.Nodup
theorem nH{p}(h:dw p=true):F7 p:=by
 obtain⟨a,b,c,d,e,f,g⟩:=of_decide_eq_true h;exact⟨a,b,c,d,e,f,g⟩
theorem F7.chain{p}(h:F7 p){c}(hc:c∈p.ch):c.Nodup/\(∀u∈c,0<=u/\u<7)/\c.length<=7:=by
 have h1:∀u∈c,0<=u/\u<7:=λu hu=>h.rg u (List.mem_flatten.2 ⟨c,hc,hu⟩)
 have h2:c.Nodup:=by
  exact h.nd.sublist (List.sublist_flatten_of_mem hc)
 exact⟨h2,h1,aen h2 h1⟩
theorem ZR{p}(h:F7 p):(YI p).length<=200:=by
 have:=BJ p.ch 7 λc hc=>(h.chain hc).2.2;have h2:p.ch.length*(4+7)<=7*11:=Nat.mul_le_mul h.L8 (by omega);unfold YI;rw[kh];unfold Vy;simp only[List.length_append,bF];omega
theorem VF{p}(hr:dw p=true):dZ (YI p)=(p,0):=by
 have h:=nH hr;have h0:=h.ep0;have h1:=h.ep1;unfold dZ YI;rw[sg]
 have e1:bg (Vy p,false) 4=(p.ep.toNat,(eg p.ch.length 4++p.ch.flatMap Dv,false)):=by
  unfold Vy;rw[aem (bF _ _),oG 4 _ (by omega)]
 have e2:cD ug 7 (eg p.ch.length 4++p.ch.flatMap Dv,false)=(p.ch,([],false)):=by
  have:=acp ug Dv p.ch (λc hc r=>ZQ (λx hx=>by have:=(h.chain hc).2.1 x hx;omega) (h.chain hc).2.2 r) 7 h.L8 (by omega) []
  rwa [List.append_nil]at this
 have e3:yb (Vy p)=(p,([],false)):=by
  unfold yb;rw[e1];simp only;rw[e2];simp only;have:((p.ep.toNat:Nat):Int)=p.ep:=by omega
  rw[this]
 simp only[e3];rw[aq];simp[hr]
end
namespace RX
def nI:=(({aF:=[148,151,153,256,216,98,257,280,281,243]}:jo).aF)
abbrev zl:Hp:=[((.b 0),(.cells [1,2,3,(.s 4),8,(.map 9),11] 286)),(4,7),(.b 9,10)]
abbrev acq:List A:=[1,2,3,(.s 4),8,(.map 9),11]
abbrev ah3:Hp:=[((.b 0),(.cells acq 286)),(4,7),(.b 9,10),(15,18)]
abbrev ah4:List A:=[13,(.bool 14),15,16,(.s 17)]
abbrev BK:List W:=[(.ptr 0 0)]
abbrev VG:List W:=[(.ptr 0 0),12]
end RX
section
open RX
theorem Ek x:az prog 243 #[an x] tt (λv=>HP.pure (v=.bool false)):=by
 refine ao (ρ:=[.i x]) {aF:=nI} [0] [] 1 ?_;exact .of λR h H=>by simp[HP.pure]
def VH(x y:Int):Int:=if x<y then -1 else if y<x then 1 else 0
theorem zm x y:az prog 280 #[an x,an y] tt (λv=>HP.pure (v=an (VH x y))):=by
 refine ao (ρ:=[.i x,.i y]) {aF:=nI} [0,1] [] 2 ?_;refine(Ek x).aK (λ_ _ _=>trivial) ?_;rintro v R h rfl;refine⟨_,rfl,?_,trivial⟩;refine(Ek y).aK (λ_ _ _=>trivial) ?_;rintro v R h rfl;refine⟨_,rfl,⟨λe=>absurd e (by decide),λ_=>⟨λe=>absurd e (by decide),λ_=>⟨λh1=>.of λR h H=>?_,λh1=>⟨λh2=>.of λR h H=>?_,λh2=>.of λR h H=>?_⟩⟩⟩⟩,trivial⟩
 ·show _=_;rw[VH,aB h1]
 ·show _=_;rw[VH,aq h1,aB h2]
 ·show _=_;rw[VH,aq h1,aq h2]
theorem aeo b x y:az prog 281 #[.slice (some ⟨b,0,none⟩) 2 2] (HP.one b (.cells #[an x,an y] 3 (0,0)))
 (λv=>aA (v=an (if x=0 then y else x)) (HP.one b (.cells #[an x,an y] 3 (0,0)))):=by
 refine ao (ρ:=[.a (some ⟨b,0,none⟩),.n 2,.n 2,.p (HP.one b (.cells #[an x,an y] 3 (0,0)))]) {aF:=nI} [(.s 0)] [(0,3)] 4 ?_
 have ld:∀(k:Nat) (u:Int),[an x,an y][k]? =some (an u)->aM prog (bO 3 (.pointer ((some ⟨b,0,none⟩:aG).map λq=>(q.add (k*1)).add 0))) (HP.one b (.cells #[an x,an y] 3 (0,0))) (an u):=λk u hk=>by
  obtain⟨d,hd⟩:∃d,prog.underlying 3=some d:=Option.isSome_iff_exists.1 (by kernel_rfl);exact cU hd (by kernel_rfl) (by kernel_rfl) (eQ b #[an x,an y] 3) (k:=k*1) (off:=0) (by rw[Nat.mul_one,Nat.add_zero];exact hk)
 refine⟨λ_ i=>i=0\/(i=1/\x=0)\/(i=2/\x=0/\y=0),λ_ i=>2 - i.toNat,.inl rfl,?_⟩;rintro _ _ (rfl|⟨rfl,hx⟩|⟨rfl,hx,hy⟩)
 ·refine⟨λ_=>⟨by omega,λ_=>⟨rfl,λ_=>⟨_,ld 0 x rfl,λh0=>.of λR h H=>⟨by rw[aq h0],H⟩,λh0=>⟨bh _ (by omega) (by omega),λ_=>⟨.inr (.inl ⟨rfl,by simpa using h0⟩),by show 2 - ((0:Int)+1).toNat<2 - (0:Int).toNat;decide⟩⟩⟩⟩⟩,λh=>absurd (by decide) h⟩
 ·refine⟨λ_=>⟨by omega,λ_=>⟨rfl,λ_=>⟨_,ld 1 y rfl,λh0=>.of λR h H=>⟨by rw[aB hx],H⟩,λh0=>⟨bh _ (by omega) (by omega),λ_=>⟨.inr (.inr ⟨rfl,hx,by simpa using h0⟩),by show 2 - ((1:Int)+1).toNat<2 - (1:Int).toNat;decide⟩⟩⟩⟩⟩,λh=>absurd (by decide) h⟩
 ·exact⟨λh=>absurd h (by decide),λ_=>.of λR h H=>⟨by rw[aB hx,hy],H⟩⟩
structure uh where
 bU:Int
 ok:Bool
 r:Int
 w:Int
 val:ax
def uV(a b:uh):Bool:=if a.r=b.r/\a.w=b.w then decide (a.bU<b.bU)else decide (b.r<a.r\/(a.r=b.r/\b.w<a.w))
abbrev uh.aJ(x:uh)(a:aG)(c:Nat):dI:= #[an x.bU,.bool x.ok,an x.r,an x.w,.slice a x.val.length c]
theorem Ri P Q x y a b c d:az prog 257 #[.agg (x.aJ a c),.agg (y.aJ b d)] (aj P Q) (λv=>aA (v=.bool (uV x y)) (aj P Q)):=by
 refine ao (ρ:=[.i x.bU,.c x.ok,.i x.r,.i x.w,.a a,.n x.val.length,.n c,.p P,.i y.bU,.c y.ok,.i y.r,.i y.w,.a b,.n y.val.length,.n d,.p Q]) {aF:=nI} [(.agg [0,(.bool 1),2,3,(.s 4)]),(.agg [8,(.bool 9),10,11,(.s 12)])] [(4,7),(12,15)] 16 ?_;intro _ _;refine⟨_,ad4 (by decide),λh=>.of λR h' H=>⟨?_,H⟩,λh=>?_⟩
 ·unfold uV;rw[aB (by simpa using h)]
 ·have hne:¬(x.r=y.r/\x.w=y.w):=by simpa using h
  refine(zm x.r y.r).aK (λ_ _ _=>trivial) ?_;rintro v R h rfl;refine⟨_,rfl,?_,trivial⟩;refine(zm x.w y.w).aK (λ_ _ _=>trivial) ?_;rintro v R h rfl;refine⟨_,rfl,λb'=>?_,trivial⟩;refine(aeo b' _ _).wk ?_;rintro v R h ⟨rfl,H⟩;refine⟨_,rfl,.of λR h H=>⟨?_,H⟩,H⟩;unfold uV;rw[aq hne];congr 1;rw[decide_eq_decide];unfold VH
  by_cases h1:x.r<y.r
  ·rw[aB h1,aq (by decide)];omega
  ·by_cases h2:y.r<x.r
   ·rw[aq h1,aB h2,aq (by decide)];omega
   ·rw[aq h1,aq h2,aB rfl]
    by_cases h3:x.w<y.w
    ·rw[aB h3];omega
    ·by_cases h4:y.w<x.w
     ·rw[aq h3,aB h4];omega
     ·rw[aq h3,aq h4];omega
structure BA where
 ok:Bool
 r:Int
 w:Int
 val:ax
structure lq where
 acc:Int
 lf:Int
 cS:Int
 val:ax
 phase:Int
 bH:List (Int×BA)
 dk:Int
abbrev BA.at_(x:BA)(i:Int):uh:=⟨i,x.ok,x.r,x.w,x.val⟩
def rc(v:Value)(x:uh):HP:=aE λa=>aE λc=>aA (v=.agg (x.aJ a c)/\x.val.length<=140737488355328) (bE a x.val.length x.val)
theorem rc.iF:Iw rc:=λ_ _ _ _ _ ⟨a,c,e,H⟩=>⟨a,c,e,ai (bN.join (B:=tt) H trivial)⟩
def dW:List (Int×BA)->Int->Int->Option uh
 |[],_,_=>none
 |x::L,i,k=>if k=x.1 then some (x.2.at_ i)else dW L (i+1) k
theorem nk{k:Int}:∀ {L:List (Int×BA)} {i:Int},dW L i k=none↔k∉L.map (·.1)
 |[],_=>by simp[dW]
 |x::L,i=>by
  simp only[dW,List.map_cons,List.mem_cons,not_or]
  by_cases h:k=x.1
  ·simp[h]
  ·rw[aq h,nk];simp[h]
theorem I4 x f:∀(L:List (Int×BA)) (i:Int),f∉L.map (·.1)->∀k,dW (L++[(f,x)]) i k=if k=f then some (x.at_ (i+L.length))else dW L i k
 |[],i,_,k=>by simp[dW]
 |y::L,i,h,k=>by
  simp only[List.map_cons,List.mem_cons,not_or]at h;simp only[List.cons_append,dW];rw[I4 x f L (i+1) h.2 k]
  by_cases e:k=y.1
  ·rw[aB e,aq (λe2=>h.1 (e2.symm.trans e)),aB e]
  ·rw[aq e,aq e];have:i+1+(L.length:Int)=i+((y::L).length:Nat):=by simp;omega
   rw[this]
def jB(mp:Nat)(L:List (Int×BA)):HP:=aE λl=>aE λc=>aA (l.map (·.1)=L.map (·.1)) (aH rc iE mp (dW L 0) l c)
theorem aep:(prog.info? 288).map (λi=>(i.zero,i.size,i.bytes))=some (some (.agg #[an 0,.bool false,an 0,an 0,.slice none 0 0]),5,56):=by kernel_rfl
theorem F8:prog.underlying 284=some (.map 3 288):=by kernel_rfl
theorem O0{i r c:Nat}{ty}{l}{A}(hA:∀R h,A.p R h->h r=some (aX iE l c)):
 aM prog (bZ (.call ⟨.builtin .len,#[.tmp i],#[284]⟩) ty [(i,.map (some r))]) A (an l.length):=λw R h F s a=>by
 have hg:w.heap[r]? =some (.map (l.map (vR iE)).toArray c):=s.oh _ _ (hA R h a)
 have e:(Builtin.len_ #[284] ty #[.map (some r)]).run prog w=.ok (an l.length) w:=by
  simp only[Builtin.len_,List.getElem?_toArray,List.getElem?_cons_zero,Sem.run_bind,RX.run_underlying F8,Result.andThen_ok,run_getObj_map hg,Sem.run_pure,goInt,List.size_toArray,List.length_map]
 have e2:bZ (.call ⟨.builtin .len,#[.tmp i],#[284]⟩) ty [(i,.map (some r))]=(do pure (.value (<-Builtin.len_ #[284] ty #[.map (some r)]))):=by simp[bZ,execOp,resolve,lW,invoke,builtin]
 rw[e2,Sem.run_bind,e];rfl
abbrev jV(b:Nat)(g:lq)(va:aG)(vc mp:Nat):HP:=HP.one b (.cells #[an g.acc,an g.lf,an g.cS,.slice va g.val.length vc,an g.phase,.map (some mp),an g.dk] 286 (0,0))
def BOk(g:lq):Prop:=1<=g.acc/\g.acc<=10000/\0<=g.dk/\g.dk<=g.bH.length/\g.val.length<=140737488355328
def eY(b:Nat)(g:lq):HP:=aE λva=>aE λvc=>aE λmp=>aA (BOk g) (aj (jV b g va vc mp) (aj (bE va g.val.length g.val) (jB mp g.bH)))
section
variable (b:Nat)(g:lq)(va:aG)(vc mp:Nat)(P Q:HP)
theorem Rj:az prog 148 #[pt b] (aj (jV b g va vc mp) (aj P Q)) (λv=>aA (v=an g.phase) (aj (jV b g va vc mp) (aj P Q))):=by
 refine ao (ρ:=[.n b,.i g.acc,.i g.lf,.i g.cS,.a va,.n g.val.length,.n vc,.p P,.i g.phase,.n mp,.p Q,.i g.dk]) {aF:=nI} BK zl 12 ?_;exact .of λR h H=>⟨trivial,H⟩
theorem L9:az prog 151 #[pt b] (aj (jV b g va vc mp) (aj P Q)) (λv=>aA (v=.agg #[an g.lf,an g.cS]) (aj (jV b g va vc mp) (aj P Q))):=by
 refine ao (ρ:=[.n b,.i g.acc,.i g.lf,.i g.cS,.a va,.n g.val.length,.n vc,.p P,.i g.phase,.n mp,.p Q,.i g.dk]) {aF:=nI} BK zl 12 ?_;exact λ_=>.of λR h H=>⟨trivial,H⟩
def wD(acc n:Int):Bool:=decide (acc.tdiv 2<n)
theorem I5 n(hr:0<=g.acc/\g.acc<=1000000):az prog 256 #[pt b,an n] (aj (jV b g va vc mp) (aj P Q)) (λv=>aA (v=.bool (wD g.acc n)) (aj (jV b g va vc mp) (aj P Q))):=by
 refine ao (ρ:=[.n b,.i g.acc,.i g.lf,.i g.cS,.a va,.n g.val.length,.n vc,.p P,.i g.phase,.n mp,.p Q,.i g.dk,.i n]) {aF:=nI} VG zl 13 ?_;have hq:g.acc.tdiv 2=g.acc / 2:=Int.tdiv_eq_ediv_of_nonneg hr.1;refine⟨bh _ (by rw[hq];omega) (by rw[hq];omega),λ_=>.of λR h H=>⟨rfl,H⟩⟩
theorem Rk(hb:g.val.length<=140737488355328):az prog 153 #[pt b] (aj (jV b g va vc mp) (aj (bE va g.val.length g.val) Q))
 (λv=>aE λa=>aE λc=>aA (v=.slice a g.val.length c) (aj (bE a g.val.length g.val) (aj (jV b g va vc mp) (aj (bE va g.val.length g.val) Q)))):=by
 refine ao (ρ:=[.n b,.i g.acc,.i g.lf,.i g.cS,.a va,.n g.val.length,.n vc,.p (bE va g.val.length g.val),.i g.phase,.n mp,.p Q,.i g.dk]) {aF:=nI} BK zl 12 ?_;refine(gi (bE va g.val.length g.val) va g.val.length vc g.val (bX.ro _ _ _ _) rfl hb).wk ?_;rintro v R h ⟨a,c,rfl,H⟩;refine⟨a,_,c,bE a g.val.length g.val,rfl,.of λR h H=>⟨a,c,rfl,?_⟩,H⟩;exact HP.pick [_,_,_,_] [3,0,1,2] (by decide) rfl H
def hasB(L:List (Int×BA))(f:Int):Bool:=decide (f∈L.map (·.1))
def jh(g:lq)(f:Int):Bool:=decide ((g.phase=1\/g.phase=2)/\0<=f/\f<g.acc)&& !hasB g.bH f
theorem aH.shape{mp c}{L}{l}{R h}(H:(aH rc iE mp (dW L 0) l c).p R h):∀k v,aY k l=some v->∃(x:uh) (a:aG) (d:Nat),v=.agg (x.aJ a d):=λk v hk=>by
 have:=ah H.2 k;rw[hk]at this;revert this;cases dW L 0 k with
 |none=>exact λh=>h.elim
 |some x=>exact λ⟨a,d,e,_⟩=>⟨x,a,d,e.1⟩
theorem aH.VI{mp c}{L}{l}{R h}(H:(aH rc iE mp (dW L 0) l c).p R h) k:(aY k l).isSome=hasB L k:=by
 have:=ah H.2 k;unfold hasB;cases hf:dW L 0 k with
 |none=>
  rw[hf]at this;rw[decide_eq_false (nk.1 hf)];revert this;cases aY k l with
  |none=>exact λ_=>rfl
  |some v=>exact λh=>h.elim
 |some x=>
  rw[hf]at this;have hm:k∈L.map (·.1):=Classical.byContradiction λhn=>by rw[nk.2 hn]at hf;cases hf
  rw[decide_eq_true hm];revert this;cases aY k l with
  |none=>exact λh=>h.elim
  |some v=>exact λ_=>rfl
theorem Rl f l cl:az prog 216 #[pt b,an f] (aj (jV b g va vc mp) (aj P (aH rc iE mp (dW g.bH 0) l cl)))
 (λv=>aA (v=.bool (jh g f)) (aj (jV b g va vc mp) (aj P (aH rc iE mp (dW g.bH 0) l cl)))):=by
 refine az.cM (φ:=(∀k v,aY k l=some v->∃(x:uh) (a:aG) (d:Nat),v=.agg (x.aJ a d))/\(aY f l).isSome=hasB g.bH f) (λR h H=>⟨aH.shape (ah (ah H)),aH.VI (ah (ah H)) f⟩) λ⟨hsh,hs⟩=>?_;refine ao (ρ:=[.n b,.i g.acc,.i g.lf,.i g.cS,.a va,.n g.val.length,.n vc,.p P,.i g.phase,.n mp,.p (aH rc iE mp (dW g.bH 0) l cl),.i g.dk,.i f]) {aF:=nI} VG zl 13 ?_;obtain⟨i,hi,z1,z2,z3⟩:=info_parts aep;have iV:=iO (r:=mp) (l:=l) (c:=cl) iK F8 hi z1 f true (A:=aH rc iE mp (dW g.bH 0) l cl) λR h H=>aH.at H
 have iP:∃(x:uh) (a:aG) (d:Nat),aM prog (mM 284 (.map (some mp)) (an f) true) (aH rc iE mp (dW g.bH 0) l cl) (.tuple #[.agg (x.aJ a d),.bool (hasB g.bH f)]):=by
  rw[hs]at iV;cases hf:aY f l with
  |none=>rw[hf]at iV;exact⟨⟨0,false,0,0,[]⟩,none,0,iV⟩
  |some v=>obtain⟨x,a,d,rfl⟩:=hsh f v hf;rw[hf]at iV;exact⟨x,a,d,iV⟩
 obtain⟨x,a,d,hl⟩:=iP;unfold jh;have no:¬((g.phase=1\/g.phase=2)/\0<=f/\f<g.acc)->HP.aT (aj (jV b g va vc mp) (aj P (aH rc iE mp (dW g.bH 0) l cl))) (aA (Value.bool false=Value.bool (decide ((g.phase=1\/g.phase=2)/\0<=f/\f<g.acc)&& !hasB g.bH f)) (aj (jV b g va vc mp) (aj P (aH rc iE mp (dW g.bH 0) l cl)))):=λhn=>.of λR h H=>⟨by rw[decide_eq_false hn];rfl,H⟩;have Dp:((g.phase=1\/g.phase=2)/\0<=f/\f<g.acc)->HP.aT (aj (jV b g va vc mp) (aj P (aH rc iE mp (dW g.bH 0) l cl))) (aA (Value.bool (!hasB g.bH f)=Value.bool (decide ((g.phase=1\/g.phase=2)/\0<=f/\f<g.acc)&& !hasB g.bH f)) (aj (jV b g va vc mp) (aj P (aH rc iE mp (dW g.bH 0) l cl)))):=λhn=>.of λR h H=>⟨by rw[decide_eq_true hn];simp,H⟩;have ah5:((g.phase=1\/g.phase=2)/\0<=f/\f<g.acc)->HP.aT (aj (jV b g va vc mp) (aj P (aH rc iE mp (dW g.bH 0) l cl))) (aA (Value.bool (decide (¬hasB g.bH f=true))=Value.bool (decide ((g.phase=1\/g.phase=2)/\0<=f/\f<g.acc)&& !hasB g.bH f)) (aj (jV b g va vc mp) (aj P (aH rc iE mp (dW g.bH 0) l cl)))):=λhn=>.of λR h H=>⟨by rw[decide_eq_true hn];simp,H⟩;refine⟨λh1=>⟨λh2=>no (by omega),λh2=>⟨λh3=>no (by omega),λh3=>⟨λh4=>no (by omega),λh4=>⟨_,_,_,_,_,_,_,_,hl,λ_=>?_⟩⟩⟩⟩,λh1=>⟨λh3=>no (by omega),λh3=>⟨λh4=>no (by omega),λh4=>⟨_,_,_,_,_,_,_,_,hl,λ_=>?_⟩⟩⟩⟩
 ·first|exact Dp (by omega)|exact ah5 (by omega)
 ·first|exact Dp (by omega)|exact ah5 (by omega)
theorem jB.put{l}{cl}{L}(hk:l.map (·.1)=L.map (·.1)){f}(hf:f∉L.map (·.1)) x a d(hx:x.val.length<=140737488355328):
 aR prog (kK 284 (.map (some mp)) (an f) (.agg ((x.at_ L.length).aJ a d))) (aj (aH rc iE mp (dW L 0) l cl) (bE a x.val.length x.val)) (λz=>aA (z=cE) (aj (jB mp (L++[(f,x)])) (bE a x.val.length x.val))):=by
 refine aR.cM (φ:=fC l cl/\aY f l=none) (λR h H=>⟨(ai H).1,aH.no (ai H) (nk.2 hf)⟩) λ⟨hI,hn⟩=>?_;refine((o6 (r:=mp) (l:=l) (c:=cl) iK F8 f (.agg ((x.at_ L.length).aJ a d))).frame (aj (o7 rc l (dW L 0)) (bE a x.val.length x.val))).aK (λR h ⟨h1,h2,d,l1,l2,⟨_,H⟩,hA⟩=>au ⟨h1,h2,d,l1,l2,H,hA⟩) ?_;rintro z R h ⟨h1,h2,dd,l1,l2,⟨rfl,A5⟩,iY⟩;have hro:=ah iY;have hv:∀q,(rc (.agg ((x.at_ L.length).aJ a d)) (x.at_ L.length)).p R q:=λq=>rc.iF _ _ _ _ _ ⟨a,d,⟨rfl,hx⟩,hro⟩
 have hF:g7 (dW L 0) f (some (x.at_ L.length))=dW (L++[(f,x)]) 0:=by
  funext k;rw[I4 x f L 0 hf k,g7,Int.zero_add]
 refine⟨rfl,ae (aC ⟨h1,h2,dd,l1,l2,A5,iY⟩) (λy hy=>⟨_,_,?_,hI.put f _,ae hy (λ_ h=>h) λq hq=>?_⟩) λ_ h=>h⟩
 ·rw[uO _ _ _ _ hn,List.map_append,List.map_append,hk];rfl
 ·rw[<-hF];exact o7.put hq f _ cl _ (hv q)
theorem ZS{i mp:Nat}{ty}{L}:aM prog (bZ (.call ⟨.builtin .len,#[.tmp i],#[284]⟩) ty [(i,.map (some mp))]) (jB mp L) (an L.length):=λw R h F s ⟨l,c,hk,H⟩=>by
 have e:l.length=L.length:=by simpa using congrArg List.length hk
 rw[<-e];exact O0 (A:=aH rc iE mp (dW L 0) l c) (λR h H=>aH.at H) w R h F s H
def dJ(g:lq)(f:Int)(x:BA):lq×Bool:=
 if x.ok=true then({g with bH:=g.bH++[(f,x)],dk:=g.dk+1},wD g.acc (g.dk+1))
 else if wD g.acc (g.acc - (g.bH.length+1 - g.dk))=true then({g with bH:=g.bH++[(f,x)]},false)
 else({g with bH:=g.bH++[(f,x)],phase:=4},false)
theorem BL f x(t0:Int)(a:aG)(d:Nat)(hx:x.val.length<=140737488355328)(hf:hasB g.bH f=false)(hlen:g.bH.length<=100000)(hB:BOk g):
 az prog 217 #[pt b,an f,.agg ((x.at_ t0).aJ a d)] (aj (jV b g va vc mp) (aj P (aj (jB mp g.bH) (bE a x.val.length x.val))))
  (λv=>aA (v=.bool (dJ g f x).2) (aj (jV b (dJ g f x).1 va vc mp) (aj P (aj (jB mp (dJ g f x).1.bH) (bE a x.val.length x.val))))):=by
 obtain⟨b1,b2,b3,b4,b5⟩:=hB;have hfm:f∉g.bH.map (·.1):=by unfold hasB at hf;simpa using hf
 refine(az.ex (A:=λl=>aE λcl=>aA (l.map (·.1)=g.bH.map (·.1)) (aj (jV b g va vc mp) (aj P (aj (aH rc iE mp (dW g.bH 0) l cl) (bE a x.val.length x.val))))) λl=>az.ex λcl=>az.pure λhk=>?_).aK (λR h H=>?_) λ_ _ _ h=>h
 ·refine ao (ρ:=[.n b,.i g.acc,.i g.lf,.i g.cS,.a va,.n g.val.length,.n vc,.p P,.i g.phase,.n mp,.p (aH rc iE mp (dW g.bH 0) l cl),.i g.dk,.i f,.i t0,.c x.ok,.i x.r,.i x.w,.a a,.n x.val.length,.n d,.p (bE a x.val.length x.val)]) {aF:=nI} [(.ptr 0 0),12,(.agg ah4)] [((.b 0),(.cells acq 286)),(4,7),(.b 9,10),(17,20)] 21 ?_;intro _;have hln:l.length=g.bH.length:=by simpa using congrArg List.length hk
  refine⟨g.bH.length,by rw[<-hln];exact O0 λR h H=>aH.at H,?_⟩;refine(jB.put mp hk hfm x a d hx).wk ?_;rintro v R h ⟨rfl,H⟩;refine⟨jB mp (g.bH++[(f,x)]),rfl,⟨λh1=>⟨bh _ (by omega) (by omega),λ_=>?_⟩,λh1=>⟨_,ZS,?_⟩⟩,H⟩
  ·refine(I5 b {g with bH:=g.bH++[(f,x)],dk:=g.dk+1} va vc mp P (jB mp (g.bH++[(f,x)])) (g.dk+1) ⟨by show 0<=g.acc;omega,by show g.acc<=1000000;omega⟩).wk ?_;rintro v R h ⟨rfl,H⟩;refine⟨_,rfl,.of λR h H=>?_,H⟩;have e:dJ g f x=({g with bH:=g.bH++[(f,x)],dk:=g.dk+1},wD g.acc (g.dk+1)):=aB h1;rw[e];exact⟨rfl,H⟩
  ·have el:((g.bH++[(f,x)]).length:Int)=g.bH.length+1:=by simp
   rw[el];refine⟨bh _ (by omega) (by omega),λ_=>⟨bh _ (by omega) (by omega),λ_=>?_⟩⟩;refine(I5 b {g with bH:=g.bH++[(f,x)]} va vc mp P (jB mp (g.bH++[(f,x)])) _ ⟨by show 0<=g.acc;omega,by show g.acc<=1000000;omega⟩).wk ?_;rintro v R h ⟨rfl,H⟩;refine⟨_,rfl,⟨λh2=>.of λR h H=>?_,λh2=>.of λR h H=>?_⟩,H⟩
   ·have e:dJ g f x=({g with bH:=g.bH++[(f,x)],phase:=4},false):=by unfold dJ;rw[aq h1];exact aq h2
    rw[e];exact⟨rfl,H⟩
   ·have e:dJ g f x=({g with bH:=g.bH++[(f,x)]},false):=by unfold dJ;rw[aq h1];exact aB h2
    rw[e];exact⟨rfl,H⟩
 ·obtain⟨h1,h2,e1,l1,l2,HO,h3,h4,e2,l3,l4,HP',h5,h6,e3,l5,l6,⟨l,cl,hk,HM⟩,HR⟩:=H;exact⟨l,cl,hk,h1,h2,e1,l1,l2,HO,h3,h4,e2,l3,l4,HP',h5,h6,e3,l5,l6,HM,HR⟩
end
def oH(x:uh):Prop:=x.ok=true/\¬(x.r=0/\x.w=0)
def rf(x y:uh):Prop:=x.r<y.r\/(x.r=y.r/\x.w<y.w)
def zn(F:Int->Option uh)(l:AL Int)(S:Array Nat)(x:uh):Prop:=
 (x.r=0/\x.w=0/\∀z∈l,z.2.2∈S->∀y,F z.1=some y->¬oH y)\/
 (oH x/\(∃k,F k=some x)/\∀z∈l,z.2.2∈S->∀y,F z.1=some y->oH y->¬rf x y)
def si(F:Int->Option uh)(v0 v:ax):Prop:=
 ((∀k y,F k=some y->¬oH y)/\v=v0)\/∃k x,F k=some x/\oH x/\v=x.val/\∀k' y,F k'=some y->oH y->¬rf x y
theorem zn.skip{F}{l}{c}(hs:ja l c){S}{x y}{z}(hz:z∈l)(hy:F z.1=some y)(h:zn F l S x)(hn:oH y->oH x/\¬rf x y):zn F l (S.push z.2.2) x:=by
 rcases h with⟨r0,w0,hno⟩|⟨hc,hex,Ij⟩
 ·refine .inl ⟨r0,w0,λq hq KT y' I6 rF=>?_⟩;rcases jf hs hz hq KT with rfl|KT
  ·rw[hy]at I6;cases I6;exact(hn rF).1.2 ⟨r0,w0⟩
  ·exact hno q hq KT y' I6 rF
 ·refine .inr ⟨hc,hex,λq hq KT y' I6 rF=>?_⟩;rcases jf hs hz hq KT with rfl|KT
  ·rw[hy]at I6;cases I6;exact(hn rF).2
  ·exact Ij q hq KT y' I6 rF
theorem zn.take{F}{l}{c}(hs:ja l c){S}{x y}{z}(hz:z∈l)(hy:F z.1=some y)(h:zn F l S x)(hc:oH y)(hn:(x.r=0/\x.w=0)\/¬rf y x):zn F l (S.push z.2.2) y:=by
 refine .inr ⟨hc,⟨z.1,hy⟩,λq hq KT y' I6 rF=>?_⟩;rcases jf hs hz hq KT with rfl|KT
 ·rw[hy]at I6;cases I6;unfold rf;omega
 ·rcases h with⟨r0,w0,hno⟩|⟨hcx,_,Ij⟩
  ·exact absurd rF (hno q hq KT y' I6)
  ·have h1:=Ij q hq KT y' I6 rF;have h2:=hn.resolve_left hcx.2;unfold rf at*;omega
theorem Ma{y x}(h:uV y x=true):¬rf y x:=by
 unfold uV at h;unfold rf;split at h
 ·omega
 ·have:=of_decide_eq_true h;omega
theorem Rm{y x}(h:¬uV y x=true):¬rf x y:=by
 unfold uV at h;unfold rf;split at h
 ·omega
 ·have h2:¬(x.r<y.r\/(y.r=x.r/\x.w<y.w)):=λe=>h (decide_eq_true e);omega
set_option maxHeartbeats 2000000 in
theorem Mb b g(va:aG)(vc mp:Nat)(hB:BOk g):
 az prog 218 #[pt b] (aj (jV b g va vc mp) (aj (bE va g.val.length g.val) (jB mp g.bH)))
  (λv=>aE λval=>aE λMc=>aE λTt=>aA (v=cE/\si (dW g.bH 0) g.val val) (aj (jV b {g with val:=val} Mc Tt mp) (aj (bE Mc val.length val) (jB mp g.bH)))):=by
 refine(az.ex (A:=λl=>aE λcl=>aA (l.map (·.1)=g.bH.map (·.1)) (aj (jV b g va vc mp) (aj (bE va g.val.length g.val) (aH rc iE mp (dW g.bH 0) l cl)))) λl=>az.ex λcl=>az.pure λhk=>?_).aK (λR h H=>?_) λ_ _ _ h=>h
 ·refine az.cM (φ:=fC l cl) (λR h H=>(ah (ah H)).1) λhI=>?_;refine ao (ρ:=[.n b,.i g.acc,.i g.lf,.i g.cS,.a va,.n g.val.length,.n vc,.p (bE va g.val.length g.val),.i g.phase,.n mp,.p (aH rc iE mp (dW g.bH 0) l cl),.i g.dk]) {hv:=[(0,[(.b 13),(.b 9),(.b 12)])],aF:=nI,aT:=[(12,[3,288])],mkd:=[12]} BK zl 12 ?_;intro _;refine((rU (m:=mp) (l:=l) (c:=cl) (enc:=iE) F8).frame (o7 rc l (dW g.bH 0))).aK (λR h H=>H.2) ?_;rintro v R h ⟨h1,h2,d,l1,l2,⟨it,rfl,H⟩,HV⟩;have Hst:(aj (HP.one it (.mapIter (some mp) cl #[] cl)) (aH rc iE mp (dW g.bH 0) l cl)).p R h:=ae (au ⟨h1,h2,d,l1,l2,H,HV⟩) (λ_ h=>h) λy hy=>⟨hI,hy⟩;clear H HV d l1 l2
  let J:HP->HP->Int->Bool->Int->Int->aG->Nat->Nat->HP->Nat->Prop:=λPi Pm t ok r w ba bn _ Pb N=>∃(S:Array Nat) (x:uh),Pi=HP.one it (.mapIter (some mp) cl S cl)/\Pm=aH rc iE mp (dW g.bH 0) l cl/\t=x.bU/\ok=x.ok/\r=x.r/\w=x.w/\bn=x.val.length/\(∀R h,Pb.p R h->(bE ba x.val.length x.val).p R h)/\zn (dW g.bH 0) l S x/\kJ l S=N
  refine⟨it,_,_,rfl,⟨λPi Pm t ok r w ba bn bc Pb=>∃N,J Pi Pm t ok r w ba bn bc Pb N,λPi Pm t ok r w ba bn bc Pb=>cY (J Pi Pm t ok r w ba bn bc Pb),⟨_,#[],⟨0,false,0,0,[]⟩,rfl,rfl,rfl,rfl,rfl,rfl,rfl,λR h _=>rZ none,.inl ⟨rfl,rfl,λz _ hz=>absurd hz (by simp)⟩,rfl⟩,?_⟩,Hst⟩;intro Pi Pm t ok r w ba bn bc Pb hJ;have IF:=gr hJ;generalize IG:cY (J Pi Pm t ok r w ba bn bc Pb)=N at IF;obtain⟨S,x,rfl,rfl,rfl,rfl,rfl,rfl,rfl,hPb,zo,hN⟩:=IF;clear hJ;refine(Bj hI.2).wk ?_;rintro v R h ⟨e,he,H⟩;rcases e with _|z
  ·refine⟨false,cE,cE,_,he.1,⟨λh=>(by cases h),λ_=>?_⟩,H⟩;clear H
   have seen:∀k y,dW g.bH 0 k=some y->∃q∈l,q.1=k/\q.2.2∈S:=λk y hy=>by
    have hm:k∈g.bH.map (·.1):=Classical.byContradiction λhn=>by rw[nk.2 hn]at hy;cases hy
    rw[<-hk]at hm;obtain⟨q,hq,rfl⟩:=List.mem_map.1 hm;exact⟨q,hq,rfl,he.2 q hq⟩
   have ah7:(!(decide (x.r=0)&&decide (x.w=0)))=true↔¬(x.r=0/\x.w=0):=by
    by_cases e1:x.r=0<;>by_cases e2:x.w=0<;>simp[e1,e2]
   refine⟨_,ahD (by decide),λh1=>.of λR h H=>?_,λh1=>.of λR h H=>?_⟩
   ·rcases zo with⟨r0,w0,_⟩|⟨hc,⟨k0,Eh⟩,Ij⟩
    ·exact absurd ⟨r0,w0⟩ (ah7.1 h1)
    ·refine⟨x.val,ba,bc,⟨trivial,.inr ⟨k0,x,Eh,hc,rfl,λk' y hy hcy=>?_⟩⟩,ae H (λ_ h=>h) λz hz=>ae hz (λu hu=>hPb R u hu) λu hu=>⟨l,cl,hk,ai hu⟩⟩;obtain⟨q,hq,rfl,KT⟩:=seen k' y hy;exact Ij q hq KT y hy hcy
   ·rcases zo with⟨r0,w0,hno⟩|⟨hc,_,_⟩
    ·refine⟨g.val,va,vc,⟨trivial,.inl ⟨λk' y hy=>?_,rfl⟩⟩,ae H (λ_ h=>h) λz hz=>ae hz (λ_ h=>h) λu hu=>⟨l,cl,hk,hu⟩⟩;obtain⟨q,hq,rfl,KT⟩:=seen k' y hy;exact hno q hq KT y hy
    ·exact absurd (ah7.2 hc.2) h1
  ·obtain⟨rfl,hz,hzS⟩:=he;have pW:aY z.1 l=some z.2.1:=i9 z.1 z.2.1 z.2.2 l hI.1 hz
   obtain⟨y,hy,a,c,hv⟩:∃y,dW g.bH 0 z.1=some y/\∃a c,z.2.1=.agg (y.aJ a c):=by
    have Hm:=ah H;cases YG:dW g.bH 0 z.1 with
    |none=>rw[aH.no Hm YG]at pW;cases pW
    |some y=>
     obtain⟨v,hv,a,c,⟨e,_⟩,_⟩:=aH.Dp Hm rc.iF YG h;rw[pW]at hv;cases hv;exact⟨y,rfl,a,c,e⟩
   refine⟨true,iE z.1,z.2.1,_,rfl,⟨λ_=>?_,λh=>by simp at h⟩,H⟩;clear H;have kE:=nA (enc:=iE) (it:=it) (m:=mp) (c:=cl) (S:=S) (x:=z) hI.2 hz (A:=aj (HP.one it (.mapIter (some mp) cl (gR S (some z)) cl)) (aH rc iE mp (dW g.bH 0) l cl)) (λR h H=>ai H) (λR h H=>aH.at (ah H));rw[hv]at kE
   have iW:∀(x':uh) (ba':aG) (bc':Nat) (Pb':HP),(∀R h,Pb'.p R h->(bE ba' x'.val.length x'.val).p R h)->zn (dW g.bH 0) l (S.push z.2.2) x'->
    (∃N,J (HP.one it (.mapIter (some mp) cl (gR S (some z)) cl)) (aH rc iE mp (dW g.bH 0) l cl) x'.bU x'.ok x'.r x'.w ba' x'.val.length bc' Pb' N)/\cY (J (HP.one it (.mapIter (some mp) cl (gR S (some z)) cl)) (aH rc iE mp (dW g.bH 0) l cl) x'.bU x'.ok x'.r x'.w ba' x'.val.length bc' Pb')<cY (J (HP.one it (.mapIter (some mp) cl S cl)) (aH rc iE mp (dW g.bH 0) l cl) x.bU x.ok x.r x.w ba x.val.length bc Pb):=λx' ba' bc' Pb' h1 h2=>by
    have Bq:J (HP.one it (.mapIter (some mp) cl (gR S (some z)) cl)) (aH rc iE mp (dW g.bH 0) l cl) x'.bU x'.ok x'.r x'.w ba' x'.val.length bc' Pb' (kJ l (S.push z.2.2)):=⟨S.push z.2.2,x',rfl,rfl,rfl,rfl,rfl,rfl,rfl,h1,h2,rfl⟩;exact⟨⟨_,Bq⟩,Nat.lt_of_le_of_lt (gm Bq) (by rw[IG,<-hN];exact jU hz hzS)⟩
   refine aR.FE kE λR' h' H'=>⟨z.1,y.bU,y.ok,y.r,y.w,a,y.val.length,c,bE a y.val.length y.val,HP.one it (.mapIter (some mp) cl (gR S (some z)) cl),aH rc iE mp (dW g.bH 0) l cl,rfl,λnb=>?_,?_⟩
   ·refine⟨λh1=>iW x ba bc Pb hPb (zo.skip hI.2 hz hy λhc=>absurd hc.1 h1),λh1=>⟨_,ad4 (by decide),λh2=>?_,λh2=>⟨_,ad4 (by decide),λh3=>?_,λh3=>?_⟩⟩⟩
    ·exact iW x ba bc Pb hPb (zo.skip hI.2 hz hy λhc=>absurd (by simpa using h2) hc.2)
    ·exact iW y a c _ (λ_ _ h=>h) (zo.take hI.2 hz hy ⟨h1,by simpa using h2⟩ (.inl (by simpa using h3)))
    ·have hcx:oH x:=by
      rcases zo with⟨r0,w0,_⟩|⟨hc,_⟩
      ·exact absurd (by simp[r0,w0]) h3
      ·exact hc
     have hcy:oH y:=⟨h1,by simpa using h2⟩;refine(Ri (bE a y.val.length y.val) (aj (aH rc iE mp (dW g.bH 0) l cl) Pb) y x a ba c bc).wk ?_;rintro v R h ⟨rfl,H⟩;exact⟨_,rfl,⟨λh4=>iW y a c _ (λ_ _ h=>h) (zo.take hI.2 hz hy hcy (.inr (Ma h4))),λh4=>iW x ba bc Pb hPb (zo.skip hI.2 hz hy λ_=>⟨hcx,Rm h4⟩)⟩,H⟩
   ·obtain⟨v,C6,a',c',⟨e,_⟩,hro⟩:=aH.Dp (ah H') rc.iF hy h';rw[pW,hv]at C6;cases C6;simp only[Value.agg.injEq,Array.mk.injEq,List.cons.injEq,Value.slice.injEq,and_true,true_and]at e;obtain⟨rfl,rfl⟩:=e;exact bN.join hro H'
 ·obtain⟨h1,h2,e1,l1,l2,HO,h3,h4,e2,l3,l4,HP',⟨l,cl,hk,HM⟩⟩:=H;exact⟨l,cl,hk,h1,h2,e1,l1,l2,HO,h3,h4,e2,l3,l4,HP',HM⟩
end
end Go.Proofs.YtchjlaebbhpioaaGreatDoor
