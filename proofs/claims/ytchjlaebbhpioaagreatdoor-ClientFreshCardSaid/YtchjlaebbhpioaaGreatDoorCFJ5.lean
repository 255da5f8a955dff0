/- Texts of this claim, joined. No condition. -/
import Derived.Test.YtchjlaebbhpioaaGreatDoorCFJ1
import Derived.Test.YtchjlaebbhpioaaGreatDoorCFJ2
import Derived.Test.YtchjlaebbhpioaaGreatDoorCFJ3
import Derived.Test.YtchjlaebbhpioaaGreatDoorCFJ4
import Derived.KernelRfl
import Derived.ChangeKeysEq
import Derived.Laws.StructEq
import Derived.Sort.Walk0
set_option linter.unusedSimpArgs false
set_option linter.unusedVariables false
namespace Go.Proofs.YtchjlaebbhpioaaGreatDoor
open HP (aE aA aj tt aD ai au ae aC ak aW ah Az)
open _root_.Go.Proofs.Tryz (prog)
set_option maxRecDepth 100000
section
open RX
def jE(o:jl)(pl:Int)(x:fF):jl:={o with step:=0,place:=pl,cell:=x,state:=if(o.us.length:Int)<=pl then 2 else o.state}
theorem yC(b:Nat)(o:jl)(ua:aG)(uc:Nat)(da:aG)(dc:Nat)(Dc:HP)(pl w:Int)(a:aG)(n c:Nat)(l:ax)(S:HP)(hu:o.us.length<=1000000000)(hr:bX S a n (l.map eX))(hl:l.length=n)(hb:n<=140737488355328):
 az prog 160 #[pt b,an pl,.agg #[an w,.slice a n c]] (aj (fY b o ua uc da dc) (aj (OU o ua) (aj Dc S)))
 (λv=>aA (v=cE) (aE λkV=>aE λn9=>aj (fY b (jE o pl ⟨w,l⟩) ua uc kV n9) (aj (OU o ua) (aj (bE kV n l) (aj (OU o ua) (aj Dc S)))))):=by
 refine be (ρ:=[.n b,.i o.at',.i o.state,.i o.low,.a ua,.n o.us.length,.n uc,.p (OU o ua),.i o.step,.i o.place,.i o.cell.what,.a da,.n o.cell.data.length,.n dc,.p Dc,.i pl,.i w,.a a,.n n,.n c,.p S]) {aF:=fO,bU:=fP} [(.ptr 0 0),15,(.agg WL)] aas 21 ?_;intro x;refine(Am S w a n c l hr hl hb).wk ?_;rintro v R h ⟨a',c',rfl,H⟩;subst hl;refine⟨_,a',_,c',bE a' l.length l,rfl,⟨λlH=>.of λR y H=>⟨trivial,a',c',?_⟩,λhlt=>.of λR y H=>⟨trivial,a',c',?_⟩⟩,H⟩
 ·have e:jE o pl ⟨w,l⟩=⟨o.at',2,o.low,o.us,0,pl,⟨w,l⟩⟩:=by simp[jE,lH]
  rw[e];exact HP.pick [_,_,_,_,_,_] [1,2,3,0,4,5] (by decide) rfl (bN.join (ai (ah H)) H)
 ·have e:jE o pl ⟨w,l⟩=⟨o.at',o.state,o.low,o.us,0,pl,⟨w,l⟩⟩:=by simp[jE,hlt]
  rw[e];exact HP.pick [_,_,_,_,_,_] [1,2,3,0,4,5] (by decide) rfl (bN.join (ai (ah H)) H)
theorem MV(b:Nat)(o:jl)(ua:aG)(uc:Nat)(da:aG)(dc:Nat)(pl:Int)(hs:o.small):
 az prog 160 #[pt b,an pl,.agg #[an o.cell.what,.slice da o.cell.data.length dc]] (aj (fY b o ua uc da dc) (aj (OU o ua) (OD o da)))
 (λv=>aA (v=cE) (aE λkV=>aE λn9=>aj (fY b (jE o pl o.cell) ua uc kV n9) (aj (OU o ua) (aj (OD o kV) (aj (OU o ua) (OD o da)))))):=by
 refine(yC b o ua uc da dc tt pl o.cell.what da _ dc o.cell.data (OD o da) hs.1 (bX.ro _ _ _ _) rfl hs.2).aK (λR h H=>?_) λv R h ⟨e,kV,n9,H⟩=>⟨e,kV,n9,?_⟩
 ·exact ae H (λ_ h=>h) λy hy=>ae hy (λ_ h=>h) λz hz=>aW hz
 ·exact HP.pick [_,_,_,_,_,_] [0,1,2,3,5] (by decide) rfl H
theorem MW(b:Nat)(o:jl)(ua:aG)(uc:Nat)(da:aG)(dc:Nat)(pl w:Int)(hs:o.small):
 az prog 160 #[pt b,an pl,.agg #[an w,.slice none 0 0]] (aj (fY b o ua uc da dc) (aj (OU o ua) (OD o da)))
 (λv=>aA (v=cE) (aE λkV=>aE λn9=>aj (fY b (jE o pl ⟨w,[]⟩) ua uc kV n9) (aj (OU o ua) (aj (bE kV 0 []) (aj (OU o ua) (OD o da)))))):=by
 refine(yC b o ua uc da dc (OD o da) pl w none 0 0 [] (bE none 0 []) hs.1 (bX.ro _ _ _ _) rfl (by omega)).aK (λR h H=>?_) λv R h ⟨e,kV,n9,H⟩=>⟨e,kV,n9,?_⟩
 ·exact ae H (λ_ h=>h) λy hy=>ae hy (λ_ h=>h) λz hz=>j6 (rZ none:(bE none 0 []).p R z) hz
 ·exact HP.pick [_,_,_,_,_,_] [0,1,2,3,4] (by decide) rfl H
def gC(o:jl)(err:Int)(x:fF):jl:=
 if o.step=0/\(err=0\/(err=10/\x.what=o.cell.what/\x.data=o.cell.data))then jE o (o.place+1) o.cell
 else if o.step=1/\err=0 then{o with cell:=x,state:=2}
 else if o.step=1/\err=9 then{o with step:=if o.us.length=1 then 3 else 2,place:=0}
 else if o.step=2/\err=0 then jE o 1 x
 else if o.step=2/\err=9 then{o with step:=3}
 else if o.step=3/\err=0 then jE o 1 ⟨2,[]⟩
 else if o.step=3/\err=10 then jE o 1 x
 else{o with state:=3}
def ia(o:jl)(m:MS):jl:=
 if o.state≠1 then o else if m.kind≠sJ o then o
 else if m.err=0\/m.err=10\/m.err=9 then gC o m.err m.cell
 else if m.err=11 then{o with state:=4,low:=m.low}
 else if m.err=8 then{o with state:=5}
 else if m.err=4 then{o with state:=6}
 else{o with state:=3}
abbrev ajb(m:MS)(ca:aG)(cc:Nat)(va:aG)(vc:Nat):cd:=[.i m.fr,.i m.to,.i m.num,.c m.bV,.i m.kind,.i m.ep,.i m.at',.i m.cell.what,.a ca,.n m.cell.data.length,.n cc,.p (m.cW ca),.i m.br,.i m.bw,.a va,.n m.val.length,.n vc,.p (m.cI va),.i m.err,.i m.tail,.i m.low,.i m.back]
set_option maxHeartbeats 1000000 in
theorem WU(b:Nat)(o:jl)(ua:aG)(uc:Nat)(da:aG)(dc:Nat)(m:MS)(ca:aG)(cc:Nat)(va:aG)(vc:Nat)(hs:o.small)(hp:0<=o.place/\o.place<=1000000000)(hm:m.cell.data.length<=140737488355328):
 az prog 90 #[pt b,.agg (m.ee ca cc va vc).aJ] (aj (fY b o ua uc da dc) (aj (OU o ua) (aj (OD o da) (aj (m.cW ca) (m.cI va)))))
 (λv=>aA (v=cE) (aE λkV=>aE λn9=>aj (fY b (gC o m.err m.cell) ua uc kV n9) (aj (OU o ua) (aj (OD (gC o m.err m.cell) kV) (aj (OU o ua) (aj (OD o da) (aj (m.cW ca) (m.cI va)))))))):=by
 refine be (ρ:=rho b o ua uc da dc++ajb m ca cc va vc) {aF:=fO,bU:=fP} JW Po 37 ?_;intro x;obtain⟨Pd,hp2⟩:=hp;have hs1:=hs.1
 repeat' (first
  |(exfalso;omega)
  |refine⟨λ_=>?_,λ_=>?_⟩
  |refine⟨bh _ (by omega) (by omega),λ_=>?_⟩
  |(refine(Sg m.cell.what ca _ cc m.cell.data o.cell.what da _ dc o.cell.data (m.cW ca) (OD o da) (bX.ro _ _ _ _) (bX.ro _ _ _ _) rfl rfl).wk ?_
    rintro v R h ⟨rfl,H⟩;refine⟨_,rfl,?_,H⟩;clear H;simp only[decide_eq_true_eq])
  |fail)
 all_goals first
  |(have e:gC o m.err m.cell={o with state:=3}:=by simp[gC, *]
    exact .of λR y H=>⟨trivial,da,dc,by rw[e];exact HP.pick [_,_,_,_,_,_,_] [2,3,4,1,0,5,6] (by decide) rfl (bN.join (ai (ah (ah H))) (bN.join (ai (ah H)) H))⟩)
  |(have e:gC o m.err m.cell={o with step:=3,place:=0}:=by simp[gC, *]<;>omega
    exact .of λR y H=>⟨trivial,da,dc,by rw[e];exact HP.pick [_,_,_,_,_,_,_] [2,3,4,1,0,5,6] (by decide) rfl (bN.join (ai (ah (ah H))) (bN.join (ai (ah H)) H))⟩)
  |(have e:gC o m.err m.cell={o with step:=2,place:=0}:=by simp[gC, *]<;>omega
    exact .of λR y H=>⟨trivial,da,dc,by rw[e];exact HP.pick [_,_,_,_,_,_,_] [2,3,4,1,0,5,6] (by decide) rfl (bN.join (ai (ah (ah H))) (bN.join (ai (ah H)) H))⟩)
  |(have e:gC o m.err m.cell={o with step:=3}:=by simp[gC, *]
    exact .of λR y H=>⟨trivial,da,dc,by rw[e];exact HP.pick [_,_,_,_,_,_,_] [2,3,4,1,0,5,6] (by decide) rfl (bN.join (ai (ah (ah H))) (bN.join (ai (ah H)) H))⟩)
  |(have e:gC o m.err m.cell=jE o (o.place+1) o.cell:=by simp[gC, *]
    rw[e];refine(MV b o ua uc da dc (o.place+1) hs).wk ?_;rintro v R h ⟨rfl,kV,n9,H⟩;exact⟨_,_,_,ua,_,uc,OU o ua,_,_,_,kV,_,n9,OD o kV,rfl,.of λR y H=>⟨trivial,kV,n9,H⟩,H⟩)
  |(have e:gC o m.err m.cell=jE o 1 ⟨2,[]⟩:=by simp[gC, *]
    rw[e];refine(MW b o ua uc da dc 1 2 hs).wk ?_;rintro v R h ⟨rfl,kV,n9,H⟩;exact⟨_,_,_,ua,_,uc,OU o ua,_,_,_,kV,_,n9,bE kV 0 [],rfl,.of λR y H=>⟨trivial,kV,n9,H⟩,H⟩)
  |(have e:gC o m.err m.cell=jE o 1 m.cell:=by simp[gC, *]
    rw[e];refine(yC b o ua uc da dc (OD o da) 1 m.cell.what ca _ cc m.cell.data (m.cW ca) hs.1 (bX.ro _ _ _ _) rfl hm).wk ?_;rintro v R h ⟨rfl,kV,n9,H⟩;exact⟨_,_,_,ua,_,uc,OU o ua,_,_,_,kV,_,n9,bE kV _ m.cell.data,rfl,.of λR y H=>⟨trivial,kV,n9,H⟩,H⟩)
  |(have e:gC o m.err m.cell={o with cell:=m.cell,state:=2}:=by simp[gC, *]
    rw[e];refine(Am (m.cW ca) m.cell.what ca _ cc m.cell.data (bX.ro _ _ _ _) rfl hm).wk ?_;rintro v R h ⟨a',c',rfl,H⟩;refine⟨_,a',_,c',bE a' m.cell.data.length m.cell.data,rfl,.of λR y H=>⟨trivial,a',c',?_⟩,H⟩;exact HP.pick [_,_,_,_,_,_,_] [1,2,3,0,4,5,6] (by decide) rfl (bN.join (ai (ah H)) H))
set_option maxHeartbeats 1000000 in
theorem WV(b:Nat)(o:jl)(m:MS)(ca:aG)(cc:Nat)(va:aG)(vc:Nat)(hp:0<=o.place/\o.place<=1000000000)(hm:m.cell.data.length<=140737488355328):
 az prog 44 #[pt b,.agg (m.ee ca cc va vc).aJ] (aj (fZ b o) (aj (m.cW ca) (m.cI va)))
 (λv=>aA (v=cE) (aj (fZ b (ia o m)) (aj (m.cW ca) (m.cI va)))):=by
 refine anR λua uc da dc hs=>?_;refine be (ρ:=rho b o ua uc da dc++ajb m ca cc va vc) {aF:=fO,bU:=fP} JW Po 37 ?_;intro x
 have done:∀(o':jl) (kV:aG) (n9:Nat) (R h:PH),o'.small->o'.us=o.us->(aj (HP.one b (.cells (o'.aJ ua uc kV n9) 170)) (aj (OU o ua) (aj (OD o' kV) (aj (m.cW ca) (m.cI va))))).p R h->(aj (fZ b o') (aj (m.cW ca) (m.cI va))).p R h:=λo' kV n9 R h vz hu H=>by
  have H1:(aj (aj (HP.one b (.cells (o'.aJ ua uc kV n9) 170)) (aj (OU o ua) (OD o' kV))) (aj (m.cW ca) (m.cI va))).p R h:=aC (ae H (λ_ h=>h) λy hy=>aC hy);refine ae H1 (λy hy=>⟨ua,uc,kV,n9,vz,?_⟩) λ_ h=>h;rw[show OU o' ua=OU o ua by unfold OU;rw[hu]];exact hy
 have MX:(gC o m.err m.cell).small/\(gC o m.err m.cell).us=o.us:=by
  unfold gC jE jl.small
  repeat' split
  all_goals exact⟨⟨hs.1,by first|exact hs.2|exact hm|simp⟩,rfl⟩
 have lone:∀(o':jl) (R h:PH),ia o m=o'->o'.small->o'.us=o.us->o'.cell=o.cell->(aj (HP.one b (.cells (o'.aJ ua uc da dc) 170)) (aj (OU o ua) (aj (OD o da) (aj (m.cW ca) (m.cI va))))).p R h->(aA True (aj (fZ b (ia o m)) (aj (m.cW ca) (m.cI va)))).p R h:=λo' R h e vz hu hc H=>by
  refine⟨trivial,?_⟩;rw[e];exact done o' da dc R h vz hu (by unfold OD at H⊢;rw[hc];exact H)
 refine⟨λh1=>.of λR y H=>lone o R y (by simp[ia,h1]) hs rfl rfl H,λh1=>?_⟩;refine(zB b o ua uc da dc (OU o ua) (OD o da)).wk ?_;rintro v R h ⟨rfl,H⟩;refine⟨_,rfl,?_,H⟩;clear H;refine⟨λhk=>.of λR y H=>lone o R y (by simp[ia,h1,hk]) hs rfl rfl H,λhk=>?_⟩
 have goes:(m.err=0\/m.err=10\/m.err=9)->∀(B:Value->HP),
  (∀(kV:aG) (n9:Nat) R h,(aj (fY b (gC o m.err m.cell) ua uc kV n9) (aj (OU o ua) (aj (OD (gC o m.err m.cell) kV) (aj (OU o ua) (aj (OD o da) (aj (m.cW ca) (m.cI va))))))).p R h->(B (cE)).p R h)->
  az prog 90 #[pt b,.agg (m.ee ca cc va vc).aJ] (aj (fY b o ua uc da dc) (aj (OU o ua) (aj (OD o da) (aj (m.cW ca) (m.cI va))))) B:=λ_ B hB=>
  (WU b o ua uc da dc m ca cc va vc hs hp hm).wk λv R h ⟨e,kV,n9,H⟩=>by subst e;exact hB kV n9 R h H
 have iW:(m.err=0\/m.err=10\/m.err=9)->∀(kV:aG) (n9:Nat) (R y:PH),(aj (HP.one b (.cells ((gC o m.err m.cell).aJ ua uc kV n9) 170)) (aj (OU o ua) (aj (OD (gC o m.err m.cell) kV) (aj (OU o ua) (aj (OD o da) (aj (m.cW ca) (m.cI va))))))).p R y->(aA True (aj (fZ b (ia o m)) (aj (m.cW ca) (m.cI va)))).p R y:=λhe kV n9 R y H=>by
  refine⟨trivial,?_⟩;have e:ia o m=gC o m.err m.cell:=by simp only[ia];rw[aq (by simpa using h1),aq (by simpa using hk),aB he]
  rw[e];exact done _ kV n9 R y MX.1 MX.2 (HP.pick [_,_,_,_,_,_,_] [0,1,2,5,6] (by decide) rfl H)
 have hus:=MX.2;refine⟨λh0=>?_,λh0=>⟨λTr=>?_,λTr=>⟨λh9=>?_,λh9=>⟨λh11=>?_,λh11=>⟨λh8=>?_,λh8=>⟨λh4=>?_,λh4=>?_⟩⟩⟩⟩⟩⟩
 ·refine goes (.inl h0) _ λkV n9 R h H=>⟨_,_,_,ua,_,uc,OU o ua,_,_,_,kV,_,n9,OD _ kV,rfl,.of λR y H=>iW (.inl h0) kV n9 R y H,H⟩
 ·refine goes (.inr (.inl Tr)) _ λkV n9 R h H=>⟨_,_,_,ua,_,uc,OU o ua,_,_,_,kV,_,n9,OD _ kV,rfl,.of λR y H=>iW (.inr (.inl Tr)) kV n9 R y H,H⟩
 ·refine goes (.inr (.inr h9)) _ λkV n9 R h H=>⟨_,_,_,ua,_,uc,OU o ua,_,_,_,kV,_,n9,OD _ kV,rfl,.of λR y H=>iW (.inr (.inr h9)) kV n9 R y H,H⟩
 ·exact .of λR y H=>lone {o with state:=4,low:=m.low} R y (by simp[ia,h1,hk,h11]) hs rfl rfl H
 ·exact .of λR y H=>lone {o with state:=5} R y (by simp[ia,h1,hk,h8]) hs rfl rfl H
 ·exact .of λR y H=>lone {o with state:=6} R y (by simp[ia,h1,hk,h4]) hs rfl rfl H
 ·exact .of λR y H=>lone {o with state:=3} R y (by simp[ia,h1,hk,h0,Tr,h9,h11,h8,h4]) hs rfl rfl H
def ez(at':Int)(us:List Int):jl:=⟨at',if us.length=0 then 3 else 1,0,us,0,0,⟨0,[]⟩⟩
theorem J1(at':Int)(a:aG)(n c:Nat)(us:List Int)(S:HP)(hr:bX S a n (us.map cr))(hl:us.length=n)(hb:n<=1000000000):
 az prog 227 #[an at',.slice a n c] S
 (λv=>aE λb=>aE λua=>aE λuc=>aA (v=pt b) (aj S (aj (fY b (ez at' us) ua uc none 0) (vP ua n us)))):=by
 refine be (ρ:=[.i at',.a a,.n n,.n c,.p S]) {aF:=fO,bU:=fP} [0,(.s 1)] [(1,4)] 5 ?_;refine(R6 S a n c us hr hl hb).wk ?_;rintro v R h ⟨ua,uc,rfl,H⟩;subst hl;refine⟨ua,_,uc,vP ua us.length us,rfl,λb=>⟨λh0=>.of λR y H=>⟨b,ua,uc,rfl,?_⟩,λh0=>.of λR y H=>⟨b,ua,uc,rfl,?_⟩⟩,H⟩
 ·have e:ez at' us=⟨at',3,0,us,0,0,⟨0,[]⟩⟩:=by
   have:us.length=0:=by omega
   simp[ez,this]
  rw[e];exact H
 ·have e:ez at' us=⟨at',1,0,us,0,0,⟨0,[]⟩⟩:=by
   have:¬us.length=0:=by omega
   simp[ez,this]
  rw[e];exact H
theorem WW:(prog.info? 60).map (λi=>(i.zero,i.size,i.bytes))=some (some (.agg #[an 0,.slice none 0 0]),2,32):=by kernel_rfl
theorem yD(b:Nat)(cs:dI)(e:TypeId)(off:Nat)(x:Int)(hk:off+1<=cs.size):aR prog (cv 3 (.pointer (some ⟨b,off,none⟩)) (an x)) (HP.one b (.cells cs e (0,0))) (λv=>aA (v=cE) (HP.one b (.cells (cs.toList.take off++[an x]++cs.toList.drop (off+1)).toArray e (0,0)))):=by
 obtain⟨i,hi,h1,h2,h3⟩:=info_parts jS;exact g9 hi e b cs off (an x) [an x] rfl (by rw[h2];rfl) (by simp) (λv hv=>by simp at hv;subst hv;rfl) (by simpa using hk) (by unfold maxLen;omega)
theorem Sj(b:Nat)(cs:dI)(e:TypeId)(off:Nat)(w:Int)(a:aG)(n c:Nat)(hk:off+2<=cs.size):aR prog (cv 60 (.pointer (some ⟨b,off,none⟩)) (.agg #[an w,.slice a n c])) (HP.one b (.cells cs e (0,0))) (λv=>aA (v=cE) (HP.one b (.cells (cs.toList.take off++[an w,Value.slice a n c]++cs.toList.drop (off+2)).toArray e (0,0)))):=by
 obtain⟨i,hi,h1,h2,h3⟩:=info_parts WW;exact g9 hi e b cs off (.agg #[an w,.slice a n c]) [an w,.slice a n c] (by first|rfl|simp[Value.cells]) (by rw[h2];rfl) (by simp) (λv hv=>by simp at hv;rcases hv with rfl|rfl<;>rfl) (by simpa using hk) (by unfold maxLen;omega)
theorem wZ{ρ:cd}{i:Nat}{t ty:TypeId}{u:V}{x:Value}:fp ρ (.store t (.tmp i) (.const x)) ty [(i,u)]=cv t (u.den ρ) x:=by
 simp[fp,execOp,ib,cv]
theorem MY(at':Int)(a:aG)(n c:Nat)(us:List Int)(S:HP)(hr:bX S a n (us.map cr))(hl:us.length=n)(hb:n<=1000000000)
 (w:Int) (xa:aG) (xn xc:Nat) (l:ax) (Sx:HP) (hx:bX Sx xa xn (l.map eX)) (lj:l.length=xn) (hxb:xn<=140737488355328):
 az prog 164 #[an at',.slice a n c,.agg #[an w,.slice xa xn xc]] (aj S Sx)
 (λv=>aE λb=>aA (v=pt b) (aj S (aj Sx (fZ b {ez at' us with cell:=⟨w,l⟩})))):=by
 refine be (ρ:=[.i at',.a a,.n n,.n c,.p S,.i w,.a xa,.n xn,.n xc,.p Sx]) {aF:=fO,bU:=fP} [0,(.s 1),(.agg [5,(.s 6)])] JX 10 ?_;intro x;refine(J1 at' a n c us S hr hl hb).wk ?_;rintro v R h ⟨b,ua,uc,rfl,H⟩;subst hl;refine⟨b,aj (fY b (ez at' us) ua uc none 0) (vP ua us.length us),rfl,?_,ak H⟩;clear H;refine(Am Sx w xa xn xc l hx lj hxb).wk ?_;rintro v R h ⟨da,dc,rfl,H⟩;subst lj;refine⟨_,da,_,dc,bE da l.length l,rfl,?_,H⟩;clear H;rw[wZ];refine uH ?_;refine((yD b (jl.aJ (ez at' us) ua uc none 0) _ 4 0 (of_decide_eq_true rfl)).frame (vP ua us.length us)).wk ?_;rintro v R h ⟨h1,h2,d,l1,l2,⟨rfl,H⟩,HU⟩;refine⟨aj (fY b (ez at' us) ua uc none 0) (vP ua us.length us),rfl,?_,⟨h1,h2,d,l1,l2,H,HU⟩⟩;clear H HU;rw[yX (by decide)];refine uH ?_
 let o:jl:={ez at' us with cell:=⟨w,l⟩}
 refine(((Sj b (jl.aJ (ez at' us) ua uc none 0) _ 6 w da l.length dc (of_decide_eq_true rfl)).frame (vP ua us.length us)).frame (bE da l.length l)).wk ?_;rintro v R h ⟨h1,h2,d,l1,l2,⟨h3,h4,d',l3,l4,⟨rfl,H⟩,HU⟩,HD⟩;have H1:(aj (aj (fY b o ua uc da dc) (vP ua us.length us)) (bE da l.length l)).p R h:=⟨h1,h2,d,l1,l2,⟨h3,h4,d',l3,l4,H,HU⟩,HD⟩;refine⟨fZ b o,rfl,.of λR y H=>⟨b,rfl,H⟩,?_⟩;exact j6 (ah H1) ⟨ua,uc,da,dc,⟨hb,hxb⟩,au H1⟩
theorem J3(at':Int)(a:aG)(n c:Nat)(us:List Int)(S:HP)(hr:bX S a n (us.map cr))(hl:us.length=n)(hb:n<=1000000000):
 az prog 170 #[an at',.slice a n c] S
 (λv=>aE λb=>aA (v=pt b) (aj S (fZ b {ez at' us with step:=1,place:=(n:Int) - 1}))):=by
 refine be (ρ:=[.i at',.a a,.n n,.n c,.p S]) {aF:=fO,bU:=fP} [0,(.s 1)] [(1,4)] 5 ?_;refine(J1 at' a n c us S hr hl hb).wk ?_;rintro v R h ⟨b,ua,uc,rfl,H⟩;subst hl;refine⟨b,aj (fY b (ez at' us) ua uc none 0) (vP ua us.length us),rfl,⟨bh _ (by omega) (by omega),λ_=>?_⟩,ak H⟩;clear H;rw[wZ];refine uH ?_;refine((yD b (jl.aJ (ez at' us) ua uc none 0) _ 4 1 (of_decide_eq_true rfl)).frame (vP ua us.length us)).wk ?_;rintro v R h ⟨h1,h2,d,l1,l2,⟨rfl,H⟩,HU⟩
 let o1:jl:={ez at' us with step:=1}
 refine⟨aj (fY b o1 ua uc none 0) (vP ua us.length us),rfl,?_,⟨h1,h2,d,l1,l2,H,HU⟩⟩;clear H HU;rw[yX (by decide)];refine uH ?_
 let o:jl:={ez at' us with step:=1,place:=(us.length:Int) - 1}
 refine((yD b (jl.aJ o1 ua uc none 0) _ 5 _ (of_decide_eq_true rfl)).frame (vP ua us.length us)).wk ?_;rintro v R h ⟨h1,h2,d,l1,l2,⟨rfl,H⟩,HU⟩;have H1:(aj (fY b o ua uc none 0) (vP ua us.length us)).p R h:=⟨h1,h2,d,l1,l2,H,HU⟩;refine⟨fZ b o,rfl,.of λR y H=>⟨b,rfl,H⟩,?_⟩;exact⟨ua,uc,none,0,⟨hb,by show 0<=_;omega⟩,ae H1 (λ_ h=>h) λy hy=>j6 (rZ none:(bE none 0 []).p R y) hy⟩
end
namespace RX
-- cH/UU.List[cH/api.ap7]:ρ:=[.n r,.p rP,.i bC,.v one,.p asl]
abbrev ae3:Hp:=[(3,6),(7,10)]
abbrev Gx:Hp:=[(.b 0,1)]
abbrev WX:List W:=[(.ptr 0 0)]
end RX
section
open RX
def kz(s:RS):(Nm×Nat)×RS:=(((cJ s 16).1,(bg (cJ s 16).2 1).1%256),(bg (cJ s 16).2 1).2)
theorem MZ{i:Nat}{S:HP}{a:aG}{n c:Nat}{l:ax}(hr:bX S a n (l.map eX))(hl:l.length=n):aM prog (bZ (.convert 37 9 (.tmp i)) 9 [(i,.slice a n c)]) S (sE l):=by
 have:=FD (ρ:=[.v (.slice a n c)]) (i:=i) (x:=.w (.a (.val 0))) (S:=S) (a:=a) (n:=n) (c:=c) (l:=l) rfl hr hl;rw[vU]at this;exact this
theorem Gy(b:Nat)(s:RS):az prog 309 #[pt b] (di b s)
 (λv=>aA (v=.agg #[sE (kz s).1.1,an (kz s).1.2]) (di b (kz s).2)):=by
 refine ao (ρ:=[.n b,.p (di b s)]) {} WX Gx 2 ?_;intro x;refine(j7 b s 16).wk ?_;rintro v R h ⟨a,c,rfl,H⟩;refine⟨a,_,c,dS a _ c (cJ s 16).1,di b (cJ s 16).2,rfl,?_,ak H⟩;refine⟨(cJ s 16).1,MZ (ow _ _ _ _ _ _) rfl,?_⟩;refine(mj b (cJ s 16).2).wk ?_;rintro v R h ⟨rfl,H⟩;exact⟨_,_,rfl,⟨bh _ (by omega) (by omega),λ_=>.of λR h H=>⟨rfl,H⟩⟩,H⟩
abbrev OwE(a:aG)(n c:Nat)(l:List (Nm×Nat)):HP:=bY 104 2 a n c (l.flatMap RR)
theorem anT(a:aG)(n c:Nat)(l:List (Nm×Nat))(e:Nat)(x:Nm×Nat)(hn:n<=1000000000):
 aR prog (o4 99 99 (.slice a n c) (.slice (some ⟨e,0,none⟩) 1 1)) (aj (OwE a n c l) (HP.one e (.cells #[sE x.1,an x.2] 104 (0,0))))
  (λv=>aE λa'=>aE λc'=>aA (v=.slice a' (n+1) c') (aj (OwE a' (n+1) c' (l++[x])) (HP.one e (.cells #[sE x.1,an x.2] 104 (0,0))))):=by
 obtain⟨i,z,hi,h1,h2,h3,h4⟩:=Al Pf;have:=fy 99 99 104 i z acD hi h1 (by rw[h2,h3]) (by omega) a n c (l.flatMap RR) (HP.one e (.cells #[sE x.1,an x.2] 104 (0,0))) ⟨e,0,none⟩ 1 1 (RR x) (eQ e #[sE x.1,an x.2] _) (by rw[h3];rfl) (Ce.one x) (by unfold maxLen;omega) (by rw[h4];omega);rw[h3]at this;simp only[OwE,List.flatMap_append,List.flatMap_cons,List.flatMap_nil,List.append_nil];exact this
theorem w6:tq kz:=λs h=>by
 have h1:=lM h;have h2:=wl h1.1;have:=h1.2;show(bg (cJ s 16).2 1).2.1.length+1<=_;omega
theorem Co(b:Nat)(s:RS)(bC:Int)(hL:s.1.length<=1000000000):az prog 308 #[pt b,an bC,.func (.func 309) #[] #[]] (di b s)
 (λv=>aE λa=>aE λc=>aA (v=.slice a (cD kz bC s).1.length c) (aj (OwE a (cD kz bC s).1.length c (cD kz bC s).1) (di b (cD kz bC s).2))):=by
 refine ao (ρ:=[.n b,.p (di b s),.i bC,.v (.func (.func 309) #[] #[]),.p tt]) {hv:=[(0,[(.b 0),(.b 9)])],aF:=[258],link:=[(258,0)],shr:=[(0,[(.b 0)])],YA:=[(0,[3])]} [(.ptr 0 0),2,(.a (.func 309 []))] Gx 5 ?_;intro x y;refine(rX b s bC).wk ?_;rintro v R h ⟨rfl,H⟩;refine⟨_,_,rfl,λz=>?_,H⟩;refine(wg b _ (di b (bB s bC).2)).wk ?_;rintro v R h ⟨nb,rb,rfl,H⟩;refine⟨.func (.func 282) #[] #[pt nb,pt rb],LS nb rb b _,rfl,λu=>?_,H⟩;have hn:=wj s bC;have hL1:(bB s bC).2.1.length<=1000000000:=Nat.le_trans (kg s bC) hL;have nG:cD kz bC s=if(du kz (bB s bC).1 (bB s bC).2).2.2 then([],(du kz (bB s bC).1 (bB s bC).2).2)else du kz (bB s bC).1 (bB s bC).2:=rfl
 generalize hN:(bB s bC).1=N at*;generalize hS1:(bB s bC).2=s1 at*;refine⟨Nat×RS,λg=>di b g.2,λ_ _=>tt,Ve N,Dr N,(0,s1),λg p a n c q=>p=di b g.2/\∃ll,n=ll.length/\HP.aT q (OwE a n c ll)/\nF kz N s1 g ll,tj nb rb b N (by omega) s1,?_,?_,?_,?_⟩
 ·exact⟨rfl,[],rfl,.of λR h _=>bY.nil _ _ R h,nF.init _ _ _⟩
 ·rintro g p a n c q ⟨rfl,_⟩;rfl
 ·rintro g args ⟨g',rfl,hi,hw,_⟩ p a n c q ⟨rfl,ll,rfl,hq,hs⟩;refine⟨(g.1:Int),rfl,.of λ_ _ _=>trivial,?_⟩;refine(Gy b g.2).wk ?_;rintro v R h ⟨rfl,H⟩;refine⟨_,_,_,rfl,λe=>?_,H⟩;have VD:ll.length<=1000000000:=by have:=hs.2.1 hw;omega
  refine(anT a ll.length c ll e (kz g.2).1 VD).bv ((hq.aj _).trans (.of λ_ _=>aD)) λv=>.of λR h H=>?_;obtain⟨a',c',rfl,H'⟩:=ai H;exact⟨a',_,c',_,rfl,⟨(g.1+1,(kz g.2).2),⟨rfl,hi,hw,rfl⟩,rfl,ll++[(kz g.2).1],by simp,HP.aT.refl _,hs.next w6 hi hw⟩,H'⟩
 ·rintro g hf p a n c q ⟨rfl,ll,rfl,hq,hs⟩;have A8:=hs.iW hf;rw[A8]at nG;refine⟨g.2.2,we b g.2,λhw=>.of λR h H=>?_,λhw=>((HP.aT.refl _).gX hq).trans (.of λR h H=>?_)⟩
  ·rw[nG,aB hw];exact⟨none,0,rfl,ak (ae (aD H) (λ_ h=>h) λy _=>bY.nil _ _ R y)⟩
  ·rw[nG,aq hw];exact⟨a,c,rfl,ak H⟩
def fI(s:RS):Nd×RS:=
 (⟨(bg s 1).1%256,(((bg (bg s 1).2 1).1%256:Nat):Int),ct (bg (bg (bg s 1).2 1).2 2).1,(cJ (bg (bg (bg s 1).2 1).2 2).2 512).1,(cD kz 9223372036854775807 (cJ (bg (bg (bg s 1).2 1).2 2).2 512).2).1⟩,
  (cD kz 9223372036854775807 (cJ (bg (bg (bg s 1).2 1).2 2).2 512).2).2)
theorem ae4(a:aG)(n c:Nat)(l:List (Nm×Nat))(hl:l.length=n):HP.aT (OwE a n c l) (Ls tO a n l):=λR h d H=>by
 obtain⟨R1,h1,q1,q2,q3,q4,H1⟩:=bY.eP _ _ _ _ _ _ R h d H;exact⟨R1,h1,q1,q2,q3,q4,hl,H1,λ_ _=>trivial⟩
theorem J4(b:Nat)(s:RS)(hL:s.1.length<=1000000000):az prog 285 #[pt b] (di b s)
 (λv=>aE λx:dh=>aA (v=.agg (eW x).toArray/\x.nd=(fI s).1) (aj (bE x.da x.nd.data.length x.nd.data) (aj (Ls tO x.ea x.nd.ay.length x.nd.ay) (di b (fI s).2)))):=by
 refine ao (ρ:=[.n b,.p (di b s)]) {} WX Gx 2 ?_;intro x y;refine(mj b s).wk ?_;rintro v R h ⟨rfl,H⟩;refine⟨_,_,rfl,⟨bh _ (by omega) (by omega),λ_=>?_⟩,H⟩;refine(mj b _).wk ?_;rintro v R h ⟨rfl,H⟩;refine⟨_,_,rfl,⟨bh _ (by omega) (by omega),λ_=>?_⟩,H⟩;refine(ig b _ 2 (by omega)).wk ?_;rintro v R h ⟨rfl,H⟩;refine⟨_,_,rfl,?_,H⟩;refine(j7 b _ 512).wk ?_;rintro v R h ⟨da,dc,rfl,H⟩;refine⟨da,_,dc,_,_,rfl,?_,ak H⟩;refine(Co b _ 9223372036854775807 ?_).wk ?_
 ·exact Nat.le_trans (ni _ _) (Nat.le_trans (fN _ _) (Nat.le_trans (fN _ _) (Nat.le_trans (fN _ _) hL)))
 rintro v R h ⟨ea,ec,rfl,H⟩;refine⟨ea,_,ec,_,_,rfl,?_,H⟩;refine(HP.aT.gX (HP.aT.refl _) (HP.aT.gX (bY.eP _ _ _ _ _ _) (ae4 _ _ _ _ rfl))).trans (.of λR h H=>?_);exact⟨⟨(fI s).1,da,dc,ea,ec⟩,⟨rfl,rfl⟩,au (ak H)⟩
def C9(a:aG)(n c:Nat)(es:List dh):HP:=⟨λR h=>(bY 101 5 a n c (es.flatMap eW)).p R h/\∀x∈es,(nS x).p R h,
 λlR lh ⟨h1,h2⟩=>⟨(bY 101 5 a n c (es.flatMap eW)).mono lR lh h1,λx hx=>(nS x).mono lR lh (h2 x hx)⟩⟩
def ajc(es:List dh):HP:=⟨λR h=>∀x∈es,(nS x).p R h,λlR lh h2 x hx=>(nS x).mono lR lh (h2 x hx)⟩
theorem anU(a:aG)(n c:Nat)(es:List dh)(e:Nat)(x:dh)(hn:n<=1000000000):
 aR prog (o4 52 52 (.slice a n c) (.slice (some ⟨e,0,none⟩) 1 1)) (aj (C9 a n c es) (aj (HP.one e (.cells (eW x).toArray 101 (0,0))) (aj (bE x.da x.nd.data.length x.nd.data) (Ls tO x.ea x.nd.ay.length x.nd.ay))))
  (λv=>aE λa'=>aE λc'=>aA (v=.slice a' (n+1) c') (aj (C9 a' (n+1) c' (es++[x])) (aj (HP.one e (.cells (eW x).toArray 101 (0,0))) (aj (bE x.da x.nd.data.length x.nd.data) (Ls tO x.ea x.nd.ay.length x.nd.ay))))):=by
 obtain⟨i,z,hi,h1,h2,h3,h4⟩:=Al Wt;have:=fy 52 52 101 i z acE hi h1 (by rw[h2,h3]) (by omega) a n c (es.flatMap eW) (HP.one e (.cells (eW x).toArray 101 (0,0))) ⟨e,0,none⟩ 1 1 (eW x) (eQ e (eW x).toArray _) (by rw[h3];rfl) (u7.one x) (by unfold maxLen;omega) (by rw[h4];omega);rw[h3]at this;refine this.bv (K:=ajc (es++[x])) (.of λR h H=>?_) λv=>.of λR h H=>?_
 ·obtain⟨y1,y2,d,l1,l2,hO,⟨y3,y4,d',l3,l4,hc,hDE⟩⟩:=H;refine⟨h,PH.cV,PH.eC _,PH.le.refl _,PH.dB _,⟨y1,y2,d,l1,l2,hO.1,(HP.one _ _).mono (PH.le.refl _) l3 hc⟩,λz hz=>?_⟩;rcases List.mem_append.1 hz with hz|hz
  ·exact hY _ _ _ _ (hO.2 z hz)
  ·obtain rfl:=List.mem_singleton.1 hz;exact hY _ _ y4 _ ⟨ai hDE,ah hDE⟩
 ·have hK:=ah H;obtain⟨a',c',rfl,y1,y2,d,l1,l2,hO,hc⟩:=ai H;have hx:=hY _ _ _ PH.cV (hK x (by simp));refine⟨a',c',rfl,y1,y2,d,l1,l2,⟨by simpa using hO,λz hz=>hY _ _ _ _ (hK z hz)⟩,y2,PH.cV,PH.eC _,PH.le.refl _,PH.dB _,hc,PH.cV,PH.cV,PH.eC _,PH.le.refl _,PH.le.refl _,hx.1,hx.2⟩
theorem Gz(s:RS):(kz s).2.1.length<=s.1.length:=Nat.le_trans (fN _ _) (ni _ _)
theorem DE:tq fI:=λs h=>by
 have h5:=IR (f:=kz) h;have h4:=(wl h5).1;have h3:=(lM h4).1;have h2:=(lM h3).1;have h1:=(lM h2).2;have a1:=wm (f:=kz) Gz 9223372036854775807 (cJ (bg (bg (bg s 1).2 1).2 2).2 512).2;have a2:=ni (bg (bg (bg s 1).2 1).2 2).2 512;have a3:=fN (bg (bg s 1).2 1).2 2;have a4:=fN (bg s 1).2 1;show(cD kz 9223372036854775807 (cJ (bg (bg (bg s 1).2 1).2 2).2 512).2).2.1.length+1<=_;omega
theorem GA(b:Nat)(s:RS)(bC:Int)(hL:s.1.length<=1000000000):az prog 284 #[pt b,an bC,.func (.func 285) #[] #[]] (di b s)
 (λv=>aE λa=>aE λc=>aE λes:List dh=>aA (v=.slice a es.length c/\es.map (·.nd)=(cD fI bC s).1) (aj (C9 a es.length c es) (di b (cD fI bC s).2))):=by
 refine ao (ρ:=[.n b,.p (di b s),.i bC,.v (.func (.func 285) #[] #[]),.p tt]) {hv:=[(0,[(.b 0),(.b 9)])],aF:=[258],link:=[(258,0)],shr:=[(0,[(.b 0)])],YA:=[(0,[3])]} [(.ptr 0 0),2,(.a (.func 285 []))] Gx 5 ?_;intro x y;refine(rX b s bC).wk ?_;rintro v R h ⟨rfl,H⟩;refine⟨_,_,rfl,λz=>?_,H⟩;refine(wg b _ (di b (bB s bC).2)).wk ?_;rintro v R h ⟨nb,rb,rfl,H⟩;refine⟨.func (.func 282) #[] #[pt nb,pt rb],LS nb rb b _,rfl,λu=>?_,H⟩;have hn:=wj s bC;have hL1:(bB s bC).2.1.length<=1000000000:=Nat.le_trans (kg s bC) hL;have nG:cD fI bC s=if(du fI (bB s bC).1 (bB s bC).2).2.2 then([],(du fI (bB s bC).1 (bB s bC).2).2)else du fI (bB s bC).1 (bB s bC).2:=rfl
 generalize hN:(bB s bC).1=N at*;generalize hS1:(bB s bC).2=s1 at*;refine⟨Nat×RS,λg=>di b g.2,λ_ _=>tt,Ve N,Dr N,(0,s1),λg p a n c q=>p=di b g.2/\g.2.1.length<=1000000000/\∃es:List dh,n=es.length/\HP.aT q (C9 a n c es)/\nF fI N s1 g (es.map (·.nd)),tj nb rb b N (by omega) s1,?_,?_,?_,?_⟩
 ·exact⟨rfl,hL1,[],rfl,.of λR h _=>⟨bY.nil _ _ R h,λ_ h=>by cases h⟩,nF.init _ _ _⟩
 ·rintro g p a n c q ⟨rfl,_⟩;rfl
 ·rintro g args ⟨g',rfl,hi,hw,_⟩ p a n c q ⟨rfl,hg,es,rfl,hq,hs⟩;refine⟨(g.1:Int),rfl,.of λ_ _ _=>trivial,?_⟩;refine(J4 b g.2 hg).wk ?_;rintro v R h ⟨x,⟨rfl,hx⟩,H⟩;refine⟨_,_,_,_,_,_,_,_,_,_,_,_,rfl,λe=>?_,H⟩
  have VD:es.length<=1000000000:=by
   have:=hs.2.1 hw;simp only[List.length_map]at this;omega
  refine(anU a es.length c es e x VD).bv ((hq.aj _).trans (.of λ_ _=>aD)) λv=>.of λR h H=>?_;obtain⟨a',c',rfl,H'⟩:=ai H;have ZO:=hs.next DE hi hw
  refine⟨a',_,c',_,rfl,⟨(g.1+1,(fI g.2).2),⟨rfl,hi,hw,rfl⟩,rfl,?_,es++[x],by simp,HP.aT.refl _,by rw[List.map_append,List.map_singleton,hx];exact ZO⟩,H'⟩;exact Nat.le_trans (wm (f:=kz) Gz _ _) (Nat.le_trans (ni _ _) (Nat.le_trans (fN _ _) (Nat.le_trans (fN _ _) (Nat.le_trans (fN _ _) hg))))
 ·rintro g hf p a n c q ⟨rfl,hg,es,rfl,hq,hs⟩;have A8:=hs.iW hf;rw[A8]at nG;refine⟨g.2.2,we b g.2,λhw=>.of λR h H=>?_,λhw=>((HP.aT.refl _).gX hq).trans (.of λR h H=>?_)⟩
  ·rw[nG,aB hw];exact⟨none,0,[],⟨rfl,rfl⟩,ak (ae (aD H) (λ_ h=>h) λy _=>⟨bY.nil _ _ R y,λ_ h=>by cases h⟩)⟩
  ·rw[nG,aq hw];exact⟨a,c,es,⟨rfl,rfl⟩,ak H⟩
end
namespace RX
-- cH/entry.part:ρ:=[.i n]
abbrev ajd:Hp:=[(6,9)]
end RX
section
open RX
structure cj where
 kind:Int
 cl:Int
 bi:Int
 nu:Int
 st:Int
 bk:Int
 pl:ax
def cj.val(x:cj)(a:aG)(c:Nat):Value:=.agg #[an x.kind,an x.cl,an x.bi,an x.nu,an x.st,an x.bk,.slice a x.pl.length c]
def lO(n:Int):Bool:=decide (0<=n)&&decide (n<=2147483647)
def ei(x:cj):Bool:=(decide (x.kind=1)||decide (x.kind=2))&&lO x.cl&&lO x.bi&&lO x.nu&&decide (0<=x.st)&&decide (x.st<8)&&decide (-1<=x.bk)&&decide (x.bk<=4294967296)&&decide (x.pl.length<=65506)
theorem ql(n:Int):az prog 225 #[an n] tt (λv=>aA (v=.bool (lO n)) tt):=by
 refine ao (ρ:=[.i n]) {} [0] [] 1 ?_;unfold lO;refine⟨λh=>.of λR x _=>⟨?_,trivial⟩,λh=>.of λR x _=>⟨?_,trivial⟩⟩
 ·have h':0<=n:=h;rw[decide_eq_true h',Bool.true_and];rfl
 ·have h':¬0<=n:=h;rw[decide_eq_false h',Bool.false_and]
theorem EC(x:cj)(a:aG)(c:Nat)(S:HP):az prog 157 #[x.val a c] S (λv=>aA (v=.bool (ei x)) S):=by
 refine ao (ρ:=[.i x.kind,.i x.cl,.i x.bi,.i x.nu,.i x.st,.i x.bk,.a a,.n x.pl.length,.n c,.p S]) {} [(.agg [0,1,2,3,4,5,(.s 6)])] ajd 10 ?_;intro _;have no:ei x=false->HP.aT S (aA (Value.bool false=.bool (ei x)) S):=λh=>.of λR h' H=>⟨by rw[h],H⟩;refine⟨λh1=>⟨λh2=>no ?_,λh2=>?_⟩,λh1=>?_⟩
 ·unfold ei;simp[h1,h2]
 ·have A7:(decide (x.kind=1)||decide (x.kind=2))=true:=by
   have h2:x.kind=2:=by simpa using h2
   simp[h2]
  clear h1 h2;refine(ql x.cl).wk ?_;rintro v R h ⟨rfl,H⟩;refine⟨_,rfl,⟨λh=>no ?_,λh1=>?_⟩,H⟩
  ·unfold ei;simp[h]
  refine(ql x.bi).wk ?_;rintro v R h ⟨rfl,H⟩;refine⟨_,rfl,⟨λh=>no ?_,λh2=>?_⟩,H⟩
  ·unfold ei;simp[h]
  refine(ql x.nu).wk ?_;rintro v R h ⟨rfl,H⟩;refine⟨_,rfl,⟨λh=>no ?_,λh3=>⟨λh=>no ?_,λh4=>⟨λh=>no ?_,λh5=>⟨λh=>no ?_,λh6=>⟨λh=>no ?_,λh7=>.of λR h' H=>⟨?_,H⟩⟩⟩⟩⟩⟩,H⟩
  ·unfold ei;simp[h]
  ·unfold ei;have:¬0<=x.st:=by omega
   simp[this]
  ·unfold ei;have:¬x.st<8:=by omega
   simp[this]
  ·unfold ei;have:¬ -1<=x.bk:=by omega
   simp[this]
  ·unfold ei;have:¬x.bk<=4294967296:=by omega
   simp[this]
  ·have a1:0<=x.st:=by omega
   have a2:x.st<8:=by omega
   have a3: -1<=x.bk:=by omega
   have a4:x.bk<=4294967296:=by omega
   have h1:lO x.cl=true:=by simpa using h1
   have h2:lO x.bi=true:=by simpa using h2
   have h3:lO x.nu=true:=by simpa using h3
   unfold ei;rw[A7,h1,h2,h3];simp[a1,a2,a3,a4];omega
 ·have A7:(decide (x.kind=1)||decide (x.kind=2))=true:=by
   have h1:x.kind=1:=by simpa using h1
   simp[h1]
  clear h1;refine(ql x.cl).wk ?_;rintro v R h ⟨rfl,H⟩;refine⟨_,rfl,⟨λh=>no ?_,λh1=>?_⟩,H⟩
  ·unfold ei;simp[h]
  refine(ql x.bi).wk ?_;rintro v R h ⟨rfl,H⟩;refine⟨_,rfl,⟨λh=>no ?_,λh2=>?_⟩,H⟩
  ·unfold ei;simp[h]
  refine(ql x.nu).wk ?_;rintro v R h ⟨rfl,H⟩;refine⟨_,rfl,⟨λh=>no ?_,λh3=>⟨λh=>no ?_,λh4=>⟨λh=>no ?_,λh5=>⟨λh=>no ?_,λh6=>⟨λh=>no ?_,λh7=>.of λR h' H=>⟨?_,H⟩⟩⟩⟩⟩⟩,H⟩
  ·unfold ei;simp[h]
  ·unfold ei;have:¬0<=x.st:=by omega
   simp[this]
  ·unfold ei;have:¬x.st<8:=by omega
   simp[this]
  ·unfold ei;have:¬ -1<=x.bk:=by omega
   simp[this]
  ·unfold ei;have:¬x.bk<=4294967296:=by omega
   simp[this]
  ·have a1:0<=x.st:=by omega
   have a2:x.st<8:=by omega
   have a3: -1<=x.bk:=by omega
   have a4:x.bk<=4294967296:=by omega
   have h1:lO x.cl=true:=by simpa using h1
   have h2:lO x.bi=true:=by simpa using h2
   have h3:lO x.nu=true:=by simpa using h3
   unfold ei;rw[A7,h1,h2,h3];simp[a1,a2,a3,a4];omega
def ry(s:RS):cj×RS:=
 let k:=bg s 1
 let a:=bg k.2 4
 let b:=bg a.2 4
 let c:=bg b.2 4
 let t:=bg c.2 1
 let i:=bg t.2 8
 let p:=cJ i.2 65536
 (⟨((k.1%256:Nat):Int),(a.1:Int),(b.1:Int),(c.1:Int),((t.1%256:Nat):Int),ct i.1,p.1⟩,p.2)
def w7(l:ax):Option cj:=if 65536<l.length then none else match cO l with
 |none=>none
 |some q=>if(ry (q,false)).2.2=true\/(ry (q,false)).2.1≠[]then none else if ei (ry (q,false)).1=true then some (ry (q,false)).1 else none
def w8(l:ax)(S:HP)(v:Value):HP:=match w7 l with
 |none=>aA (v=.tuple #[.agg #[.int .i64 0,.int .i64 0,.int .i64 0,.int .i64 0,.int .i64 0,.int .i64 0,.slice none 0 0],.int .i64 3]) S
 |some x=>aE λa=>aE λc=>aA (v=.tuple #[x.val a c,.int .i64 0]) (aj (dS a x.pl.length c x.pl) S)
theorem WY(v:Nat)(h:v<256^4):IntKind.i64.wrap (v:Int)=v:=by
 have h4:(256:Nat)^4=4294967296:=by decide
 exact eZ ⟨by show(-9223372036854775808:Int)<=_;omega,by show _<=(9223372036854775807:Int);omega⟩
set_option maxHeartbeats 1000000 in
theorem M0(a:aG)(n c:Nat)(l:ax)(S:HP)(hr:bX S a n (l.map eX))(hl:l.length=n)(hc:n<=c)(ha:n≠0->a.isSome=true):
 az prog 231 #[.slice a n c] S (w8 l S):=by
 refine ao (ρ:=[.a a,.n n,.n c,.p S]) {} [(.s 0)] [(0,3)] 4 ?_;intro _
 have bad:w7 l=none->∀ {A:HP},HP.aT A S->HP.aT A (w8 l S (.tuple #[.agg #[an 0,an 0,an 0,an 0,an 0,an 0,.slice none 0 0],an 3])):=λh A hA=>by
  unfold w8;rw[h];exact hA.trans (.of λR h H=>⟨rfl,H⟩)
 refine⟨λh=>bad ?_ (HP.aT.refl _),λh=>?_⟩
 ·unfold w7;rw[aB (by omega)]
 have hle:¬65536<l.length:=by omega
 have rE:w7 l=match cO l with
  |none=>none
  |some q=>if(ry (q,false)).2.2=true\/(ry (q,false)).2.1≠[]then none else if ei (ry (q,false)).1=true then some (ry (q,false)).1 else none:=by unfold w7;rw[aq hle]
 refine(tx a n c l S hr hl hc ha (by omega)).wk ?_;rintro v R h ⟨a',c',rfl,H⟩;refine⟨a',_,c',dS a' _ c' _,_,S,rfl,?_,ak H⟩;clear H;cases hu:cO l with
 |none=>
  rw[hu]at rE;exact⟨λ_=>bad rE (HP.aT.refl _),λh=>(by simp at h)⟩
 |some q=>
  rw[hu]at rE;simp only at rE;refine⟨λh=>absurd rfl h,λ_=>?_⟩;simp only[Option.getD_some]
  have hq:q.length<=1000000:=by
   unfold cO at hu;split at hu
   ·cases hu
   ·split at hu
    ·cases hu;rw[List.length_take];omega
    ·cases hu
  refine(pS a' _ c' q _ (ow _ _ _ _ _ _) rfl (by omega)).wk ?_;rintro v R h ⟨b,rfl,H⟩;refine⟨b,_,_,rfl,?_,ak H⟩;clear H;intro _;refine(mj b (q,false)).wk ?_;rintro v R h ⟨rfl,H⟩;refine⟨_,_,rfl,⟨bh _ (by omega) (by omega),λ_=>?_⟩,H⟩;clear H;refine(ig b _ 4 (by omega)).wk ?_;rintro v R h ⟨rfl,H⟩;refine⟨_,_,rfl,?_,H⟩;clear H;refine(ig b _ 4 (by omega)).wk ?_;rintro v R h ⟨rfl,H⟩;refine⟨_,_,rfl,?_,H⟩;clear H;refine(ig b _ 4 (by omega)).wk ?_;rintro v R h ⟨rfl,H⟩;refine⟨_,_,rfl,?_,H⟩;clear H;refine(mj b _).wk ?_;rintro v R h ⟨rfl,H⟩;refine⟨_,_,rfl,⟨bh _ (by omega) (by omega),λ_=>?_⟩,H⟩;clear H;refine(mW b _).wk ?_;rintro v R h ⟨rfl,H⟩;refine⟨_,_,rfl,?_,H⟩;clear H;refine(j7 b _ 65536).wk ?_;rintro v R h ⟨pa,pc,rfl,H⟩;refine⟨pa,_,pc,_,_,rfl,?_,ak H⟩;clear H;refine(lV b _).wk ?_;rintro v R h ⟨rfl,H⟩;refine⟨_,_,rfl,⟨λh1=>bad ?_ (HP.aT.refl _),λh1=>?_⟩,H⟩
  ·rw[rE,aB]
   by_cases e:(ry (q,false)).2.2=true\/(ry (q,false)).2.1≠[]
   ·exact e
   ·exact absurd (aq e) h1
  clear H
  have mK:¬((ry (q,false)).2.2=true\/(ry (q,false)).2.1≠[]):=λe=>by
   have h3:(if(ry (q,false)).2.2=true\/(ry (q,false)).2.1≠[]then(3:Int)else 0)=3:=aB e;exact absurd (h3.symm.trans h1) (by decide)
  rw[aq mK]at rE;rw[WY _ (mX _ _),WY _ (mX _ _),WY _ (mX _ _)];refine(EC (ry (q,false)).1 pa pc _).wk ?_;rintro v R h ⟨rfl,H⟩;refine⟨_,_,rfl,⟨λh2=>bad ?_ (HP.aT.refl _),λh2=>?_⟩,H⟩
  ·rw[rE,aq h2]
  ·have h2:ei (ry (q,false)).1=true:=by simpa using h2
   rw[aB h2]at rE;unfold w8;rw[rE];exact .of λR h H=>⟨pa,pc,rfl,ak H⟩
structure eK where
 kind:Int
 path:Nm
 aL:Nm
 off:Int
 n:Int
 data:ax
def eK.val(x:eK)(a:aG)(c:Nat):Value:=.agg #[an x.kind,sE x.path,sE x.aL,an x.off,an x.n,.slice a x.data.length c]
def rk(s:RS):eK×RS:=
 let k:=bg s 1
 let a:=cJ k.2 300
 let b:=cJ a.2 300
 let o:=bg b.2 8
 let n:=bg o.2 8
 let p:=cJ n.2 4096
 (⟨((k.1%256:Nat):Int),a.1,b.1,ct o.1,ct n.1,p.1⟩,p.2)
def jx(l:ax):Option eK:=match cO l with
 |none=>none
 |some q=>if(rk (q,false)).2.2=true\/(rk (q,false)).2.1≠[]then none else some (rk (q,false)).1
def qm(l:ax)(S:HP)(v:Value):HP:=match jx l with
 |none=>aA (v=.tuple #[.agg #[.int .i64 0,sE [],sE [],.int .i64 0,.int .i64 0,.slice none 0 0],.int .i64 3]) S
 |some x=>aE λa=>aE λc=>aA (v=.tuple #[x.val a c,.int .i64 0]) (aj (dS a x.data.length c x.data) S)
set_option maxHeartbeats 1000000 in
theorem Cp(a:aG)(n c:Nat)(l:ax)(S:HP)(hr:bX S a n (l.map eX))(hl:l.length=n)(hc:n<=c)(ha:n≠0->a.isSome=true)(hb:n<=140737488355000):
 az prog 27 #[.slice a n c] S (qm l S):=by
 refine ao (ρ:=[.a a,.n n,.n c,.p S]) {} [(.s 0)] [(0,3)] 4 ?_;intro _
 have bad:jx l=none->∀ {A:HP},HP.aT A S->HP.aT A (qm l S (.tuple #[.agg #[an 0,sE [],sE [],an 0,an 0,.slice none 0 0],an 3])):=λh A hA=>by
  unfold qm;rw[h];exact hA.trans (.of λR h H=>⟨rfl,H⟩)
 have rE:jx l=match cO l with
  |none=>none
  |some q=>if(rk (q,false)).2.2=true\/(rk (q,false)).2.1≠[]then none else some (rk (q,false)).1:=rfl
 refine(tx a n c l S hr hl hc ha (by omega)).wk ?_;rintro v R h ⟨a',c',rfl,H⟩;refine⟨a',_,c',dS a' _ c' _,_,S,rfl,?_,ak H⟩;clear H;cases hu:cO l with
 |none=>
  rw[hu]at rE;exact⟨λ_=>bad rE (HP.aT.refl _),λh=>(by simp at h)⟩
 |some q=>
  rw[hu]at rE;simp only at rE;refine⟨λh=>absurd rfl h,λ_=>?_⟩;simp only[Option.getD_some]
  have hq:q.length<=140737488355000:=by
   unfold cO at hu;split at hu
   ·cases hu
   ·split at hu
    ·cases hu;rw[List.length_take];omega
    ·cases hu
  refine(pS a' _ c' q _ (ow _ _ _ _ _ _) rfl (by omega)).wk ?_;rintro v R h ⟨b,rfl,H⟩;refine⟨b,_,_,rfl,?_,ak H⟩;clear H;intro _;refine(mj b (q,false)).wk ?_;rintro v R h ⟨rfl,H⟩;refine⟨_,_,rfl,⟨bh _ (by omega) (by omega),λ_=>?_⟩,H⟩;clear H;refine(j7 b _ 300).wk ?_;rintro v R h ⟨pa,pc,rfl,H⟩;refine⟨pa,_,pc,_,_,rfl,⟨_,MZ (ow _ _ _ _ _ _) rfl,?_⟩,ak H⟩;clear H;refine(j7 b _ 300).wk ?_;rintro v R h ⟨oa,oc,rfl,H⟩;refine⟨oa,_,oc,_,_,rfl,⟨_,MZ (ow _ _ _ _ _ _) rfl,?_⟩,ak H⟩;clear H;refine(mW b _).wk ?_;rintro v R h ⟨rfl,H⟩;refine⟨_,_,rfl,?_,H⟩;clear H;refine(mW b _).wk ?_;rintro v R h ⟨rfl,H⟩;refine⟨_,_,rfl,?_,H⟩;clear H;refine(j7 b _ 4096).wk ?_;rintro v R h ⟨da,dc,rfl,H⟩;refine⟨da,_,dc,_,_,rfl,?_,ak H⟩;clear H;refine(lV b _).wk ?_;rintro v R h ⟨rfl,H⟩;refine⟨_,_,rfl,⟨λh1=>bad ?_ (HP.aT.refl _),λh1=>?_⟩,H⟩
  ·rw[rE,aB]
   by_cases e:(rk (q,false)).2.2=true\/(rk (q,false)).2.1≠[]
   ·exact e
   ·exact absurd (aq e) h1
  clear H
  have mK:¬((rk (q,false)).2.2=true\/(rk (q,false)).2.1≠[]):=λe=>by
   have h3:(if(rk (q,false)).2.2=true\/(rk (q,false)).2.1≠[]then(3:Int)else 0)=3:=aB e;exact absurd (h3.symm.trans h1) (by decide)
  rw[aq mK]at rE;unfold qm;rw[rE];exact .of λR h H=>⟨da,dc,rfl,ak H⟩
end
section
open Go.RowKit
section
variable {P:Program}{κ:Type}[DecidableEq κ]
theorem M1{kt:TypeId}{enc:κ->Value}{d:TypeDesc}(hd:P.underlying kt=some d)(hn:∀a b,Instr.sameNow d a b=none)
 (check:∀(em:Bool) (k:κ) (w:World),(Instr.checkKey em 10000 kt (enc k)).run P w=.ok () w)
 (heq:∀(k k':κ) (w:World),(Op.equal kt (enc k) (enc k')).run P w=.ok (decide (k=k')) w)
 (bits:∀k,Instr.sameBits 10000 (enc k) (enc k)=true):jA P kt enc where
 check:=check
 bits:=bits
 find k l w:=by
  have Lr:∀(l:AL κ) (i:Nat),(Instr.findAsking kt (enc k) (l.map (vR enc)) i).run P w=.ok (kI k l i) w:=by
   intro l
   induction l with
   |nil=>intro i;simp[Instr.findAsking,kI]
   |cons x l ih=>
    intro i;simp only[List.map_cons,Instr.findAsking,Sem.run_bind,vR,heq,Result.andThen_ok,kI]
    by_cases e:k=x.1
    ·simp[e]
    ·simp only[e,decide_false,Bool.false_eq_true,if_false];exact ih (i+1)
  unfold Instr.findKey;cases l with
  |nil=>simp[run_underlying hd,Instr.findNow,kI]
  |cons x l=>
   have hf:Instr.findNow d (enc k) ((x::l).map (vR enc)) 0=none:=by
    simp[Instr.findNow,hn]
   simp only[Sem.run_bind,run_underlying hd,Result.andThen_ok,hf];exact Lr (x::l) 0
end
section
variable {P:Program}{ops:Array Oper}{rest:List Oper}{o:Oper}{a:Act}{w:World}{Q:Exit->Act->World->Prop}
end
end
section
open RX
abbrev rl:=Int×Int×Int
def Cq(k:rl):Value:=.agg #[an k.1,an k.2.1,an k.2.2]
theorem kW{P:Program}{w:World}{e:TypeId}{k:IntKind}(he:P.underlying e=some (.int k))(cs:dI)(i:Nat)(v:Value)(hv:cs[i]? =some v):(part e cs i).run P w=.ok v w:=by
 have anV:(isAgg e).run P w=.ok false w:=by
  unfold isAgg;rw[Sem.run_bind,run_underlying he];rfl
 simp[part,anV,hv]
theorem anW:(prog.fieldsOf 44).toList.map (λf=>(decide (f.name= "_"),f.type,f.offset))=[(false,3,0),(false,3,1),(false,3,2)]:=by kernel_rfl
theorem aje:∃f0 f1 f2:Field,(prog.fieldsOf 44).toList=[f0,f1,f2]/\(f0.name≠ "_" /\f0.type=3/\f0.offset=0)/\(f1.name≠ "_" /\f1.type=3/\f1.offset=1)/\(f2.name≠ "_" /\f2.type=3/\f2.offset=2):=by
 have h:=anW;obtain⟨f0,r0,e0,h0,h⟩:=List.map_eq_cons_iff.1 h;obtain⟨f1,r1,e1,h1,h⟩:=List.map_eq_cons_iff.1 h;obtain⟨f2,r2,e2,h2,h⟩:=List.map_eq_cons_iff.1 h;have e3:=List.map_eq_nil_iff.1 h;subst e3 e2 e1;simp only[Prod.mk.injEq,decide_eq_false_iff_not]at h0 h1 h2;exact⟨f0,f1,f2,e0,h0,h1,h2⟩
theorem M2:prog.underlying 44=some (.struct (prog.fieldsOf 44)):=by kernel_rfl
theorem ae5:prog.stoodInHeld 44=false:=by kernel_rfl
theorem w9:prog.underlying 3=some (.int .i64):=by kernel_rfl
theorem idK:jA prog 44 Cq:=by
 obtain⟨f0,f1,f2,hf,⟨n0,t0,o0⟩,⟨n1,t1,o1⟩,n2,t2,o2⟩:=aje
 have hck:∀(em:Bool) (n:Int) (m:Nat) (w:World),(Instr.checkKey em (m+1) 3 (an n)).run prog w=.ok () w:=by
  intro em n m w;unfold Instr.checkKey;simp[run_underlying w9]
 have q0:∀(a b c:Int) (w:World),(part 3 #[an a,an b,an c] 0).run prog w=.ok (an a) w:=λa b c w=>kW w9 _ 0 _ rfl;have q1:∀(a b c:Int) (w:World),(part 3 #[an a,an b,an c] 1).run prog w=.ok (an b) w:=λa b c w=>kW w9 _ 1 _ rfl;have q2:∀(a b c:Int) (w:World),(part 3 #[an a,an b,an c] 2).run prog w=.ok (an c) w:=λa b c w=>kW w9 _ 2 _ rfl;have he:∀(a b:Int) (w:World),(Op.equalIn 9999 3 (an a) (an b)).run prog w=.ok (a==b) w:=λa b w=>run_equalIn_int w 9998 _ _ _ _ _ w9;refine M1 M2 (λa b=>rfl) ?_ ?_ ?_
 ·rintro em ⟨a,b,c⟩ w;unfold Instr.checkKey Cq;simp only[Sem.run_bind,run_underlying M2,Result.andThen_ok];rw[<-Array.forIn_toList,hf];simp only[List.forIn_cons,List.forIn_nil,Sem.run_bind,n0,n1,n2,t0,t1,t2,o0,o1,o2,ne_eq,not_false_eq_true,if_true,q0,q1,q2,Result.andThen_ok,hck em _ 9998 w,Sem.run_pure]
 ·rintro⟨a,b,c⟩ ⟨x,y,z⟩ w;unfold Op.equal Cq;rw[show Op.maxDepth=9998+1+1 from rfl,run_equalIn_struct w _ _ _ _ M2 ae5,hf];simp only[Op.eqFields,n0,n1,n2,t0,t1,t2,o0,o1,o2,ne_eq,not_false_eq_true,if_true,Sem.run_bind,q0,q1,q2,Result.andThen_ok,run_equalIn_int w _ _ _ _ _ _ w9]
  by_cases h1:a=x
  ·by_cases h2:b=y
   ·by_cases h3:c=z
    ·simp[h1,h2,h3,q1,q2,he]
    ·simp[h1,h2,h3,q1,q2,he]
   ·simp[h1,h2,q1,he]
  ·simp[h1]
 ·intro k;simp[Cq,Instr.sameBits]
def rz(q:ax):ax:=eg q.length 4++q
def jM(x:eK):ax:=ml ([hZ x.kind]++rz x.path++rz x.aL++eg (b7 x.off) 8++eg (b7 x.n) 8++rz x.data)
def kX(x:cj):ax:=ml ([hZ x.kind]++eg (b7 x.cl) 4++eg (b7 x.bi) 4++eg (b7 x.nu) 4++[hZ x.st]++eg (b7 x.bk) 8++rz x.pl)
def xb(s:Nm):Option Nm:=match bW s with
 |some (x::_)=>some x
 |_=>none
def gD(x:eK):Int:=if x.kind=12 then 0 else match xb x.path with
 |none=>0
 |some m=>if(x.kind=5\/x.kind=6)/\xb x.aL≠some m then 0 else 1+((se m%7:Nat):Int)
def dV(p:rx)(at':Int):List Int:=if at'<0\/dw p=false then[]else p.ch.getD (at'%p.ch.length).toNat []
structure sK where
 i1:Int
 i2:Int
 i3:Int
 kind:Int
 step:Int
 fJ:Int
 pl:ax
 at':Int
 cell:fF
 op:Option jl
 left:List Int
def DF:sK:=⟨0,0,0,0,0,0,[],0,zC,none,[]⟩
structure dX(α:Type) where
 node:Int
 dz:Int
 cL:Int
 aQ:rx
 rp:α
 fQ:Int
 ga:Int
 num:Int
 busy:Bool
 aZ:sK
 dH:Option cg
 Cr:Int
 bq:List (Int×MS)
 out:List MS
 waits:Bool
 id:rl
 bH:fH
section
variable {α:Type}
def lB(x m:MS):Bool:=decide (x.to=m.to)&&decide (x.kind=m.kind)&&decide (x.ep=m.ep)&&decide (x.at'=m.at')&&(decide (x.br=m.br)&&decide (x.bw=m.bw))
def Cs(l:List (Int×MS))(k:Int):Bool:=l.any λy=>decide (y.1=k)
def uv(g:dX α)(m:MS):dX α:=if Cs g.bq m.to=true then g else
 {g with num:=g.num+1,bq:=g.bq++[(m.to,{m with fr:=g.node,num:=g.num+1})],out:=g.out++[{m with fr:=g.node,num:=g.num+1}]}
def lC(g:dX α)(asks:List MS):dX α:=asks.foldl uv {g with bq:=g.bq.filter λy=>asks.any λx=>lB x y.2}
def tR(g:dX α)(a:fH):dX α:={g with waits:=true,id:=(g.aZ.i1,g.aZ.i2,g.aZ.i3),bH:=a,busy:=false,aZ:=DF,dH:=none,bq:=[],out:=[]}
def mr(g:dX α):dX α:=tR g {err:=30}
def An(g:dX α):List MS:=[{gS with to:=7,kind:=8,ep:=g.aQ.ep,at':=g.aZ.fJ}]
def Sk(o:jl):Int:=if o.state=1 then(o.us[o.place.toNat]?).getD 0 else 0
def Sl(o:jl):Int:=if o.state=1 then sJ o else 0
def m9(g:dX α)(o:jl):List MS:=[{gS with to:=Sk o,kind:=Sl o,ep:=g.aQ.ep,at':=o.at',cell:=lv o}]
def iL(g:dX α):Int:=64*(g.ga+1)+65536*g.dz+g.node
def gV(g:dX α):dX α:={g with ga:=g.ga+1,dH:=some (jk g.aQ g.cL (iL g)),Cr:=0}
def dX.bf(g:dX α)(o:Option jl):dX α:={g with aZ:={g.aZ with op:=o}}
def dX.qn(g:dX α)(n:Int):dX α:={g with aZ:={g.aZ with step:=n}}
def lP(g:dX α)(r:MS):cj:=⟨g.aZ.kind,g.aZ.i1,g.aZ.i2,g.aZ.i3,g.aZ.fJ,r.back,g.aZ.pl⟩
def kY(g:dX α)(r:MS):dX α:=
 if r.err=0 then(if ei (lP g r)=true then{g with aZ:={g.aZ with step:=1,at':=r.tail,cell:=⟨1,kX (lP g r)⟩}}else mr g)
 else if r.err=8 then gV g else mr g
def rA(g:dX α):jl:=g.aZ.op.getD ({ez g.aZ.at' (dV g.aQ g.aZ.at')with step:=0,cell:=g.aZ.cell})
def il(g:dX α):dX α×Option (List MS):=
 let o:=rA g
 let g1:=g.bf (some o)
 if o.state=1 then(g1,some (m9 g1 o))else if o.state=2 then((g1.qn 2).bf none,none)else if o.state=3 then((g1.qn 0).bf none,none)
 else if o.state=5 then(gV g1,none)else(mr g1,none)
end
structure RF(α:Type) where
 nx:α->Int
 lost:α->Bool
 take:α->fF->α
 skip:α->Int->α
 bH:α->rl->Option fH
section
variable {α:Type}(F:RF α)
def lZ(g:dX α):dX α:=if g.aZ.kind=2 then tR g {}else match F.bH g.rp (g.aZ.i1,g.aZ.i2,g.aZ.i3)with
 |none=>mr g
 |some a=>tR g a
def mQ(at':Int)(us:List Int):jl:={ez at' us with step:=1,place:=(us.length:Int) - 1}
def d9(g:dX α)(o:jl):dX α×Option (List MS):=
 if o.state=1 then(g,some (m9 g o))else if o.state=2 then({g with rp:=F.take g.rp (gN o)}.bf none,none)
 else if o.state=4 then(if o.low<=F.nx g.rp\/g.aZ.at'<o.low then(mr g,none)else({g with rp:=F.skip g.rp o.low}.bf none,none))
 else if o.state=5 then(gV g,none)else(mr g,none)
def gE(g:dX α):dX α×Option (List MS):=match g.aZ.op with
 |some o=>d9 F g o
 |none=>if g.aZ.at'<F.nx g.rp/\F.lost g.rp=false then(lZ F g,none)else if F.nx g.rp=g.aZ.at' then({g with rp:=F.take g.rp g.aZ.cell},none)
  else d9 F (g.bf (some (mQ (F.nx g.rp) (dV g.aQ (F.nx g.rp))))) (mQ (F.nx g.rp) (dV g.aQ (F.nx g.rp)))
def ko(g:dX α):dX α×Option (List MS):=if g.aZ.left=[]then(tR g {},none)else
 (g,some (g.aZ.left.map λu=>{gS with to:=u,kind:=3,ep:=g.aQ.ep,at':=g.aZ.at'}))
def WZ(p:rx):List Int:=((List.range 7).map λ(k:Nat)=>(k:Int)).filter λu=>p.ch.any λc=>c.contains u
def eJ(g:dX α)(a:cg):dX α×Option (List MS):=
 if a.st=5 then({g with aQ:=a.aQ,dH:=none,aZ:={g.aZ with op:=none,left:=if g.aZ.step=3 then WZ a.aQ else g.aZ.left}},none)
 else if a.st=6 then(mr g,none)else(g,some (dF a))
def fb(g:dX α):dX α×Option (List MS):=match g.dH with
 |some a=>eJ g a
 |none=>if g.aZ.step=0 then(g,some (An g))else if g.aZ.step=1 then il g else if g.aZ.step=2 then gE F g else ko g
def kq:Nat->dX α->dX α
 |0,g=>g
 |n+1,g=>if g.busy=false then g else match fb F g with
  |(g',some l)=>lC g' l
  |(g',none)=>kq n g'
def cK(g:dX α)(j:sK):dX α:={g with fQ:=g.fQ+1,busy:=true,aZ:={j with i1:=g.node,i2:=g.dz,i3:=g.fQ+1}}
def J5(x y:eK):Bool:=decide (x.kind=y.kind)&&(decide (x.path=y.path)&&(decide (x.aL=y.aL)&&(decide (x.off=y.off)&&(decide (x.n=y.n)&&decide (x.data=y.data)))))
def px(x:eK):Bool:=match jx (jM x)with
 |some y=>J5 x y
 |none=>false
def sL(g:dX α)(x:eK):dX α×Int:=if g.busy=true\/g.waits=true then(g,7)else if px x=true then
 (kq F 9 (cK g {DF with kind:=1,fJ:=gD x,pl:=jM x}),0)else(g,1)
def dM(m q:MS):Bool:=m.bV&&(!q.bV&&(decide (m.to=q.fr)&&(decide (m.fr=q.to)&&(decide (m.num=q.num)&&(decide (m.kind=q.kind)&&(decide (m.ep=q.ep)&&decide (m.at'=q.at')))))))
def jN(g:dX α)(m:MS):dX α:=if m.err=0 then{g with aZ:={g.aZ with left:=g.aZ.left.filter λu=> !decide (u=m.fr)}}else if m.err=8 then gV g else mr g
def fx(g:dX α)(m:MS)(a':cg):dX α:=match g.dH with
 |some _=>{g with dH:=some a'}
 |none=>if g.aZ.step=0 then kY g m else if g.aZ.step=3 then jN g m else g.bf (g.aZ.op.map λo=>ia o m)
def b9(l:List (Int×MS))(k:Int):Option MS:=(l.find? λy=>decide (y.1=k)).map (·.2)
def iw(l:List (Int×MS))(k:Int):List (Int×MS):=l.filter λy=> !decide (y.1=k)
def zD(g:dX α)(m:MS)(a':cg):dX α:=match b9 g.bq m.fr with
 |none=>g
 |some q=>if dM m q=true then kq F 9 (fx {g with bq:=iw g.bq m.fr} m a')else g
def nf(g:dX α):dX α:={g with out:=[]}
def bS(g:dX α):dX α:=if g.waits=true then{g with waits:=false,id:=(0,0,0),bH:={}}else g
def iM(node dz cL:Int)(p:rx)(r:α):dX α:=⟨node,dz,cL,p,r,0,0,dz*4294967296,false,DF,none,0,[],[],false,(0,0,0),{}⟩
end
def CM(b:Nat)(f:Int->Int):HP:=aE λl:AL Int=>aE λc:Nat=>aA (∀k,(aY k l).getD (an 0)=an (f k)) (HP.one b (aX cr l c))
theorem acO:prog.underlying 356=some (.map 3 3):=by kernel_rfl
theorem CM.init{b:Nat}{R h:PH}(H:(HP.one b (.map #[] 0)).p R h):(CM b λ_=>0).p R h:=⟨[],0,λ_=>rfl,H⟩
theorem GB(b:Nat)(f:Int->Int)(k:Int):aM prog (mM 356 (.map (some b)) (an k) false) (CM b f) (an (f k)):=λw R h F s ⟨l,c,hk,hh⟩=>by
 obtain⟨i,hi,z1,_,_⟩:=info_parts jS;have:=iO (c:=c) (l:=l) B3 acO hi z1 k false (r:=b) (A:=HP.one b (aX cr l c)) (λR h H=>H) w R h F s hh;rw[aq (by simp),hk k]at this;exact this
theorem ae6(b:Nat)(f:Int->Int)(k v:Int):aR prog (kK 356 (.map (some b)) (an k) (an v)) (CM b f) (λx=>aA (x=cE) (CM b λq=>if q=k then v else f q)):=by
 refine(Lx λl=>Lx λc=>yZ λhk=>?_);refine(o6 (c:=c) (l:=l) B3 acO k (an v) (r:=b)).wk ?_;rintro x R h ⟨rfl,H⟩;refine⟨rfl,_,_,λq=>?_,H⟩;rw[i7]
 by_cases e:q=k
 ·rw[aB e];simp[e]
 ·rw[aq e];simp only[aq e];exact hk q
def xd(L:List (Nm×Nat))(q:Int):Int:=((L.countP λe=>decide ((e.2:Int)=q):Nat):Int)
def W0(T1:List Nd)(n:Nd):Nd:=if n.kind=2/\xd (T1.flatMap (·.ay)) n.num%65536=n.bo then{n with bo:=xd (T1.flatMap (·.ay)) n.num}else n
def YL(T1:List Nd):List Nd:=T1.map (W0 T1)
theorem Sm(L:List (Nm×Nat))(e:Nm×Nat):xd (L++[e])=λq=>if q=(e.2:Int)then xd L e.2+1 else xd L q:=by
 funext q;unfold xd;rw[List.countP_append]
 by_cases h:q=(e.2:Int)
 ·subst h;simp
 ·rw[aq h];simp[Ne.symm h]
theorem aaA(L:List (Nm×Nat))(q:Int):0<=xd L q/\xd L q<=L.length:=by
 unfold xd;have:=List.countP_le_length (p:=λe:Nm×Nat=>decide ((e.2:Int)=q)) (l:=L);omega
theorem GC{a:aG}{n c k:Nat}{es:List dh}{x:dh}(hk:es[k]? =some x):aM prog (bO 101 (.pointer (a.map λy=>(y.add (k*5)).add 0))) (C9 a n c es) (.agg (eW x).toArray):=λw R h F s H=>by
 refine pN (vs:=eW x) Tryz.underlying101 acG (bY.rd 101 5 a n c (es.flatMap eW)) (k:=k*5) (off:=0) aiR (Nat.succ_pos 4) (λj v hj=>?_) w R h F s H.1;have hlt:j<5:=by have:=(List.getElem?_eq_some_iff.1 hj).1;exact this
 rw[Nat.add_zero,gQ eW 5 (λ_=>rfl) es k j x hk hlt];exact hj
theorem ae7{a:aG}{n c k:Nat}{es:List dh}{x:dh}(hx:x∈es){e:Nm×Nat}(hk:x.nd.ay[k]? =some e):aM prog (bO 104 (.pointer (x.ea.map λy=>(y.add (k*2)).add 0))) (C9 a n c es) (.agg #[sE e.1,an e.2]):=λw R h F s H=>
 Ls.load (K:=tO) Tryz.underlying104 Ww aeY hk w R h F s (H.2 x hx).2
def Ps(x:dh)(v:Int):dh:={x with nd:={x.nd with bo:=v}}
theorem Ct{α:Type}:∀(l:List α) (k:Nat) (x:α),l[k]? =some x->l.set k x=l
 |[],_,_,h=>by cases h
 |y::r,0,x,h=>by simp at h;subst h;rfl
 |y::r,k+1,x,h=>by rw[List.set_cons_succ,Ct r k x (by simpa using h)]
theorem Pt(v:Int)(x:dh):∀(es:List dh) (k:Nat),es[k]? =some x->(es.flatMap eW).take (k*5+2)++[an v]++(es.flatMap eW).drop (k*5+2+1)=(es.set k (Ps x v)).flatMap eW
 |[],_,h=>by cases h
 |y::r,0,h=>by
  simp at h;subst h;simp[eW,Ps]
 |y::r,k+1,h=>by
  have ih:=Pt v x r k (by simpa using h);have e1:(k+1)*5+2=(k*5+2)+1+1+1+1+1:=by omega
  rw[e1];simp only[List.flatMap_cons,List.set_cons_succ,eW,List.cons_append,List.nil_append,List.take_succ_cons,List.drop_succ_cons];rw[<-ih]
theorem stO{a:aG}{n c k:Nat}{es:List dh}{x:dh}(hk:es[k]? =some x)(hn:es.length=n)(v:Int):aR prog (cv 3 (.pointer (a.map λy=>(y.add (k*5)).add 2)) (an v)) (C9 a n c es)
 (λr=>aA (r=cE) (C9 a n c (es.set k (Ps x v)))):=by
 obtain⟨i,hi,z1,z2,_⟩:=info_parts jS;have hlt:=(List.getElem?_eq_some_iff.1 hk).1;have:=pP hi 101 5 a n c (es.flatMap eW) (k*5) 2 (an v) [an v] rfl (by rw[z2];rfl) (Nat.succ_pos 0) (λu hu=>by simp at hu;subst hu;rfl) (by simp;omega);refine this.bv (K:=ajc es) (.of λR h H=>⟨h,PH.cV,PH.eC _,PH.le.refl _,PH.dB _,H.1,λz hz=>hY _ _ _ _ (H.2 z hz)⟩) λr=>.of λR h H=>?_;have hK:=ah H;obtain⟨rfl,H1⟩:=ai H;refine⟨rfl,?_,λz hz=>?_⟩
 ·rw[<-Pt v x es k hk];exact H1
 ·rcases List.mem_or_eq_of_mem_set hz with h|h
  ·exact hK z h
  ·subst h;have:=hK x (List.mem_of_getElem? hk);exact this
def yE(T1:List Nd)(x:dh):dh:={x with nd:=W0 T1 x.nd}
theorem DG(a:aG)(c:Nat)(es:List dh)(hT:((es.map (·.nd)).flatMap (·.ay)).length<=1000000000000)(hn:es.length<=1000000000):
 az prog 286 #[.slice a es.length c] (C9 a es.length c es) (λv=>aA (v=cE) (aE λcZ:List dh=>aA (cZ.map (·.nd)=YL (es.map (·.nd))/\cZ.length=es.length) (C9 a es.length c cZ))):=by
 refine az.cM (φ:=(es.length≠0->a.isSome=true)/\∀x∈es,x.nd.ay.length≠0->x.ea.isSome=true) (λR h H=>⟨λhn=>bY.some H.1 (by omega),λx hx hn=>Ls.isSome (H.2 x hx).2 hn⟩) λ⟨ha,hea⟩=>?_;refine ao (ρ:=[.a a,.n es.length,.n c,.p (C9 a es.length c es)]) {hv:=[(0,[(.b 4)]),(2,[(.b 4)]),(4,[(.a 0)])]} [(.s 0)] [(0,3)] 4 ?_;intro b;refine⟨λk p=>∃j:Nat,k=j/\j<=es.length/\HP.aT p (CM b (xd (((es.map (·.nd)).take j).flatMap (·.ay)))),λk _=>es.length - k.toNat,⟨0,rfl,Nat.zero_le _,.of λR h H=>CM.init H⟩,?_⟩;rintro k p ⟨j,rfl,hj,hp⟩;refine⟨λhlt=>⟨by omega,λ_=>⟨ha (by omega),λ_=>?_⟩⟩,λlH=>?_⟩
 ·have gP:j<es.length:=by omega
  have MM:j<(es.map (·.nd)).length:=by simpa using gP
  have hg:(es.map (·.nd))[j]=es[j].nd:=by simp
  have hm:=List.getElem_mem gP;refine⟨_,_,_,_,_,_,_,_,_,GC (List.getElem?_eq_getElem gP),λy=>?_⟩;have BH:=qg (λn:Nd=>n.ay) (es.map (·.nd)) j MM;have hle:=qT (λn:Nd=>n.ay) (es.map (·.nd)) (j+1);rw[BH,hg,List.length_append]at hle;rw[hg]at BH;refine⟨λk p=>∃i:Nat,k=i/\i<=es[j].nd.ay.length/\HP.aT p (CM b (xd (((es.map (·.nd)).take j).flatMap (·.ay)++es[j].nd.ay.take i))),λk _=>es[j].nd.ay.length - k.toNat,⟨0,rfl,Nat.zero_le _,by simpa using hp⟩,?_⟩;rintro k p ⟨i,rfl,hi,hp⟩;refine⟨λLv=>⟨by omega,λ_=>⟨hea _ hm (by omega),λ_=>?_⟩⟩,λaiM=>?_⟩
  ·have acP:i<es[j].nd.ay.length:=by omega
   refine⟨es[j].nd.ay[i].1,(es[j].nd.ay[i].2:Int),ae7 hm (List.getElem?_eq_getElem acP),λz=>?_⟩;have hc:=aaA (((es.map (·.nd)).take j).flatMap (·.ay)++es[j].nd.ay.take i) es[j].nd.ay[i].2
   have hlen:(((es.map (·.nd)).take j).flatMap (·.ay)++es[j].nd.ay.take i).length<=1000000000000:=by
    rw[List.length_append,List.length_take];omega
   refine⟨_,(GB b _ _).aT hp,bh _ (by omega) (by omega),λ_=>?_⟩;refine(ae6 b _ es[j].nd.ay[i].2 (xd (((es.map (·.nd)).take j).flatMap (·.ay)++es[j].nd.ay.take i) es[j].nd.ay[i].2+1)).bv (hp.trans (.of λ_ _=>aD)) λv=>.of λR h H=>?_;obtain⟨rfl,H1⟩:=ai H;refine⟨_,rfl,⟨bh _ (by omega) (by omega),λ_=>⟨⟨i+1,by omega,by omega,?_⟩,by dsimp only;omega⟩⟩,H1⟩;rw[List.take_succ_eq_append_getElem acP,<-List.append_assoc,Sm];exact HP.aT.refl _
  ·obtain rfl:i=es[j].nd.ay.length:=by omega
   refine⟨bh _ (by omega) (by omega),λ_=>⟨⟨j+1,by omega,by omega,?_⟩,by dsimp only;omega⟩⟩;rw[BH];rw[List.take_length]at hp;exact hp
 ·obtain rfl:j=es.length:=by omega
  have e0:(es.map (·.nd)).take es.length=es.map (·.nd):=List.take_of_length_le (by simp);rw[e0]at hp;refine⟨λk q=>∃j:Nat,k=j/\j<=es.length/\HP.aT q (C9 a es.length c ((es.map (yE (es.map (·.nd)))).take j++es.drop j)),λk _=>es.length - k.toNat,⟨0,rfl,Nat.zero_le _,by simpa using HP.aT.refl _⟩,?_⟩;rintro k q ⟨j,rfl,hj,hq⟩;refine⟨λhlt=>⟨by omega,λ_=>⟨ha (by omega),λ_=>?_⟩⟩,λlH=>?_⟩
  ·have gP:j<es.length:=by omega
   have hlm:((es.map (yE (es.map (·.nd)))).take j).length=j:=by rw[List.length_take,List.length_map];omega
   have xO:((es.map (yE (es.map (·.nd)))).take j++es.drop j)[j]? =some es[j]:=by
    rw[List.getElem?_append_right (by omega),hlm,Nat.sub_self,List.getElem?_drop,Nat.add_zero,List.getElem?_eq_getElem gP]
   have hall:((es.map (yE (es.map (·.nd)))).take j++es.drop j).length=es.length:=by rw[List.length_append,hlm,List.length_drop];omega
   have tY:∀y:dh,y=yE (es.map (·.nd)) es[j]->((es.map (yE (es.map (·.nd)))).take j++es.drop j).set j y=(es.map (yE (es.map (·.nd)))).take (j+1)++es.drop (j+1):=λy hy=>by
    rw[List.set_append_right _ _ (by omega),hlm,Nat.sub_self,List.drop_eq_getElem_cons gP,List.set_cons_zero,List.take_succ_eq_append_getElem (by simpa using gP),List.append_assoc,hy];simp
   have ajf:W0 (es.map (·.nd)) es[j].nd=es[j].nd->(es.map (yE (es.map (·.nd)))).take j++es.drop j=(es.map (yE (es.map (·.nd)))).take (j+1)++es.drop (j+1):=λhw=>by
    rw[<-tY es[j] (by unfold yE;rw[hw])];exact(Ct _ _ _ xO).symm
   refine⟨_,_,_,_,_,_,_,_,_,(GC xO).aT hq,λy=>?_⟩;have again:W0 (es.map (·.nd)) es[j].nd=es[j].nd->∃j':Nat,(j:Int)+1=j'/\j'<=es.length/\HP.aT q (C9 a es.length c ((es.map (yE (es.map (·.nd)))).take j'++es.drop j')):=λhw=>⟨j+1,by omega,by omega,by rw[<-ajf hw];exact hq⟩;refine⟨λhk=>⟨_,(GB b _ _).aT hp,λhe=>⟨_,(GB b _ _).aT hp,?_⟩,λhe=>⟨bh _ (by omega) (by omega),λ_=>⟨again ?_,by dsimp only;omega⟩⟩⟩,λhk=>⟨bh _ (by omega) (by omega),λ_=>⟨again ?_,by dsimp only;omega⟩⟩⟩
   ·rw[OC]at he;refine(stO xO hall _).bv (hq.trans (.of λ_ _=>aD)) λv=>.of λR h H=>?_;obtain⟨rfl,H1⟩:=ai H;refine⟨_,rfl,⟨bh _ (by omega) (by omega),λ_=>⟨⟨j+1,by omega,by omega,?_⟩,by dsimp only;omega⟩⟩,H1⟩;rw[tY _ (by unfold yE Ps W0;rw[aB ⟨hk,he⟩])];exact HP.aT.refl _
   ·rw[OC]at he;unfold W0;rw[aq (λh=>he h.2)]
   ·unfold W0;rw[aq (λh=>hk h.1)]
  ·obtain rfl:j=es.length:=by omega
   refine hq.trans (.of λR h H=>⟨trivial,es.map (yE (es.map (·.nd))),⟨?_,by simp⟩,?_⟩)
   ·rw[List.map_map];unfold YL;rw[List.map_map];rfl
   ·rw[List.take_of_length_le (by simp),List.drop_length,List.append_nil]at H;exact H
def W1(t:TypeId)(u v:Value):Sem Next:=do pure (.value (<-Instr.indexAt t u v))
theorem aaB{t ty:TypeId}{i j:Nat}{u v:Value}(h:i≠j):bZ (.indexAddr t (.tmp i) (.tmp j)) ty [(i,u),(j,v)]=W1 t u v:=by
 have h':(i==j)=false:=by simpa using h
 simp[bZ,execOp,lW,h',W1]
theorem anX{t el:TypeId}{n:Nat}(ht:prog.underlying t=some (.array n el))(hi:(prog.info? el).isSome=true)(hz:iA prog el=1){b k:Nat}{x:Int}(hx:x=k)(hk:k<n){A:HP}:
 aM prog (W1 t (pt b) (an x)) A (.pointer (some ⟨b,k,none⟩)):=λw R h F s _=>by
 obtain⟨i,hi⟩:=Option.isSome_iff_exists.1 hi;subst hx;unfold W1;rw[Sem.run_bind,RX.run_indexAt_array ht hi (by omega) (by omega),hz];simp[addr_add]
def Ar(e:TypeId)(b:Nat)(vs:List Value):HP:=HP.one b (.cells vs.toArray e (0,0))
theorem Ar.rd{e:TypeId}{b:Nat}{vs:List Value}:Rd (Ar e b vs) (some ⟨b,0,none⟩) vs:=λw R h F s H j u hj=>by
 refine⟨b,0,rfl,?_⟩;have:=s.oh b _ H;rw[mV this];simpa using hj
theorem anY{t e:TypeId}{d:TypeDesc}(hd:prog.underlying t=some d)(ha:gZ prog t=false)(hz:iA prog t=1){b k:Nat}{vs:List Value}{v:Value}(hk:vs[k]? =some v):
 aM prog (bO t (.pointer (some ⟨b,k,none⟩))) (Ar e b vs) v:=by
 have:=cU hd ha hz (Ar.rd (e:=e) (b:=b) (vs:=vs)) (k:=k) (off:=0) (by simpa using hk);simpa[addr_add]using this
theorem anZ{t e:TypeId}{i:TypeInfo}(hi:prog.info? t=some i)(hz:i.size=1){b k:Nat}{vs:List Value}{x:Value}(hx:x.cells= #[x])(h1:x.oneCell'=true)(hk:k<vs.length):
 aR prog (cv t (.pointer (some ⟨b,k,none⟩)) x) (Ar e b vs) (λv=>aA (v=cE) (Ar e b (vs.set k x))):=by
 have:=g9 hi e b vs.toArray k x [x] (by rw[hx]) (by simp[hz]) (by simp) (by simpa using h1) (by simp;omega) (by unfold maxLen;omega);refine this.wk ?_;rintro v R h ⟨rfl,H⟩;refine⟨rfl,?_⟩;unfold Ar;rw[List.set_eq_take_append_cons_drop,aB hk];simpa using H
def Tw(m:Nat)(f:Nat->Value):List Value:=(List.range m).map f
theorem GD{m:Nat}{f:Nat->Value}{k:Nat}(h:k<m):(Tw m f)[k]? =some (f k):=by
 unfold Tw;rw[List.getElem?_map,List.getElem?_range h];rfl
theorem Ao(m:Nat)(f:Nat->Value):(Tw m f).length=m:=by simp[Tw]
theorem aaC{m:Nat}{f:Nat->Value}{k:Nat}{v:Value}(h:k<m):(Tw m f).set k v=Tw m λj=>if j=k then v else f j:=by
 refine List.ext_getElem? λj=>?_;rw[List.getElem?_set,Ao]
 by_cases hj:j<m
 ·rw[GD hj,GD hj]
  by_cases e:k=j
  ·subst e;rw[aB rfl,aB h,aB rfl]
  ·rw[aq e,aq (Ne.symm e)]
 ·rw[List.getElem?_eq_none (by rw[Ao];omega)]
  by_cases e:k=j
  ·omega
  ·rw[aq e,List.getElem?_eq_none (by rw[Ao];omega)]
theorem Sn{m:Nat}{f g:Nat->Value}(h:∀j<m,f j=g j):Tw m f=Tw m g:=List.map_congr_left λj hj=>h j (List.mem_range.1 hj)
def W2:Nm->List (Nm×Nat)->Bool
 |_,[]=>true
 |js,e::r=>dm e.1&&decide (js<e.1)&&W2 e.1 r
def iy(n:Nd):Bool:=if n.kind=1 then decide (n.data=[])&&decide (n.bo=1)&&W2 [] n.ay else if n.kind=2 then decide (n.data.length<=512)&&decide (n.ay=[])else false
theorem ae8{t ty u:TypeId}{i j:Nat}(h:i≠j)(hg:prog.eqGuardType prog.depth t=false){x y:ax}{A:HP}:
 aM prog (bZ (.binOp .leq t (.tmp i) (.tmp j) u) ty [(i,.string ⟨x.toArray⟩),(j,.string ⟨y.toArray⟩)]) A (.bool (!decide (y<x))):=λw R hh F st _=>by
 have h':(i==j)=false:=by simpa using h
 simp only[bZ,execOp,lW,List.find?_cons,beq_self_eq_true,h'];have:Op.bytesLess y x=decide (y<x):=bytesLess_eq y x;have ajg:Op.bytesLess x y=decide (x<y):=bytesLess_eq x y
 have e:(Op.bytesLess x y||x==y)= !decide (y<x):=by
  rw[ajg]
  by_cases h:y<x
  ·have h1:¬x<y:=List.lt_asymm h;have h2:x≠y:=λe=>by subst e;exact h1 h
   simp[h,h1,h2]
  ·rcases List.le_iff_lt_or_eq.1 (show x<=y from h)with h1|h1
   ·simp[h,h1]
   ·subst h1;simp[h]
 simp[eqGuard,binOp,Op.stringOp,hg,program,Sem.run_bind,Sem.run,Result.andThen,e]
theorem M3:∀ {js:Nm} {l:List (Nm×Nat)},W2 js l=true->(∀e∈l,js<e.1)/\(l.map (·.1)).Pairwise (· < ·)/\∀e∈l,dm e.1=true
 |_,[],_=>⟨λ_ h=>(by cases h),List.Pairwise.nil,λ_ h=>(by cases h)⟩
 |js,e::r,h=>by
  unfold W2 at h;simp only[Bool.and_eq_true,decide_eq_true_eq]at h;obtain⟨⟨h1,h2⟩,h3⟩:=h;obtain⟨g1,g2,g3⟩:=M3 h3;refine⟨λx hx=>?_,?_,λx hx=>?_⟩
  ·rcases List.mem_cons.1 hx with rfl|hx
   ·exact h2
   ·exact List.lt_trans h2 (g1 x hx)
  ·rw[List.map_cons,List.pairwise_cons];exact⟨λy hy=>by obtain⟨x,hx,rfl⟩:=List.mem_map.1 hy;exact g1 x hx,g2⟩
  ·rcases List.mem_cons.1 hx with rfl|hx
   ·exact h1
   ·exact g3 x hx
theorem ED{l:List Nm}(h:l.Pairwise (· < ·)):l.Nodup:=h.imp λ{a b} hab e=>by subst e;exact List.lt_irrefl a hab
theorem ae9{l:List (Nm×Nat)}(h:(l.map (·.1)).Nodup)(k:Nm):lk l.reverse k=lk l k:=by
 have hr:(l.reverse.map (·.1)).Nodup:=by rw[List.map_reverse];exact(List.reverse_perm _).symm.nodup h
 cases e:lk l k with
 |some n=>
  have:=nq hr (List.mem_reverse.2 (gL e));exact this
 |none=>
  cases e2:lk l.reverse k with
  |none=>rfl
  |some n=>
   have:=nq h (List.mem_reverse.1 (gL e2));dsimp only at this;rw[e]at this;cases this
theorem aaD(mb:Nat)(es:List (Nm×Nat))(e:Nm×Nat):aR prog (kK 208 (.map (some mb)) (sE e.1) (an e.2)) (mD mb es) (λv=>aA (v=cE) (mD mb (e::es))):=by
 refine Lx λl=>Lx λc=>yZ λ⟨hI,hk⟩=>?_;refine(o6 (r:=mb) (l:=l) (c:=c) Jz wP e.1 (an e.2)).wk ?_;rintro v R h ⟨rfl,H⟩;refine⟨rfl,_,_,⟨hI.put e.1 _,λq=>?_⟩,H⟩;rw[i7,hk];rw[show lk (e::es) q=if q=e.1 then some e.2 else lk es q from rfl]
 by_cases he:q=e.1
 ·rw[aB he,aB he];rfl
 ·rw[aq he,aq he]
def W3(x:dh)(v:Value):HP:=aE λy:HN=>aA (y.p=x.nd/\v=if iy x.nd=true then pt y.nb else .pointer none) (if iy x.nd=true then dK y else tt)
theorem Sp(x:dh)(hn:x.nd.ay.length<=1000000000):az prog 310 #[.agg (eW x).toArray] (aj (bE x.da x.nd.data.length x.nd.data) (Ls tO x.ea x.nd.ay.length x.nd.ay)) (W3 x):=by
 refine az.cM (φ:=(x.nd.data.length≠0->x.da.isSome=true)/\(x.nd.ay.length≠0->x.ea.isSome=true)) (λR h H=>⟨λhn=>bN.some (ai H) (by omega),λhn=>Ls.isSome (ah H) hn⟩) λ⟨U0,hea⟩=>?_;refine ao (ρ:=[.i x.nd.num,.i x.nd.kind,.i x.nd.bo,.a x.da,.n x.nd.data.length,.n x.dc,.p (bE x.da x.nd.data.length x.nd.data),.a x.ea,.n x.nd.ay.length,.n x.ec,.p (Ls tO x.ea x.nd.ay.length x.nd.ay)]) {hv:=[(1,[(.b 12)])],aF:=[184,311,286]} [(.agg [0,1,2,(.s 3),(.s 7)])] ae3 11 ?_;have bad:∀ {A:HP},iy x.nd=false->HP.aT A (W3 x (.pointer none)):=λh=>.of λR hh H=>⟨⟨x.nd,0,0,none,0⟩,⟨rfl,by rw[h];simp⟩,by rw[h];trivial⟩;intro u;refine⟨λk1=>?_,λk1=>⟨λk2=>?_,λk2=>?_⟩⟩
 ·have k1':x.nd.kind=1:=k1;refine⟨λhd=>bad ?_,λhd=>⟨λhl=>bad ?_,λhl=>?_⟩⟩
  ·unfold iy;rw[aB k1'];have:x.nd.data≠[]:=λe=>by rw[e]at hd;simp at hd
   simp[this]
  ·unfold iy;rw[aB k1'];simp[hl]
  ·refine Gs.wk ?_;rintro v R h ⟨nb,mb,rfl,H⟩;refine⟨nb,_,rfl,?_,H⟩;clear H;have rE:x.nd.data=[]:=List.eq_nil_of_length_eq_zero (by omega);have Cu:iy x.nd=W2 [] x.nd.ay:=by unfold iy;rw[aB k1',rE,hl];simp
   refine⟨λ_ _ js k p=>∃i:Nat,k=i/\i<=x.nd.ay.length/\W2 [] x.nd.ay=W2 js (x.nd.ay.drop i)/\HP.aT p (aj (HP.one nb (.cells #[an 1,an 1,.slice none 0 0,.map (some mb)] 210 (0,0))) (mD mb (x.nd.ay.take i).reverse)),
    λ_ _ _ k _=>x.nd.ay.length - k.toNat,⟨0,rfl,Nat.zero_le _,by simp,HP.aT.refl _⟩,?_⟩
   rintro v q js k p ⟨i,rfl,hi,hok,hp⟩;refine⟨λhlt=>⟨by omega,λ_=>⟨hea (by omega),λ_=>?_⟩⟩,λlH=>?_⟩
   ·have gP:i<x.nd.ay.length:=by omega
    have zE:W2 js (x.nd.ay.drop i)=(dm x.nd.ay[i].1&&decide (js<x.nd.ay[i].1)&&W2 x.nd.ay[i].1 (x.nd.ay.drop (i+1))):=by
     rw[List.drop_eq_getElem_cons gP];rfl
    refine⟨x.nd.ay[i].1,(x.nd.ay[i].2:Int),Ls.load (K:=tO) Tryz.underlying104 Ww aeY (List.getElem?_eq_getElem gP),λz=>?_⟩;refine(Jr x.nd.ay[i].1 tt).wk ?_;rintro w R h ⟨rfl,H⟩;refine⟨_,rfl,⟨λhn=>bad ?_,λhn=>⟨_,ae8 (by decide) (by kernel_rfl),λhle=>bad ?_,λhle=>?_⟩⟩,H⟩
    ·rw[Cu,hok,zE];simp[hn]
    ·rw[Cu,hok,zE];simp at hle;simp[List.not_lt.2 hle]
    ·have Lv:js<x.nd.ay[i].1:=by simpa using hle
     refine⟨mb,aM.aT hp (Vq (λR h H=>ai H) wP (by kernel_rfl) (by kernel_rfl) rfl),?_⟩;refine(aaD mb (x.nd.ay.take i).reverse x.nd.ay[i]).bv (hp.trans (.of λ_ _=>ak)) λw=>.of λR h H=>?_;obtain⟨rfl,_⟩:=ai H;refine⟨_,rfl,⟨bh _ (by omega) (by omega),λ_=>⟨⟨i+1,by omega,by omega,?_,?_⟩,by dsimp only;omega⟩⟩,ak (ae H (λ_ h=>h.2) λ_ h=>h)⟩
     ·rw[hok,zE,hn];simp[Lv]
     ·rw[List.take_succ_eq_append_getElem gP,List.reverse_append];exact HP.aT.refl _
   ·obtain rfl:i=x.nd.ay.length:=by omega
    rw[List.drop_length]at hok;have hg:iy x.nd=true:=by rw[Cu,hok];rfl
    rw[List.take_length]at hp;refine(HP.aT.of λR h H=>ah (ah H)).trans (hp.trans (.of λR h H=>⟨⟨x.nd,nb,mb,none,0⟩,⟨rfl,by rw[hg];rfl⟩,?_⟩));rw[aB hg];have iZ:=ED (M3 (Cu.symm.trans hg)).2.1;refine ae H (λy hy=>?_) λy hy=>?_
    ·show y nb=_;rw[k1',hl,rE];unfold HN.gK;rw[aB k1'];exact hy
    ·refine ae (aW hy) (λz _=>?_) λz hz=>?_
     ·show(dS none x.nd.data.length 0 x.nd.data).p R z;rw[rE];exact bY.nil _ _ R z
     ·unfold sB;rw[aB k1'];obtain⟨l,c,⟨hI,hk⟩,hz⟩:=hz;exact⟨l,c,⟨hI,λk=>by rw[hk,ae9 iZ]⟩,hz⟩
 ·have k2':x.nd.kind=2:=k2;have Ha:¬x.nd.kind=1:=k1;refine⟨λhd=>bad ?_,λhd=>⟨λhe=>bad ?_,λhe=>?_⟩⟩
  ·unfold iy;rw[aq Ha,aB k2'];simp;omega
  ·unfold iy;rw[aq Ha,aB k2'];have:x.nd.ay≠[]:=λe=>by rw[e]at he;simp at he
   simp[this]
  ·have he0:x.nd.ay=[]:=List.eq_nil_of_length_eq_zero (by omega);have hg:iy x.nd=true:=by unfold iy;rw[aq Ha,aB k2',he0];simp;omega
   refine(iC _ x.da _ x.dc x.nd.data (bX.ro _ _ _ _) rfl (by omega)).wk ?_;rintro v R h ⟨a',c',rfl,H⟩;refine⟨a',_,c',_,_,rfl,λnb=>.of λR h H=>?_,H⟩;refine⟨⟨x.nd,nb,0,a',c'⟩,⟨rfl,by rw[hg];rfl⟩,?_⟩;rw[aB hg];refine ae (ah (ah H)) (λy hy=>?_) λy hy=>?_
   ·show y nb=_;rw[k2'];unfold HN.gK;rw[aq Ha];exact hy
   ·refine ae (aD hy) (λz hz=>hz) λz _=>?_;unfold sB;rw[aq Ha];exact he0
 ·exact bad (by unfold iy;rw[aq k1,aq k2])
theorem Ap{i:Nat}{t u ty:TypeId}{e:TypeId}{p:aG}{A:HP}(hg:prog.eqGuardType prog.depth t=false)(hu:prog.underlying t=some (.pointer e)):aM prog (bZ (.binOp .eql t (.tmp i) (.const (.pointer none)) u) ty [(i,.pointer p)]) A (.bool p.isNone):=λw R hh F s _=>by
 have he:(Op.equal t (.pointer p) (.pointer none)).run prog w=.ok p.isNone w:=RX.gh λn=>by cases p<;>simp[Op.equalIn,RX.run_underlying hu]
 have:=(iX (P:=prog) (w:=w) (.inl ⟨_,rfl⟩) he).1;simp only[bZ,execOp,lW,List.find?_cons,beq_self_eq_true,Option.map_some,Option.getD_some];simp[eqGuard,hg,program,Sem.run_bind,this]
def KX:Int->List Nd->Bool
 |_,[]=>true
 |js,n::r=>decide (js<n.num)&&decide (n.num<64)&&iy n&&KX n.num r
def M4(mb:Nat)(ns:List HN):HP:=aj (wO ⟨mb,ns⟩) (cw (ns.map dK))
theorem M4.init{mb:Nat}{R h:PH}(H:(HP.one mb (.map #[] 0)).p R h):(M4 mb []).p R h:=aD ⟨[],0,⟨fC.nil 0,λ_=>rfl⟩,H⟩
theorem Cv(y:HN):∀ns:List HN,(∀z∈ns,z.p.num<y.p.num)->wR y ns=ns++[y]
 |[],_=>rfl
 |z::r,h=>by
  unfold wR;rw[aB (h z List.mem_cons_self),Cv y r λq hq=>h q (List.mem_cons_of_mem _ hq)];rfl
theorem an0(mb:Nat)(ns:List HN)(y:HN):aR prog (kK 185 (.map (some mb)) (an y.p.num) (pt y.nb)) (aj (M4 mb ns) (dK y)) (λv=>aA (v=cE) (M4 mb (wR y ns))):=by
 have o:aR prog (kK 185 (.map (some mb)) (an y.p.num) (pt y.nb)) (wO ⟨mb,ns⟩) (λv=>aA (v=cE) (wO ⟨mb,wR y ns⟩)):=by
  refine Lx λl=>Lx λc=>yZ λ⟨hI,hk⟩=>?_;refine(o6 (r:=mb) (l:=l) (c:=c) B3 zu (y.p.num:Int) (pt y.nb)).wk ?_;rintro v R h ⟨rfl,H⟩;refine⟨rfl,_,_,⟨hI.put (y.p.num:Int) _,λq=>?_⟩,H⟩;rw[i7,hk];exact(yv y q ns).symm
 refine(o.frame (aj (cw (ns.map dK)) (dK y))).aK (λR h H=>au H) ?_;rintro v R h ⟨h1,h2,d,l1,l2,⟨e,H⟩,HR⟩;refine⟨e,h1,h2,d,l1,l2,H,?_⟩;exact pR ((qc y ns).symm.map dK) (cQ.2 (ak HR))
def lQ(wv:List Nd->Bool)(T1:List Nd):Bool:=decide (T1.length<=64)&&KX (-1) T1&&wv T1
def W4(wv:List Nd->Bool)(a:aG)(c:Nat)(es:List dh)(v:Value):HP:=aE λb:Nat=>aE λt:TS=>
 aA ((v=if lQ wv (es.map (·.nd))=true then .tuple #[pt b,an 0]else .tuple #[.pointer none,an 3])/\(lQ wv (es.map (·.nd))=true->t.aS=es.map (·.nd)))
  (aj (C9 a es.length c es) (if lQ wv (es.map (·.nd))=true then aU b t else tt))
theorem aaE(wv:List Nd->Bool)(hw:∀b t,KX (-1) t.aS=true->(∀n∈t.aS,n.ay.length<=1000000000)->az prog 311 #[pt b] (aU b t) (λv=>aA (v=.bool (wv t.aS)) (aU b t)))
 (a:aG) (c:Nat) (es:List dh) (hn:es.length<=1000000000) (he:∀x∈es,x.nd.ay.length<=1000000000):
 az prog 287 #[.slice a es.length c] (C9 a es.length c es) (W4 wv a c es):=by
 refine az.cM (φ:=es.length≠0->a.isSome=true) (λR h H hn=>bY.some H.1 (by omega)) λha=>?_;refine ao (ρ:=[.a a,.n es.length,.n c,.p (C9 a es.length c es)]) {fk:=[183],hv:=[(0,[(.b 4),(.a 0)])]} [(.s 0)] [(0,3)] 4 ?_;have bad:∀ {A:HP},HP.aT A (C9 a es.length c es)->lQ wv (es.map (·.nd))=false->HP.aT A (W4 wv a c es (.tuple #[.pointer none,an 3])):=λhA h=>hA.trans (.of λR hh H=>⟨0,⟨0,[]⟩,⟨by rw[h];simp,λe=>by rw[h]at e;cases e⟩,by rw[h];exact aD H⟩)
 refine⟨λh64=>bad (HP.aT.refl _) (by unfold lQ;have:¬es.length<=64:=by omega
                                     simp[this]),λh64=>?_⟩
 have an1:es.length<=64:=by omega
 intro mb tb
 refine⟨λ_ _ _ js k pm pn=>∃(j:Nat) (ns:List HN),k=j/\j<=es.length/\ns.map (·.p)=(es.map (·.nd)).take j/\KX (-1) (es.map (·.nd))=KX js ((es.map (·.nd)).drop j)/\HP.aT pm (M4 mb ns)/\HP.aT pn (C9 a es.length c es)/\∀z∈ns,(z.p.num:Int)<=js,
  λ_ _ _ _ k _ _=>es.length - k.toNat,⟨0,[],rfl,Nat.zero_le _,rfl,rfl,.of λR h H=>M4.init H,HP.aT.refl _,λ_ h=>by cases h⟩,?_⟩
 rintro v q e0 js k pm pn ⟨j,ns,rfl,hj,hns,hok,hpm,hpn,aji⟩;refine⟨λhlt=>⟨by omega,λ_=>⟨ha (by omega),λ_=>?_⟩⟩,λlH=>?_⟩
 ·have gP:j<es.length:=by omega
  have MM:j<(es.map (·.nd)).length:=by simpa using gP
  have hg:(es.map (·.nd))[j]=es[j].nd:=by simp
  have zE:KX js ((es.map (·.nd)).drop j)=(decide (js<es[j].nd.num)&&decide (es[j].nd.num<64)&&iy es[j].nd&&KX es[j].nd.num ((es.map (·.nd)).drop (j+1))):=by
   rw[List.drop_eq_getElem_cons MM,hg];rfl
  have fl:∀ {B:Bool},KX js ((es.map (·.nd)).drop j)=false->lQ wv (es.map (·.nd))=false:=λh=>by unfold lQ;rw[hok,h];simp
  refine⟨_,_,_,_,_,_,_,_,_,(GC (List.getElem?_eq_getElem gP)).aT hpn,λy=>⟨λh1=>bad hpn (fl (B:=true) ?_),λh1=>⟨λh2=>bad hpn (fl (B:=true) ?_),λh2=>?_⟩⟩⟩
  ·rw[zE];have:¬js<(es[j].nd.num:Int):=by omega
   simp[this]
  ·rw[zE];have:¬es[j].nd.num<64:=by omega
   simp[this]
  ·refine(Sp es[j] (he _ (List.getElem_mem gP))).bv (K:=C9 a es.length c es) (hpn.trans (.of λR h H=>?_)) λv=>.of λR h H=>?_
   ·have hx:=hY _ R h PH.cV (H.2 _ (List.getElem_mem gP));exact⟨PH.cV,h,PH.eL _,PH.dB _,PH.le.refl _,⟨PH.cV,PH.cV,PH.eC _,PH.le.refl _,PH.le.refl _,hx.1,hx.2⟩,H⟩
   ·obtain⟨y1,y2,d,l1,l2,⟨yn,⟨hyp,hv⟩,hN⟩,hO⟩:=H
    by_cases UJ:iy es[j].nd=true
    ·rw[aB UJ]at hv hN;subst hv;refine⟨pt yn.nb,dK yn,C9 a es.length c es,rfl,⟨false,Ap (by kernel_rfl) Wj,λh=>(by cases h),λ_=>?_⟩,y1,y2,d,l1,l2,hN,hO⟩;have DB:es[j].nd.num=yn.p.num:=by rw[hyp]
     rw[DB];refine(an0 mb ns yn).bv ((HP.aT.aj hpm _).trans (.of λ_ _=>aD)) λv=>.of λR h H=>?_;obtain⟨rfl,H1⟩:=ai H;have hall:∀z∈ns,z.p.num<yn.p.num:=λz hz=>by have:=aji z hz;omega
     refine⟨_,rfl,⟨bh _ (by omega) (by omega),λ_=>⟨⟨j+1,wR yn ns,by omega,by omega,?_,?_,HP.aT.refl _,HP.aT.refl _,?_⟩,by dsimp only;omega⟩⟩,H1⟩
     ·rw[Cv yn ns hall,List.map_append,hns,List.take_succ_eq_append_getElem MM,hg,<-hyp];rfl
     ·have a1:js<(es[j].nd.num:Int):=by omega
      have a2:es[j].nd.num<64:=by omega
      rw[hok,zE,UJ,<-DB];simp[a1,a2]
     ·intro z hz;rw[Cv yn ns hall]at hz;rcases List.mem_append.1 hz with hz|hz
      ·have:=hall z hz;omega
      ·obtain rfl:=List.mem_singleton.1 hz;omega
    ·rw[aq UJ]at hv;subst hv;refine⟨.pointer none,tt,C9 a es.length c es,rfl,⟨true,Ap (by kernel_rfl) Wj,λ_=>bad (HP.aT.refl _) (fl (B:=true) ?_),λh=>absurd rfl h⟩,aW ((C9 a es.length c es).mono (PH.le.refl _) l2 hO)⟩;rw[zE];simp[UJ]
 ·obtain rfl:j=es.length:=by omega
  have e0:(es.map (·.nd)).take es.length=es.map (·.nd):=List.take_of_length_le (by simp);have e1:(es.map (·.nd)).drop es.length=[]:=List.drop_eq_nil_of_le (by simp);rw[e0]at hns;rw[e1]at hok;have ajj:KX (-1) (es.map (·.nd))=true:=by rw[hok];rfl
  have aaF:TS.aS ⟨mb,ns⟩=es.map (·.nd):=hns;have hlo:lQ wv (es.map (·.nd))=wv (es.map (·.nd)):=by unfold lQ;rw[ajj];simp[an1]
  refine(hw tb ⟨mb,ns⟩ (by rw[aaF];exact ajj) (λn hn=>by rw[aaF]at hn;obtain⟨x,hx,rfl⟩:=List.mem_map.1 hn;exact he x hx)).bv (K:=tt) ((HP.aT.gX (HP.aT.refl _) hpm).trans (.of λR h H=>aD H)) λv=>.of λR h H=>?_;obtain⟨rfl,H1⟩:=ai H;rw[aaF];refine⟨wv (es.map (·.nd)),mb,M4 mb ns,rfl,⟨λh=>bad hpn (by rw[hlo];simpa using h),λh=>(HP.aT.aj hpn _).trans (.of λR h' H=>⟨tb,⟨mb,ns⟩,⟨by rw[hlo,h];simp,λ_=>aaF⟩,?_⟩)⟩,H1⟩;rw[hlo,h];exact H
def Step(T:List Nd)(d:Nat)(nm:Nm)(k:Nat):Prop:=∃n,nodeAt T d=some n/\n.kind=1/\lk n.ay nm=some k
theorem Step.det{T:List Nd}{d:Nat}{nm:Nm}{k j:Nat}(h:Step T d nm k)(g:Step T d nm j):k=j:=by
 obtain⟨n,h1,_,h3⟩:=h;obtain⟨m,g1,_,g3⟩:=g;rw[h1]at g1;cases g1;rw[h3]at g3;cases g3;rfl
theorem jt{T:List Nd}{a:Nat}{l:List Nm}{nm:Nm}{k:Nat}:dL T a (l++[nm])=(k,0)↔∃d,dL T a l=(d,0)/\Step T d nm k:=by
 rw[tE];constructor
 ·intro h;split at h
  ·rename_i h0;obtain⟨n,h1,h2,h3⟩:=B9 h;exact⟨_,Prod.ext rfl h0,n,h1,h2,h3⟩
  ·rename_i h0;rw[h]at h0;exact absurd rfl h0
 ·rintro⟨d,h1,n,h2,h3,h4⟩;rw[h1];simp[dL,h2,h3,h4]
theorem Cw{T:List Nd}{a:Nat}{l m:List Nm}{k:Nat}(h:dL T a (l++m)=(k,0)):∃d,dL T a l=(d,0)/\dL T d m=(k,0):=by
 rw[tE]at h;split at h
 ·rename_i h0;exact⟨_,Prod.ext rfl h0,h⟩
 ·rename_i h0;rw[h]at h0;exact absurd rfl h0
inductive qo(T:List Nd):Nat->Prop where
 |root:qo T 0
 |step {d k:Nat} {w:Nm}:qo T d->Step T d w k->qo T k
theorem aaG{T:List Nd}:∀(N:Nat) (l:List Nm) (j:Nat),l.length<=N->dL T 0 l=(j,0)->qo T j:=by
 intro N
 induction N with
 |zero=>
  intro l j hl h;obtain rfl:=List.length_eq_zero_iff.1 (Nat.le_zero.1 hl);cases h;exact .root
 |succ N ih=>
  intro l j hl h;rcases List.eq_nil_or_concat l with rfl|⟨l',a,rfl⟩
  ·cases h;exact .root
  ·rw[List.concat_eq_append]at h hl;obtain⟨d,h1,h2⟩:=jt.1 h;exact .step (ih l' d (by simp at hl;omega) h1) h2
theorem qo.of{T:List Nd}{l:List Nm}{j:Nat}(h:dL T 0 l=(j,0)):qo T j:=aaG l.length l j (Nat.le_refl _) h
theorem sM{l:List (Nm×Nat)}{d:Nat}{a:Nm}(h:(a,d)∈l):1<=dQ l d:=by
 unfold dQ;have:0<l.countP λe=>decide (e.2=d):=List.countP_pos_iff.2 ⟨_,h,by simp⟩;omega
theorem J6{d:Nat}{a c:Nm}(hac:a≠c):∀ {l:List (Nm×Nat)},(a,d)∈l->(c,d)∈l->2<=dQ l d
 |[],h,_=>by cases h
 |y::r,h,g=>by
  have hc:dQ (y::r) d=dQ r d+if y.2=d then 1 else 0:=by unfold dQ;rw[List.countP_cons];simp
  rcases List.mem_cons.1 h with rfl|h1
  ·rcases List.mem_cons.1 g with e|g1
   ·injection e with e _;exact absurd e.symm hac
   ·have:=sM g1;rw[hc];simp;omega
  ·rcases List.mem_cons.1 g with rfl|g1
   ·have:=sM h1;rw[hc];simp;omega
   ·have:=J6 hac h1 g1;rw[hc];omega
theorem xe{n:Nd}{k:Nat}:∀ {T:List Nd},n∈T->dQ n.ay k<=refs T k
 |[],h=>by cases h
 |y::r,h=>by
  rw[iD];rcases List.mem_cons.1 h with rfl|h
  ·omega
  ·have:=xe (k:=k) h;omega
theorem J7{n m:Nd}{k:Nat}(hnm:n≠m):∀ {T:List Nd},n∈T->m∈T->dQ n.ay k+dQ m.ay k<=refs T k
 |[],h,_=>by cases h
 |y::r,h,g=>by
  rw[iD];rcases List.mem_cons.1 h with rfl|h1
  ·rcases List.mem_cons.1 g with rfl|g1
   ·exact absurd rfl hnm
   ·have:=xe (k:=k) g1;omega
  ·rcases List.mem_cons.1 g with rfl|g1
   ·have:=xe (k:=k) h1;omega
   ·have:=J7 (k:=k) hnm h1 g1;omega
theorem aaH{B:Nat}{T:List Nd}(wf:ey B T){d p q:Nat}{a c:Nm}{x:Nd}(hx:nodeAt T d=some x)(hk:x.kind=1)(h:Step T p a d)(g:Step T q c d):p=q/\a=c:=by
 obtain⟨n,h1,_,h3⟩:=h;obtain⟨m,g1,_,g3⟩:=g;obtain⟨hn,hnn,hnm⟩:=wf.at' h1;obtain⟨hm,hmn,hmm⟩:=wf.at' g1;have rE:d≠0:=(hn.name _ (gL h3)).2;have hc:=wf.wV hx rE
 have hl:x.bo=1:=by
  rcases(wf.at' hx).1.kind with⟨_,_,h⟩|⟨h,_⟩
  ·exact h
  ·rw[hk]at h;cases h
 have h2:refs T d=1:=by omega
 by_cases e:n=m
 ·subst e;refine⟨by omega,Classical.byContradiction λhac=>?_⟩;have:=J6 hac (gL h3) (gL g3);have:=xe (k:=d) hnm;omega
 ·have:=J7 (k:=d) e hnm hmm;have:=sM (gL h3);have:=sM (gL g3);omega
theorem W5{B:Nat}{T:List Nd}(wf:ey B T):∀(N:Nat) (l m:List Nm) (d:Nat) (x:Nd),l.length<=N->nodeAt T d=some x->x.kind=1->dL T 0 l=(d,0)->dL T 0 m=(d,0)->l=m:=by
 have zero:∀(l:List Nm) (a:Nm),dL T 0 (l++[a])≠(0,0):=λl a h=>by
  obtain⟨d,_,n,h1,_,h3⟩:=jt.1 h;exact((wf.at' h1).1.name _ (gL h3)).2 rfl
 intro N
 induction N with
 |zero=>
  intro l m d x hl hx hk h g;obtain rfl:=List.length_eq_zero_iff.1 (Nat.le_zero.1 hl);cases h;rcases List.eq_nil_or_concat m with rfl|⟨m',c,rfl⟩
  ·rfl
  ·rw[List.concat_eq_append]at g;exact absurd g (zero m' c)
 |succ N ih=>
  intro l m d x hl hx hk h g;rcases List.eq_nil_or_concat l with rfl|⟨l',a,rfl⟩
  ·cases h;rcases List.eq_nil_or_concat m with rfl|⟨m',c,rfl⟩
   ·rfl
   ·rw[List.concat_eq_append]at g;exact absurd g (zero m' c)
  ·rw[List.concat_eq_append]at h hl⊢;rcases List.eq_nil_or_concat m with rfl|⟨m',c,rfl⟩
   ·cases g;exact absurd h (zero l' a)
   ·rw[List.concat_eq_append]at g⊢;obtain⟨p,h1,h2⟩:=jt.1 h;obtain⟨q,g1,g2⟩:=jt.1 g;obtain⟨rfl,rfl⟩:=aaH wf hx hk h2 g2;obtain⟨y,hy,hyk,_⟩:=h2;rw[ih l' m' p y (by simp at hl;omega) hy hyk h1 g1]
theorem qp{B:Nat}{T:List Nd}(wf:ey B T){l m:List Nm}{d:Nat}{x:Nd}(hx:nodeAt T d=some x)(hk:x.kind=1)(h:dL T 0 l=(d,0))(g:dL T 0 m=(d,0)):l=m:=
 W5 wf l.length l m d x (Nat.le_refl _) hx hk h g
theorem J8{nm:Nm}{k:Nat}:∀ {l:List (Nm×Nat)},lk l nm=none->bb nm (de nm k l)=l
 |[],_=>by simp[de,bb]
 |y::r,h=>by
  unfold lk at h;split at h
  ·cases h
  ·rename_i hne;have hd:bb nm (y::r)=y::bb nm r:=by unfold bb;rw[List.filter_cons,aB (by simpa using Ne.symm hne)]
   have ih:=J8 (k:=k) h
   have hr:bb nm r=r:=by
    unfold bb;rw[List.filter_eq_self];intro z hz
    have UF:∀ {l:List (Nm×Nat)},lk l nm=none->∀z∈l,z.1≠nm:=λ{l}=>by
     induction l with
     |nil=>intro _ z hz;cases hz
     |cons w q ihq=>
      intro h z hz;unfold lk at h;split at h
      ·cases h
      ·rename_i hw;rcases List.mem_cons.1 hz with rfl|hz
       ·exact Ne.symm hw
       ·exact ihq h z hz
    simpa using UF h z hz
   unfold de;split
   ·unfold bb at ih⊢;rw[List.filter_cons,aB (by simpa using Ne.symm hne),ih]
   ·have:bb nm ((nm,k)::y::r)=bb nm (y::r):=by unfold bb;rw[List.filter_cons,aq (by simp)]
    rw[this,hd,hr]
theorem J9{nm:Nm}{k:Nat}:∀ {l:List (Nm×Nat)},(l.map (·.1)).Pairwise (· < ·)->lk l nm=some k->de nm k (bb nm l)=l
 |[],_,h=>by cases h
 |y::r,hs,h=>by
  rw[List.map_cons,List.pairwise_cons]at hs;unfold lk at h;split at h
  ·rename_i e;cases h;subst e;have hall:∀z∈r,y.1<z.1:=λz hz=>hs.1 _ (List.mem_map.2 ⟨z,hz,rfl⟩)
   have hd:bb y.1 (y::r)=r:=by
    unfold bb;rw[List.filter_cons,aq (by simp),List.filter_eq_self];intro z hz;have:=hall z hz;simp only[ne_eq,decide_not,Bool.not_eq_eq_eq_not,Bool.not_true,decide_eq_false_iff_not];intro q;rw[q]at this;exact List.lt_irrefl _ this
   rw[hd];cases r with
   |nil=>rfl
   |cons z q=>
    unfold de;rw[aq λhl=>List.lt_irrefl _ (List.lt_trans hl (hall z (by simp)))]
  ·rename_i hne;have hm:=gL h;have hlt:y.1<nm:=hs.1 _ (List.mem_map.2 ⟨_,hm,rfl⟩);have hd:bb nm (y::r)=y::bb nm r:=by unfold bb;rw[List.filter_cons,aB (by simpa using Ne.symm hne)]
   rw[hd];unfold de;rw[aB hlt,J9 hs.2 h]
structure ajk(T:List Nd)(p q:Nm)(T':List Nd):Prop where
 asp:nQ T' q=nQ T p
 gone:(bG T' p).2≠0
 len:T'.length=T.length
 back:ft T' q p=(T,0)
 rch:∀j,qo T j->qo T' j
 an4:T'.map (·.num)=T.map (·.num)
theorem xf{T:List Nd}{u:Nat}{g:List (Nm×Nat)->List (Nm×Nat)}{d:Nat}{nm:Nm}{k:Nat}:Step (bL T u (fE g)) d nm k↔∃n,nodeAt T d=some n/\n.kind=1/\lk (if d=u then g n.ay else n.ay) nm=some k:=by
 unfold Step;rw[cG (dU _)]
 by_cases e:d=u
 ·subst e;simp only[if_true];constructor
  ·rintro⟨n,h1,h2,h3⟩;obtain⟨m,h4,rfl⟩:=Option.map_eq_some_iff.1 h1;exact⟨m,h4,h2,h3⟩
  ·rintro⟨n,h1,h2,h3⟩;exact⟨fE g n,by rw[h1];rfl,h2,h3⟩
 ·simp only[aq e]
theorem M5{T:List Nd}{u1 u2 a:Nat}{o nm:Nm}(hx:∃x,nodeAt T u1=some x/\x.kind=1/\lk x.ay o=some a)(hy:∃y,nodeAt T u2=some y/\y.kind=1/\lk y.ay nm=none)(d:Nat)(w:Nm)(k:Nat):
 Step (bL (bL T u1 (fE (bb o))) u2 (fE (de nm a))) d w k↔(d=u2/\w=nm/\k=a)\/(Step T d w k/\¬(d=u1/\w=o)):=by
 obtain⟨x,x1,x2,x3⟩:=hx;obtain⟨y,y1,y2,y3⟩:=hy;rw[xf]
 have key:(∃n,nodeAt (bL T u1 (fE (bb o))) d=some n/\n.kind=1/\lk (if d=u2 then de nm a n.ay else n.ay) w=some k)↔∃n,nodeAt T d=some n/\n.kind=1/\lk (if d=u2 then de nm a (if d=u1 then bb o n.ay else n.ay)else(if d=u1 then bb o n.ay else n.ay)) w=some k:=by
  rw[cG (dU _)]
  by_cases e:d=u1
  ·subst e;simp only[if_true];constructor
   ·rintro⟨n,h1,h2,h3⟩;obtain⟨m,h4,rfl⟩:=Option.map_eq_some_iff.1 h1;exact⟨m,h4,h2,h3⟩
   ·rintro⟨n,h1,h2,h3⟩;exact⟨fE (bb o) n,by rw[h1];rfl,h2,h3⟩
  ·simp only[aq e]
 rw[key];constructor
 ·rintro⟨n,h1,h2,h3⟩
  by_cases e2:d=u2
  ·rw[aB e2,sD]at h3
   by_cases ew:w=nm
   ·rw[aB ew]at h3;cases h3;exact .inl ⟨e2,ew,rfl⟩
   ·rw[aq ew]at h3;right
    by_cases e1:d=u1
    ·rw[aB e1,oL]at h3
     by_cases eo:w=o
     ·rw[aB eo]at h3;cases h3
     ·rw[aq eo]at h3;exact⟨⟨n,h1,h2,h3⟩,λq=>eo q.2⟩
    ·rw[aq e1]at h3;exact⟨⟨n,h1,h2,h3⟩,λq=>e1 q.1⟩
  ·rw[aq e2]at h3;right
   by_cases e1:d=u1
   ·rw[aB e1,oL]at h3
    by_cases eo:w=o
    ·rw[aB eo]at h3;cases h3
    ·rw[aq eo]at h3;exact⟨⟨n,h1,h2,h3⟩,λq=>eo q.2⟩
   ·rw[aq e1]at h3;exact⟨⟨n,h1,h2,h3⟩,λq=>e1 q.1⟩
 ·rintro(⟨rfl,rfl,rfl⟩|⟨⟨n,h1,h2,h3⟩,hno⟩)
  ·exact⟨y,y1,y2,by rw[aB rfl,sD,aB rfl]⟩
  ·refine⟨n,h1,h2,?_⟩
   have hd:lk (if d=u1 then bb o n.ay else n.ay) w=some k:=by
    by_cases e1:d=u1
    ·rw[aB e1,oL,aq λeo=>hno ⟨e1,eo⟩];exact h3
    ·rw[aq e1];exact h3
   by_cases e2:d=u2
   ·rw[aB e2,sD]
    by_cases ew:w=nm
    ·subst e2;subst ew;rw[y1]at h1;cases h1;rw[y3]at h3;cases h3
    ·rw[aq ew];exact hd
   ·rw[aq e2];exact hd
theorem EE{T T':List Nd}{u1:Nat}{o:Nm}(hs:∀d w k,Step T d w k->¬(d=u1/\w=o)->Step T' d w k):∀(N:Nat) (l:List Nm) (k:Nat),l.length<=N->dL T 0 l=(k,0)->(∀P Q,l=P++o::Q->dL T 0 P≠(u1,0))->dL T' 0 l=(k,0):=by
 intro N
 induction N with
 |zero=>
  intro l k hl h _;obtain rfl:=List.length_eq_zero_iff.1 (Nat.le_zero.1 hl);exact h
 |succ N ih=>
  intro l k hl h hno;rcases List.eq_nil_or_concat l with rfl|⟨l',a,rfl⟩
  ·exact h
  ·rw[List.concat_eq_append]at h hl hno⊢;obtain⟨p,h1,h2⟩:=jt.1 h;refine jt.2 ⟨p,ih l' p (by simp at hl;omega) h1 (λP Q e=>hno P (Q++[a]) (by rw[e];simp)),hs _ _ _ h2 ?_⟩;rintro⟨rfl,rfl⟩;exact hno l' [] (by simp) h1
theorem aaI{B:Nat}{T:List Nd}(wf:ey B T){p q:Nm}(hne:q≠p)(h:(ft T p q).2=0):ajk T p q (ft T p q).1:=by
 unfold ft at h⊢
 by_cases c1:(aV T p).2.2.2≠0
 ·rw[aB c1]at h;exact absurd h c1
 rw[aq c1,aq hne]at h⊢
 by_cases c2:kO q p=true
 ·rw[aB c2]at h;cases h
 rw[aq c2]at h⊢
 by_cases c3:(bj T q).2.2≠0
 ·rw[aB c3]at h;exact absurd h c3
 rw[aq c3];clear h;have c1':(aV T p).2.2.2=0:=by simpa using c1
 have GF:(bj T q).2.2=0:=by simpa using c3
 obtain⟨x,x1,x2,x3,ab,x4,x5,x6,x7,x8⟩:=jr c1';obtain⟨y,y1,y2,y3,y4⟩:=kQ GF
 obtain⟨ab2,z4,z5,z6⟩:∃ab2,gw q=some (ab2,(bj T q).2.1)/\(bG T ab2).1=(bj T q).1/\(bG T ab2).2=0:=by
  unfold bj at GF⊢;cases hs:gw q with
  |none=>rw[hs]at GF;simp at GF
  |some w=>
   obtain⟨ab2,nm⟩:=w;rw[hs]at GF;simp only at GF⊢
   by_cases hc:(bG T ab2).2≠0
   ·rw[aB hc]at GF;exact absurd GF hc
   ·rw[aq hc]at GF⊢;cases hx:nodeAt T (bG T ab2).1 with
    |none=>rw[hx]at GF;simp at GF
    |some x=>
     rw[hx]at GF;simp only at GF⊢
     by_cases hk:x.kind≠1
     ·rw[aB hk]at GF;simp at GF
     ·rw[aq hk]at GF⊢
      by_cases hl:(lk x.ay nm).isSome=true
      ·rw[aB hl]at GF;simp at GF
      ·rw[aq hl];exact⟨ab2,rfl,rfl,by simpa using hc⟩
 clear c1 c3 c1' GF;generalize (aV T p).1=u1 at*;generalize (aV T p).2.1=o at*;generalize (aV T p).2.2.1=a at*;generalize (bj T q).1=u2 at*;generalize (bj T q).2.1=nm at*;obtain⟨L1,s1,s2⟩:=mZ x4;obtain⟨L2,s3,s4⟩:=mZ z4;have w1:dL T 0 L1=(u1,0):=by rw[<-gx s2];exact Prod.ext x5 x6
 have w1o:dL T 0 (L1++[o])=(a,0):=by rw[<-gx s1];exact Prod.ext x7 x8
 have w2:dL T 0 L2=(u2,0):=by rw[<-gx s4];exact Prod.ext z5 z6
 have nin:∀Q,L2≠L1++o::Q:=λQ e=>c2 (by
  unfold kO;rw[s3,s1,e]
  have:(L1++o::Q++[nm]).take (L1++[o]).length=L1++[o]:=by
   rw[show L1++o::Q++[nm]=(L1++[o])++(Q++[nm]) by simp,List.take_left]
  simp only[this];simp)
 have Ka:=M5 (T:=T) (u1:=u1) (u2:=u2) (a:=a) (o:=o) (nm:=nm) ⟨x,x1,x2,x3⟩ ⟨y,y1,y2,y3⟩
 have ajl:¬(u1=u2/\o=nm):=by
  rintro⟨rfl,rfl⟩;rw[x1]at y1;cases y1;rw[x3]at y3;cases y3
 -- Za aqe an5 it
 have w2':dL (bL (bL T u1 (fE (bb o))) u2 (fE (de nm a))) 0 L2=(u2,0):=by
  refine EE (T:=T) (u1:=u1) (o:=o) (λd w k hs hno=>(Ka d w k).2 (.inr ⟨hs,hno⟩)) L2.length L2 u2 (Nat.le_refl _) w2 λP Q e hP=>?_;have:P=L1:=qp wf x1 x2 hP w1;subst this;exact nin Q e
 have w1':dL (bL (bL T u1 (fE (bb o))) u2 (fE (de nm a))) 0 L1=(u1,0):=by
  refine EE (T:=T) (u1:=u1) (o:=o) (λd w k hs hno=>(Ka d w k).2 (.inr ⟨hs,hno⟩)) L1.length L1 u1 (Nat.le_refl _) w1 λP Q e hP=>?_;have:P=L1:=qp wf x1 x2 hP w1;subst this;have:=congrArg List.length e;simp at this
 have w2n:dL (bL (bL T u1 (fE (bb o))) u2 (fE (de nm a))) 0 (L2++[nm])=(a,0):=jt.2 ⟨u2,w2',(Ka _ _ _).2 (.inl ⟨rfl,rfl,rfl⟩)⟩
 have W6:∀k,¬Step (bL (bL T u1 (fE (bb o))) u2 (fE (de nm a))) u1 o k:=λk hk=>by
  rcases(Ka _ _ _).1 hk with⟨h1,h2,_⟩|⟨_,h2⟩
  ·exact ajl ⟨h1,h2⟩
  ·exact h2 ⟨rfl,rfl⟩
 have ha1:a≠u1:=by
  rintro rfl;have:=qp wf x1 x2 w1 w1o;have:=congrArg List.length this;simp at this
 have ha2:a≠u2:=by
  rintro rfl;have:=qp wf y1 y2 w2 w1o;exact nin [] this
 have f2n:bG (bL (bL T u1 (fE (bb o))) u2 (fE (de nm a))) q=(a,0):=by rw[gx s3];exact w2n
 have f2:bG (bL (bL T u1 (fE (bb o))) u2 (fE (de nm a))) ab2=(u2,0):=by rw[gx s4];exact w2'
 have f1:bG (bL (bL T u1 (fE (bb o))) u2 (fE (de nm a))) ab=(u1,0):=by rw[gx s2];exact w1'
 have n1:∃n,nodeAt (bL (bL T u1 (fE (bb o))) u2 (fE (de nm a))) u1=some n/\n.kind=1:=by
  rw[cG (dU _),cG (dU _)]
  by_cases e:u1=u2
  ·rw[aB e,<-e,aB rfl,x1];exact⟨_,rfl,x2⟩
  ·rw[aq e,cG (dU _),aB rfl,x1];exact⟨_,rfl,x2⟩
 constructor
 ·unfold nQ;rw[f2n,aq (by simp),aq (by rw[x8];simp),x7]
  have e:nodeAt (bL (bL T u1 (fE (bb o))) u2 (fE (de nm a))) a=nodeAt T a:=by
   rw[cG (dU _),aq ha2,cG (dU _),aq ha1]
  simp only;rw[e]
 ·intro h0;have:bG (bL (bL T u1 (fE (bb o))) u2 (fE (de nm a))) p=((bG (bL (bL T u1 (fE (bb o))) u2 (fE (de nm a))) p).1,0):=Prod.ext rfl h0;rw[gx s1]at this;obtain⟨d,h1,h2⟩:=jt.1 this;rw[w1']at h1;cases h1;exact W6 _ h2
 ·unfold bL;simp
 ·have he:aV (bL (bL T u1 (fE (bb o))) u2 (fE (de nm a))) q=(u2,nm,a,0):=by
   unfold aV;rw[z4];simp only;rw[f2n,f2];simp
  have hp:bj (bL (bL T u1 (fE (bb o))) u2 (fE (de nm a))) p=(u1,o,0):=by
   unfold bj;rw[x4];simp only;rw[f1];obtain⟨n,g1,g2⟩:=n1;simp only[ne_eq,not_true_eq_false,if_false];rw[g1];simp only[g2,not_true_eq_false,if_false];rw[aq];intro hs;obtain⟨k,hk⟩:=Option.isSome_iff_exists.1 hs;exact W6 k ⟨n,g1,g2,hk⟩
  have hin:kO p q≠true:=λhi=>by
   unfold kO at hi;rw[s1,s3]at hi;simp only[Bool.and_eq_true,decide_eq_true_eq]at hi;obtain⟨hl,e⟩:=hi
   have e2:L1++[o]=(L2++[nm])++(L1++[o]).drop (L2++[nm]).length:=by
    conv=>lhs;rw[<-List.take_append_drop (L2++[nm]).length (L1++[o])]
    rw[<-e]
   rw[e2]at w1o;obtain⟨d,h1,_⟩:=Cw w1o;obtain⟨e',h2,h3⟩:=jt.1 h1;rw[w2]at h2;cases h2;obtain⟨n,g1,_,g3⟩:=h3;rw[y1]at g1;cases g1;rw[y3]at g3;cases g3
  unfold ft;rw[he,hp];simp only[ne_eq,not_true_eq_false,if_false];rw[aq (Ne.symm hne),aq hin];refine Prod.ext ?_ rfl;show bL (bL (bL (bL T u1 (fE (bb o))) u2 (fE (de nm a))) u2 (fE (bb nm))) u1 (fE (de o a))=T
  have hb:bL (bL (bL T u1 (fE (bb o))) u2 (fE (de nm a))) u2 (fE (bb nm))=bL T u1 (fE (bb o)):=by
   unfold bL;rw[List.map_map,List.map_map];refine List.map_congr_left λn hn=>?_;have hna:nodeAt T n.num=some n:=fi wf.nd hn;simp only[Function.comp];have hu1:(if n.num=u1 then fE (bb o) n else n).num=n.num:=by split<;>rfl
   rw[hu1]
   by_cases e2:n.num=u2
   ·rw[aB e2];have hu2:(fE (de nm a) (if n.num=u1 then fE (bb o) n else n)).num=n.num:=by rw[dU,hu1]
    rw[hu2,aB e2];rw[e2,y1]at hna;cases hna
    have hl:lk (if y.num=u1 then fE (bb o) y else y).ay nm=none:=by
     split
     ·show lk (bb o y.ay) nm=none;rw[oL];split
      ·rfl
      ·exact y3
     ·exact y3
    generalize (if y.num=u1 then fE (bb o) y else y)=m at hl;show({m with ay:=bb nm (de nm a m.ay)}:Nd)=m;rw[J8 hl]
   ·rw[aq e2,hu1,aq e2]
  rw[hb];unfold bL;rw[List.map_map]
  conv=>rhs;rw[<-List.map_id T]
  refine List.map_congr_left λn hn=>?_;have hna:nodeAt T n.num=some n:=fi wf.nd hn;simp only[Function.comp,id]
  by_cases e1:n.num=u1
  ·rw[aB e1,dU,aB e1];rw[e1,x1]at hna;cases hna;show({x with ay:=de o a (bb o x.ay)}:Nd)=x;rw[J9 (wf.at' x1).1.sort x3]
  ·rw[aq e1,aq e1]
 ·intro j hj
  induction hj with
  |root=>exact .root
  |@step d k w hd hs ih=>
   by_cases e:d=u1/\w=o
   ·obtain⟨rfl,rfl⟩:=e;have:k=a:=hs.det ⟨x,x1,x2,x3⟩;rw[this];exact qo.of w2n
   ·exact .step ih ((Ka d w k).2 (.inr ⟨hs,e⟩))
 ·rw[d7 (dU _),d7 (dU _)]
theorem M6{T:List Nd}{p q:Nm}(h:(ft T p q).2≠0\/q=p):(ft T p q).1=T:=by
 unfold ft at h⊢;split
 ·rfl
 ·split
  ·rfl
  ·split
   ·rfl
   ·split
    ·rfl
    ·rename_i h1 h2 h3 h4;rw[aq h1,aq h2,aq h3,aq h4]at h;rcases h with h|h
     ·exact absurd rfl h
     ·exact absurd h h2
def Reach(T:List Nd):Prop:=∀n∈T,qo T n.num
theorem lS{α:Type}[DecidableEq α]:∀ {l m:List α},l.Nodup->(∀x∈l,x∈m)->l.length<=m.length
 |[],_,_,_=>Nat.zero_le _
 |x::l,m,h,hs=>by
  rw[List.nodup_cons]at h;have hx:=hs x (by simp)
  have ih:=lS (m:=m.erase x) h.2 λy hy=>by
   have:y≠x:=λe=>h.1 (by rw[<-e];exact hy);exact(List.mem_erase_of_ne this).2 (hs y (by simp[hy]))
  rw[List.length_erase_of_mem hx]at ih;have:=List.length_pos_of_mem hx;rw[List.length_cons];omega
def sN(T:List Nd)(l:List Nm)(i:Nat):Nat:=(dL T 0 (l.take i)).1
theorem ajo{B:Nat}{T:List Nd}(wf:ey B T){l:List Nm}{k:Nat}(h:dL T 0 l=(k,0))(hk:(nodeAt T k).isSome=true):l.length+1<=T.length:=by
 have pre:∀i,i<=l.length->dL T 0 (l.take i)=(sN T l i,0)/\(i<l.length->∃x,nodeAt T (sN T l i)=some x/\x.kind=1):=λi hi=>by
  have e:=h;rw[<-List.take_append_drop i l]at e;obtain⟨d,h1,h2⟩:=Cw e;have hd:sN T l i=d:=by unfold sN;rw[h1]
  rw[hd];refine⟨h1,λhlt=>?_⟩;have hdr:l.drop i=l[i]::l.drop (i+1):=List.drop_eq_getElem_cons hlt;rw[hdr]at h2;obtain⟨d2,h3,_⟩:=Cw (l:=[l[i]]) (m:=l.drop (i+1)) h2;obtain⟨n,h4,h5,_⟩:=B9 h3;exact⟨n,h4,h5⟩
 have inj:∀i j,i<j->j<=l.length->sN T l i≠sN T l j:=λi j D4 hj e=>by
  obtain⟨h1,h2⟩:=pre i (by omega);obtain⟨x,h3,h4⟩:=h2 (by omega);have h5:=(pre j hj).1;rw[<-e]at h5;have:=qp wf h3 h4 h1 h5;have:=congrArg List.length this;rw[List.length_take,List.length_take]at this;omega
 have nd:((List.range (l.length+1)).map (sN T l)).Nodup:=by
  rw[List.nodup_iff_pairwise_ne,List.pairwise_map];refine List.Pairwise.imp_of_mem (R:=(· < ·)) (λ{a b} ha hb hab=>inj a b hab (by have:=List.mem_range.1 hb;omega)) (List.pairwise_lt_range)
 have sub:∀x∈(List.range (l.length+1)).map (sN T l),x∈T.map (·.num):=λx hx=>by
  obtain⟨i,hi,rfl⟩:=List.mem_map.1 hx;have hi:=List.mem_range.1 hi
  have:(nodeAt T (sN T l i)).isSome=true:=by
   by_cases e:i<l.length
   ·obtain⟨x,h3,_⟩:=(pre i (by omega)).2 e;rw[h3];rfl
   ·have:sN T l i=k:=by unfold sN;rw[List.take_of_length_le (by omega),h]
    rw[this];exact hk
  obtain⟨n,hn⟩:=Option.isSome_iff_exists.1 this;obtain⟨h1,h2⟩:=bI hn;exact List.mem_map.2 ⟨n,h1,h2⟩
 have:=lS nd sub;simpa using this
theorem yF{T:List Nd}{a:Nat}{f:Nd->Nd}(hf:∀n,(f n).num=n.num/\(f n).kind=n.kind/\(f n).ay=n.ay){d:Nat}{w:Nm}{k:Nat}:Step (bL T a f) d w k↔Step T d w k:=by
 unfold Step;rw[cG λn=>(hf n).1]
 by_cases e:d=a
 ·subst e;rw[aB rfl];constructor
  ·rintro⟨n,h1,h2,h3⟩;obtain⟨m,h4,rfl⟩:=Option.map_eq_some_iff.1 h1;exact⟨m,h4,by rw[<-(hf m).2.1];exact h2,by rw[<-(hf m).2.2];exact h3⟩
  ·rintro⟨n,h1,h2,h3⟩;exact⟨f n,by rw[h1];rfl,by rw[(hf n).2.1];exact h2,by rw[(hf n).2.2];exact h3⟩
 ·rw[aq e]
theorem qo.mono{T T':List Nd}(h:∀d w k,Step T d w k->Step T' d w k){j:Nat}(hj:qo T j):qo T' j:=by
 induction hj with
 |root=>exact .root
 |step _ hs ih=>exact .step ih (h _ _ _ hs)
theorem Reach.of{T T':List Nd}(h:Reach T)(hr:∀j,qo T j->qo T' j)(hn:T'.map (·.num)=T.map (·.num)):Reach T':=λn hm=>by
 have:n.num∈T.map (·.num):=by rw[<-hn];exact List.mem_map.2 ⟨n,hm,rfl⟩
 obtain⟨m,h1,h2⟩:=List.mem_map.1 this;rw[<-h2];exact hr _ (h m h1)
theorem W7{T:List Nd}{a d:Nat}{w:Nm}{k:Nat}:Step (lr T a) d w k↔Step T d w k/\d≠a:=by
 unfold Step;rw[Ca]
 by_cases e:d=a
 ·subst e;simp
 ·rw[aq e];exact⟨λh=>⟨h,e⟩,λh=>h.1⟩
theorem qo.drop{T:List Nd}{u a:Nat}{nm:Nm}(hua:Step T u nm a)(hx:∃x,nodeAt T a=some x/\x.ay=[]){j:Nat}(hj:qo T j)(hja:j≠a):qo (bL T u (fE (bb nm))) j:=by
 induction hj with
 |root=>exact .root
 |@step d k w hd hs ih=>
  have U0:d≠a:=by
   rintro rfl;obtain⟨x,h1,h2⟩:=hx;obtain⟨n,h3,_,h5⟩:=hs;rw[h1]at h3;cases h3;rw[h2]at h5;cases h5
  refine .step (ih U0) (w:=w) (xf.2 ?_);obtain⟨n,h3,h4,h5⟩:=hs;refine⟨n,h3,h4,?_⟩
  by_cases e:d=u
  ·subst e;rw[aB rfl,oL]
   by_cases ew:w=nm
   ·subst ew;exact absurd ((show Step T d w k from⟨n,h3,h4,h5⟩).det hua) hja
   ·rw[aq ew];exact h5
  ·rw[aq e];exact h5
theorem qo.OF{T:List Nd}{a j:Nat}(hx:∃x,nodeAt T a=some x/\x.ay=[])(hj:qo T j)(hja:j≠a):qo (lr T a) j:=by
 induction hj with
 |root=>exact .root
 |@step d k w hd hs ih=>
  have U0:d≠a:=by
   rintro rfl;obtain⟨x,h1,h2⟩:=hx;obtain⟨n,h3,_,h5⟩:=hs;rw[h1]at h3;cases h3;rw[h2]at h5;cases h5
  exact .step (ih U0) (W7.2 ⟨hs,U0⟩)
theorem W8{T:List Nd}{a:Nat}{n:Nd}(h:n∈lr T a):n∈T/\n.num≠a:=by
 unfold lr at h;rw[List.mem_filter]at h;exact⟨h.1,by simpa using h.2⟩
theorem Sq{T:List Nd}{u a:Nat}{g:List (Nm×Nat)->List (Nm×Nat)}(hg:g []=[])(hx:∃x,nodeAt T a=some x/\x.ay=[]):∃x,nodeAt (bL T u (fE g)) a=some x/\x.ay=[]:=by
 obtain⟨x,h1,h2⟩:=hx;rw[cG (dU _)]
 by_cases e:a=u
 ·subst e;rw[aB rfl,h1];exact⟨_,rfl,by show g x.ay=[];rw[h2];exact hg⟩
 ·rw[aq e];exact⟨x,h1,h2⟩
theorem Reach.gone{T:List Nd}(h:Reach T){u a:Nat}{nm:Nm}(hua:Step T u nm a)(hx:∃x,nodeAt T a=some x/\x.ay=[]):Reach (lr (bL T u (fE (bb nm))) a):=λn hn=>by
 obtain⟨h1,h2⟩:=W8 hn;have:n.num∈T.map (·.num):=by rw[<-d7 (dU (bb nm)) (T:=T) (k:=u)];exact List.mem_map.2 ⟨n,h1,rfl⟩
 obtain⟨m,h3,h4⟩:=List.mem_map.1 this;have:=h m h3;rw[h4]at this;exact qo.OF (Sq rfl hx) (qo.drop hua hx this h2) h2
theorem Reach.make{B:Nat}{T:List Nd}(h:Reach T)(wf:ey B T)(kind:Int)(path:Nm):Reach (uo T kind path).1:=by
 unfold uo;split
 ·exact h
 split
 ·exact h
 ·rename_i h1 h2;have hp:(bj T path).2.2=0:=by simpa using h1
  obtain⟨x,h3,h4,h5,_⟩:=kQ hp;obtain⟨f1,_,_⟩:=free_spec wf.sorted (by omega)
  have hpu:qo T (bj T path).1:=by
   have:=h x (bI h3).1;rw[(bI h3).2]at this;exact this
  generalize (bj T path).1=u at*;generalize (bj T path).2.1=nm at*;generalize um T=a at*;have hau:u≠a:=λe=>by rw[e,f1]at h3;cases h3
  have mono:∀d w k,Step T d w k->Step (bL (mG (dg a kind) T) u (fE (de nm a))) d w k:=λd w k ⟨n,g1,g2,g3⟩=>by
   refine xf.2 ⟨n,?_,g2,?_⟩
   ·rw[lN,aq]
    ·exact g1
    ·intro e;rw[show(dg a kind).num=a from rfl]at e;rw[e,f1]at g1;cases g1
   ·by_cases e:d=u
    ·subst e;rw[h3]at g1;cases g1;rw[aB rfl,sD,aq]
     ·exact g3
     ·intro e;subst e;rw[h5]at g3;cases g3
    ·rw[aq e];exact g3
  intro n hn;have:n.num∈(mG (dg a kind) T).map (·.num):=by rw[<-d7 (dU (de nm a)) (T:=mG (dg a kind) T) (k:=u)];exact List.mem_map.2 ⟨n,hn,rfl⟩
  obtain⟨m,g1,g2⟩:=List.mem_map.1 this;rw[<-g2];rcases Cb.1 g1 with rfl|g1
  ·refine .step (qo.mono mono hpu) (w:=nm) (xf.2 ⟨x,?_,h4,?_⟩)
   ·rw[lN,aq (show ¬u=(dg a kind).num from hau)];exact h3
   ·rw[aB rfl,sD,aB rfl];rfl
  ·exact qo.mono mono (h m g1)
theorem Reach.Wh{T:List Nd}(h:Reach T)(path:Nm):Reach (po T path).1:=by
 unfold po;split
 ·exact h
 ·rename_i h1;obtain⟨x,x1,x2,x3,_⟩:=jr (show(aV T path).2.2.2=0 by simpa using h1);split
  ·exact h
  ·rename_i n hn;split
   ·exact h
   split
   ·exact h
   ·rename_i h3;exact Reach.gone h ⟨x,x1,x2,x3⟩ ⟨n,hn,by simpa using h3⟩
theorem Reach.unlink{B:Nat}{T:List Nd}(h:Reach T)(wf:ey B T)(path:Nm):Reach (lY T path).1:=by
 unfold lY;split
 ·exact h
 ·rename_i h1;obtain⟨x,x1,x2,x3,_⟩:=jr (show(aV T path).2.2.2=0 by simpa using h1);split
  ·exact h
  ·rename_i n hn;split
   ·exact h
   rename_i hk
   have hnk:n.ay=[]:=by
    rcases(wf.at' hn).1.kind with⟨h1,_⟩|⟨_,h1⟩
    ·exact absurd h1 hk
    ·exact h1
   generalize (aV T path).1=u at*;generalize (aV T path).2.1=nm at*;generalize (aV T path).2.2.1=a at*;have same:∀ {T:List Nd} {d:Nat} {w:Nm} {k:Nat},Step (bL T a (fL (-1))) d w k↔Step T d w k:=yF (f:=fL (-1)) λn=>⟨rfl,rfl,rfl⟩;split
   ·rw[JK _ _ (yw _)];exact Reach.gone h ⟨x,x1,x2,x3⟩ ⟨n,hn,hnk⟩
   ·rename_i hl;refine Reach.of (T:=T) h (λj hj=>?_) (by rw[d7 (yw _),d7 (dU _)]);have ne:∀j,qo T j->j≠a->qo (bL (bL T u (fE (bb nm))) a (fL (-1))) j:=λj hj hja=>qo.mono (λd w k hs=>same.2 hs) (qo.drop ⟨x,x1,x2,x3⟩ ⟨n,hn,hnk⟩ hj hja)
    by_cases e:j=a
    ·subst e;have h0:j≠0:=((wf.at' x1).1.name _ (gL x3)).2;have hr:=kP (f:=fE (bb nm)) j wf.nd x1;have hd:=qd (nm:=nm) (j:=j) j (nO (wf.at' x1).1.sort) x3;rw[aB rfl]at hd;have hc:=wf.wV hn h0;have hlp:=(wf.at' hn).1.yp
     have:0<refs (bL T u (fE (bb nm))) j:=by
      have e1:dQ (fE (bb nm) x).ay j=dQ (bb nm x.ay) j:=rfl;rw[e1]at hr;omega
     have:∃m∈bL T u (fE (bb nm)),∃e∈m.ay,e.2=j:=Classical.byContradiction λhno=>by
      have:=Ev (T:=bL T u (fE (bb nm))) (k:=j) λm hm e he hej=>hno ⟨m,hm,e,he,hej⟩;omega
     obtain⟨m,hm,e,he,hej⟩:=this;have ndT:((bL T u (fE (bb nm))).map (·.num)).Nodup:=by rw[d7 (dU _)];exact wf.nd
     have hma:=fi ndT hm
     -- Za node m is a agr ahj is ak8
     have hmm:∃m0,nodeAt T m.num=some m0/\m0.kind=m.kind/\(m.ay≠[]->m0.ay≠[])/\(m.ay.map (·.1)).Nodup:=by
      rw[cG (dU _)]at hma
      by_cases eu:m.num=u
      ·rw[aB eu,<-eu]at hma;rw[eu,x1]at hma;cases hma;refine⟨x,by rw[eu];exact x1,rfl,λhne hx=>hne ?_,?_⟩
       ·show bb nm x.ay=[];rw[hx];rfl
       ·exact(nO (wf.at' x1).1.sort).sublist (List.filter_sublist.map _)
      ·rw[aq eu]at hma;exact⟨m,hma,rfl,λh=>h,nO (wf.at' hma).1.sort⟩
     obtain⟨m0,g1,g2,g3,g4⟩:=hmm;have hne:m.ay≠[]:=λh=>by rw[h]at he;cases he
     have Ha:m0.kind=1:=by
      rcases(wf.at' g1).1.kind with⟨h,_⟩|⟨_,h⟩
      ·exact h
      ·exact absurd h (g3 hne)
     have hmj:m.num≠j:=λe=>by
      rw[e,hn]at g1;cases g1;exact hk Ha
     have rm:qo T m.num:=by
      have:=h m0 (bI g1).1;rw[(bI g1).2]at this;exact this
     refine .step (ne _ rm hmj) (w:=e.1) (same.2 ⟨m,hma,by rw[<-g2];exact Ha,?_⟩);rw[nq g4 he,hej]
    ·exact ne j hj e
theorem Reach.link{B:Nat}{T:List Nd}(h:Reach T)(_:ey B T)(path aL:Nm):Reach (uq T path aL).1:=by
 unfold uq;split
 ·exact h
 split
 ·exact h
 ·rename_i h1 h2;obtain⟨x,h3,h4,h5,_⟩:=kQ (show(bj T aL).2.2=0 by simpa using h2);refine Reach.of (T:=T) h (λj hj=>qo.mono (λd w k hs=>?_) hj) (by rw[d7 (yw _),d7 (dU _)]);refine(yF (f:=fL 1) λn=>⟨rfl,rfl,rfl⟩).2 (xf.2 ?_);obtain⟨n,g1,g2,g3⟩:=hs;refine⟨n,g1,g2,?_⟩
  by_cases e:d=(bj T aL).1
  ·rw[aB e,sD,aq]
   ·exact g3
   ·intro e2;rw[e,h3]at g1;cases g1;rw[e2,h5]at g3;cases g3
  ·rw[aq e];exact g3
theorem Reach.rename{B:Nat}{T:List Nd}(h:Reach T)(wf:ey B T)(p q:Nm):Reach (ft T p q).1:=by
 by_cases e:(ft T p q).2≠0\/q=p
 ·rw[M6 e];exact h
 ·have e1:(ft T p q).2=0:=Classical.byContradiction λh=>e (.inl h);have e2:q≠p:=λh=>e (.inr h);have mv:=aaI wf e2 e1;exact Reach.of h mv.rch mv.an4
theorem Reach.bytes{T:List Nd}(h:Reach T)(a:Nat)(g:ax->ax):Reach (bL T a (fD g)):=
 Reach.of (T:=T) h (λ_ hj=>qo.mono (λ_ _ _ hs=>(yF (f:=fD g) λ_=>⟨rfl,rfl,rfl⟩).2 hs) hj) (d7 (MG g))
theorem Reach.do{B:Nat}{T:List Nd}(h:Reach T)(wf:ey B T)(kind:Int)(path aL:Nm)(off n:Int)(d:ax):Reach (zx T kind path aL off n d).1:=by
 unfold zx;split
 ·exact h.make wf kind path
 split
 ·exact h.Wh path
 split
 ·exact h.unlink wf path
 split
 ·exact h.link wf path aL
 split
 ·exact h.rename wf path aL
 split
 ·show Reach (pq T path off d).1;unfold pq;split
  ·exact h
  split
  ·exact h
  split
  ·exact h
  split
  ·exact h
  ·exact h.bytes _ _
 split
 ·exact h
 split
 ·show Reach (DC T path n).1;unfold DC;split
  ·exact h
  split
  ·exact h
  split
  ·exact h
  ·exact h.bytes _ _
 split
 ·exact h
 split
 ·exact h
 split
 ·exact h
 ·exact h
theorem M7:Reach sH:=λn hn=>by
 obtain rfl:n=dg 0 1:=by simpa[sH]using hn
 exact .root
structure Tx{κ:Type}(l:AL κ)(S:Array Nat)(P:List κ):Prop where
 nd:P.Nodup
 sub:∀k∈P,k∈l.map (·.1)
 iff:∀x∈l,(x.2.2∈S↔x.1∈P)
theorem Tx.nil{κ:Type}(l:AL κ):Tx l #[] []:=⟨List.nodup_nil,λ_ h=>by(cases h),λx _=>by simp⟩
theorem Tx.step{κ:Type}{l:AL κ}{c:Nat}{S:Array Nat}{P:List κ}(hI:fC l c)(h:Tx l S P){x:κ×Value×Nat}(hx:x∈l)(hS:x.2.2∉S):x.1∉P/\Tx l (S.push x.2.2) (P++[x.1]):=by
 have hP:x.1∉P:=λe=>hS ((h.iff x hx).2 e);refine⟨hP,List.nodup_append.2 ⟨h.nd,by simp,λa ha b hb=>?_⟩,λk hk=>?_,λy hy=>?_⟩
 ·simp only[List.mem_singleton]at hb;subst hb;exact λe=>hP (e▸ha)
 ·rcases List.mem_append.1 hk with hk|hk
  ·exact h.sub k hk
  ·obtain rfl:=List.mem_singleton.1 hk;exact List.mem_map.2 ⟨x,hx,rfl⟩
 ·rw[Array.mem_push,List.mem_append,List.mem_singleton,h.iff y hy];constructor
  ·rintro(e|e)
   ·exact .inl e
   ·obtain rfl:=map_inj (λz:κ×Value×Nat=>z.2.2) hI.2.nodup hy hx e;exact .inr rfl
  ·rintro(e|e)
   ·exact .inl e
   ·obtain rfl:=map_inj (λz:κ×Value×Nat=>z.1) hI.1 hy hx e;exact .inr rfl
theorem Tx.done{κ:Type}{l:AL κ}{S:Array Nat}{P:List κ}(h:Tx l S P)(ha:∀x∈l,x.2.2∈S):∀k∈l.map (·.1),k∈P:=λk hk=>by
 obtain⟨x,hx,rfl⟩:=List.mem_map.1 hk;exact(h.iff x hx).1 (ha x hx)
theorem Kb{l m:List Nat}(h:l.Perm m):l.sum=m.sum:=by
 induction h with
 |nil=>rfl
 |cons x _ ih=>simp[ih]
 |swap x y l=>simp;omega
 |trans _ _ h1 h2=>exact h1.trans h2
theorem M8{g:Nat->Nat}:∀ {D M:List Nat},D.Nodup->(∀d∈D,d∈M)->(D.map g).sum<=(M.map g).sum
 |[],_,_,_=>by simp
 |d::D,M,hn,hs=>by
  rw[List.nodup_cons]at hn;have hp:=List.perm_cons_erase (hs d (by simp));have:=Kb (hp.map g);have ih:=M8 (g:=g) (D:=D) (M:=M.erase d) hn.2 λx hx=>(List.mem_erase_of_ne (λe=>hn.1 (by rw[<-e];exact hx))).2 (hs x (by simp[hx]));rw[this];simp;omega
theorem W9{g:Nat->Nat}:∀ {D M:List Nat},D.Nodup->M.Nodup->(∀d∈D,d∈M)->(∀m∈M,m∉D->g m=0)->(D.map g).sum=(M.map g).sum
 |[],M,_,_,_,hz=>by
  have:∀M:List Nat,(∀m∈M,g m=0)->(M.map g).sum=0:=λM=>by
   induction M with
   |nil=>intro _;rfl
   |cons x M ih=>
    intro h;rw[List.map_cons,List.sum_cons,h x (by simp),ih λm hm=>h m (by simp[hm])]
  rw[this M λm hm=>hz m hm (by simp)];rfl
 |d::D,M,hn,hM,hs,hz=>by
  rw[List.nodup_cons]at hn;have hp:=List.perm_cons_erase (hs d (by simp));have h1:=Kb (hp.map g)
  have ih:=W9 (g:=g) (D:=D) (M:=M.erase d) hn.2 (hM.erase d) (λx hx=>(List.mem_erase_of_ne (λe=>hn.1 (by rw[<-e];exact hx))).2 (hs x (by simp[hx]))) λm hm hD=>by
   have h2:=(List.Nodup.mem_erase_iff hM).1 hm;exact hz m h2.2 (by simp[h2.1,hD])
  rw[h1];simp;omega
def dY(T:List Nd)(d:Nat):List (Nm×Nat):=match nodeAt T d with
 |some n=>n.ay
 |none=>[]
def rq(T:List Nd)(D:List Nat)(k:Nat):Nat:=(D.map λd=>dQ (dY T d) k).sum
def jO(T:List Nd)(d:Nat):Prop:=∃n,nodeAt T d=some n/\n.kind=1
structure yG(T:List Nd):Prop where
 root:jO T 0
 u6:∀n∈T,∀e∈n.ay,(nodeAt T e.2).isSome=true/\e.2≠0
 B5:∀n∈T,n.num≠0->(refs T n.num:Int)=n.bo/\qo T n.num
open Classical in
noncomputable def jZ(T:List Nd):Bool:=decide (yG T)
theorem Pu:∀ {js:Int} {T:List Nd},KX js T=true->(∀n∈T,js<n.num/\n.num<64/\iy n=true)/\(T.map (·.num)).Pairwise (· < ·)
 |_,[],_=>⟨λ_ h=>(by cases h),List.Pairwise.nil⟩
 |js,n::r,h=>by
  unfold KX at h;simp only[Bool.and_eq_true,decide_eq_true_eq]at h;obtain⟨⟨⟨h1,h2⟩,h3⟩,h4⟩:=h;obtain⟨g1,g2⟩:=Pu h4;refine⟨λx hx=>?_,?_⟩
  ·rcases List.mem_cons.1 hx with rfl|hx
   ·exact⟨h1,by omega,h3⟩
   ·have:=g1 x hx;exact⟨by omega,this.2⟩
  ·rw[List.map_cons,List.pairwise_cons];exact⟨λy hy=>by obtain⟨x,hx,rfl⟩:=List.mem_map.1 hy;have:=(g1 x hx).1;omega,g2⟩
structure py(T:List Nd):Prop where
 nd:(T.map (·.num)).Nodup
 RP:∀n∈T,n.num<64
 jY:∀n∈T,iy n=true
theorem py.of{T:List Nd}(h:KX (-1) T=true):py T:=by
 obtain⟨h1,h2⟩:=Pu h;exact⟨h2.imp λhab e=>by omega,λn hn=>(h1 n hn).2.1,λn hn=>(h1 n hn).2.2⟩
theorem EF{n:Nd}(h:iy n=true)(hk:n.kind=1):n.bo=1/\(n.ay.map (·.1)).Nodup:=by
 unfold iy at h;rw[aB hk]at h;simp only[Bool.and_eq_true,decide_eq_true_eq]at h;exact⟨h.1.2,ED (M3 h.2).2.1⟩
theorem vg{n:Nd}(h:iy n=true)(hk:n.kind≠1):n.ay=[]:=by
 unfold iy at h;rw[aq hk]at h;split at h
 ·simp only[Bool.and_eq_true,decide_eq_true_eq]at h;exact h.2
 ·cases h
theorem Kc{n:Nd}(h:iy n=true):(n.ay.map (·.1)).Nodup:=by
 by_cases hk:n.kind=1
 ·exact(EF h hk).2
 ·rw[vg h hk];exact List.nodup_nil
variable {T:List Nd}
theorem py.at(p:py T){n:Nd}(hn:n∈T):nodeAt T n.num=some n:=fi p.nd hn
theorem py.ay(p:py T){n:Nd}(hn:n∈T):dY T n.num=n.ay:=by unfold dY;rw[p.at hn]
theorem py.refs(p:py T)(k:Nat):refs T k=((T.map (·.num)).map λd=>dQ (dY T d) k).sum:=by
 unfold Go.Proofs.YtchjlaebbhpioaaGreatDoor.refs;rw[List.map_map];congr 1;exact List.map_congr_left λn hn=>by simp only[Function.comp_apply];rw[p.ay hn]
theorem jO.mem{d:Nat}(h:jO T d):d∈T.map (·.num):=by
 obtain⟨n,h1,_⟩:=h;obtain⟨h2,h3⟩:=bI h1;exact List.mem_map.2 ⟨n,h2,h3⟩
theorem py.le(p:py T){D:List Nat}(hD:D.Nodup)(hd:∀d∈D,jO T d)(k:Nat):rq T D k<=Go.Proofs.YtchjlaebbhpioaaGreatDoor.refs T k:=by
 rw[p.refs];exact M8 hD λd h=>(hd d h).mem
theorem py.eq(p:py T){D:List Nat}(hD:D.Nodup)(hd:∀d∈D,jO T d)(hall:∀d,jO T d->d∈D)(k:Nat):rq T D k=Go.Proofs.YtchjlaebbhpioaaGreatDoor.refs T k:=by
 rw[p.refs];refine W9 hD p.nd (λd h=>(hd d h).mem) λm hm hn=>?_;obtain⟨n,h1,rfl⟩:=List.mem_map.1 hm;show dQ (dY T n.num) k=0;have:n.kind≠1:=λe=>hn (hall _ ⟨n,p.at h1,e⟩);rw[p.ay h1,vg (p.jY n h1) this];rfl
theorem vh(T:List Nd)(u:Nat)(D:List Nat)(k:Nat):rq T (u::D) k=dQ (dY T u) k+rq T D k:=by simp[rq]
theorem Cx{l m:List (Nm×Nat)}(hn:l.Nodup)(hs:∀e∈l,e∈m)(k:Nat):dQ l k<=dQ m k:=by
 unfold dQ;rw[List.countP_eq_length_filter,List.countP_eq_length_filter];refine lS (hn.filter _) λe he=>?_;rw[List.mem_filter]at he⊢;exact⟨hs e he.1,he.2⟩
theorem EG(l:List (Nm×Nat))(e:Nm×Nat)(k:Nat):dQ (l++[e]) k=dQ l k+if e.2=k then 1 else 0:=by
 unfold dQ;rw[List.countP_append];simp[List.countP_cons]
structure WI(T:List Nd)(D st:List Nat)(f:Nat->Nat):Prop where
 nd:(D++st).Nodup
 dir:∀d∈D++st,jO T d/\qo T d
 root:0∈D++st
 one:∀d∈D++st,d≠0->1<=f d
 all:∀d,jO T d->d≠0->1<=f d->d∈D++st
theorem WI.init(h:jO T 0):WI T [] [0] λ_=>0:=by
 refine⟨by simp,λd hd=>?_,by simp,λd hd h0=>?_,λd _ _ h1=>by omega⟩
 ·obtain rfl:d=0:=by simpa using hd
  exact⟨h,.root⟩
 ·exact absurd (by simpa using hd) h0
theorem WI.pop{D st:List Nat}{u:Nat}{f:Nat->Nat}(h:WI T D (st++[u]) f):WI T (u::D) st f:=by
 have hp:(D++(st++[u])).Perm (u::D++st):=by
  rw[<-List.append_assoc];exact List.perm_append_comm (l₁:=D++st) (l₂:=[u])
 have hm:∀d,d∈D++(st++[u])↔d∈u::D++st:=λd=>hp.mem_iff;exact⟨hp.nodup h.nd,λd hd=>h.dir d ((hm d).2 hd),(hm 0).1 h.root,λd hd=>h.one d ((hm d).2 hd),λd a b c=>(hm d).1 (h.all d a b c)⟩
theorem WI.file{D st:List Nat}{f:Nat->Nat}(h:WI T D st f){k:Nat}(hk:¬jO T k):WI T D st λq=>if q=k then f k+1 else f q:=by
 refine⟨h.nd,h.dir,h.root,λd hd h0=>?_,λd hd h0 h1=>?_⟩
 ·have:=h.one d hd h0;show 1<=(if d=k then f k+1 else f d);split
  ·omega
  ·exact this
 ·have h1:1<=(if d=k then f k+1 else f d):=h1;rw[aq (λe=>hk (by rw[<-e];exact hd))]at h1;exact h.all d hd h0 h1
theorem WI.push{D st:List Nat}{f:Nat->Nat}(h:WI T D st f){k:Nat}(hk:jO T k)(hr:qo T k)(h0:k≠0)(hf:f k=0):WI T D (st++[k]) λq=>if q=k then f k+1 else f q:=by
 have hn:k∉D++st:=λe=>by have:=h.one k e h0;omega
 have hm:∀d,d∈D++(st++[k])↔d∈D++st\/d=k:=λd=>by simp[or_assoc]
 refine⟨?_,λd hd=>?_,(hm 0).2 (.inl h.root),λd hd rE=>?_,λd hd rE h1=>?_⟩
 ·rw[<-List.append_assoc];refine List.nodup_append.2 ⟨h.nd,by simp,λa ha b hb e=>?_⟩;obtain rfl:=List.mem_singleton.1 hb;exact hn (e▸ha)
 ·rcases(hm d).1 hd with hd|rfl
  ·exact h.dir d hd
  ·exact⟨hk,hr⟩
 ·show 1<=(if d=k then f k+1 else f d);split
  ·omega
  ·rename_i e;exact h.one d (((hm d).1 hd).resolve_right e) rE
 ·by_cases e:d=k
  ·exact(hm d).2 (.inr e)
  ·have h1:1<=(if d=k then f k+1 else f d):=h1;rw[aq e]at h1;exact(hm d).2 (.inl (h.all d hd rE h1))
theorem WI.RP{D st:List Nat}{f:Nat->Nat}(h:WI T D st f):D.length+st.length<=T.length:=by
 have:=lS h.nd (m:=T.map (·.num)) λd hd=>(h.dir d hd).1.mem;simpa using this
structure M9(T:List Nd)(D:List Nat)(f:Nat->Nat):Prop where
 wi:WI T D [] f
 f:∀k,f k=rq T D k
 u6:∀d∈D,∀e∈dY T d,(nodeAt T e.2).isSome=true/\e.2≠0
theorem Step.aT{d k:Nat}{w:Nm}(h:Step T d w k):jO T d/\(w,k)∈dY T d:=by
 obtain⟨n,h1,h2,h3⟩:=h;exact⟨⟨n,h1,h2⟩,by unfold dY;rw[h1];exact gL h3⟩
theorem py.step(p:py T){d k:Nat}{w:Nm}(h:jO T d)(he:(w,k)∈dY T d):Step T d w k:=by
 obtain⟨n,h1,h2⟩:=h;refine⟨n,h1,h2,?_⟩;unfold dY at he;rw[h1]at he;exact nq (Kc (p.jY n (bI h1).1)) he
theorem EH{D:List Nat}{d k:Nat}{w:Nm}(hd:d∈D)(he:(w,k)∈dY T d):1<=rq T D k:=by
 have h1:=sM he;have h2:=M8 (g:=λd=>dQ (dY T d) k) (D:=[d]) (M:=D) (by simp) λx hx=>by obtain rfl:=List.mem_singleton.1 hx;exact hd
 simp only[List.map_cons,List.map_nil,List.sum_cons,List.sum_nil]at h2;unfold rq;omega
theorem Xa{D:List Nat}{k:Nat}(h:rq T D k≠0):∃d∈D,∃w,(w,k)∈dY T d:=by
 induction D with
 |nil=>exact absurd rfl h
 |cons u D ih=>
  rw[vh]at h
  by_cases h1:dQ (dY T u) k=0
  ·obtain⟨d,hd,w,hw⟩:=ih (by omega);exact⟨d,by simp[hd],w,hw⟩
  ·have:0<(dY T u).countP λe=>decide (e.2=k):=Nat.pos_of_ne_zero h1;obtain⟨e,h2,h3⟩:=List.countP_pos_iff.1 this;have h3:e.2=k:=by simpa using h3
   exact⟨u,by simp,e.1,by rw[<-h3];exact h2⟩
theorem M9.an7{D:List Nat}{f:Nat->Nat}(h:M9 T D f){k:Nat}(hr:qo T k):jO T k->k∈D:=by
 induction hr with
 |root=>exact λ_=>by simpa using h.wi.root
 |@step d k w _ hs ih=>
  intro hk;obtain⟨h1,h2⟩:=hs.aT;have hd:=ih h1
  by_cases h0:k=0
  ·subst h0;simpa using h.wi.root
  ·have:=EH hd h2;have:=h.wi.all k hk h0 (by rw[h.f];exact this);simpa using this
theorem M9.no(p:py T){D:List Nat}{f:Nat->Nat}(h:M9 T D f){n:Nd}(hn:n∈T)(h0:n.num≠0)(hb:f n.num=0\/(f n.num:Int)≠n.bo):¬yG T:=λw=>by
 have hall:∀d,jO T d->d∈D:=λd hd=>by
  by_cases e:d=0
  ·subst e;simpa using h.wi.root
  ·obtain⟨x,hx,hk⟩:=hd;obtain⟨h1,h2⟩:=bI hx;have:=(w.B5 x h1 (by omega)).2;rw[h2]at this;exact h.an7 this ⟨x,hx,hk⟩
 have hD:D.Nodup:=by simpa using h.wi.nd
 have GG:∀d∈D,jO T d:=λd hd=>(h.wi.dir d (by simpa using hd)).1;have he:=p.eq hD GG hall n.num;obtain⟨h1,h2⟩:=w.B5 n hn h0;rw[h.f,he]at hb;rcases hb with hb|hb
 ·generalize hk:n.num=k at h2;cases h2 with
  |root=>exact h0 hk
  |@step d _ nm hd hs=>
   obtain⟨g1,g2⟩:=hs.aT;have:=EH (hall _ g1) g2;rw[<-hk,he]at this;omega
 ·exact hb h1
theorem M9.Dp(p:py T){D:List Nat}{f:Nat->Nat}(h:M9 T D f)(ha:∀n∈T,n.num≠0->f n.num≠0/\(f n.num:Int)=n.bo):yG T:=by
 have hall:∀d,jO T d->d∈D:=λd hd=>by
  by_cases e:d=0
  ·subst e;simpa using h.wi.root
  ·obtain⟨x,hx,hk⟩:=hd;obtain⟨h1,h2⟩:=bI hx;have:=(ha x h1 (by omega)).1;have:=h.wi.all d ⟨x,hx,hk⟩ e (by rw[<-h2];omega);simpa using this
 have hD:D.Nodup:=by simpa using h.wi.nd
 have GG:∀d∈D,jO T d/\qo T d:=λd hd=>h.wi.dir d (by simpa using hd);have he:=p.eq hD (λd hd=>(GG d hd).1) hall;refine⟨(GG 0 (by simpa using h.wi.root)).1,λn hn e hE=>?_,λn hn h0=>?_⟩
 ·by_cases hk:n.kind=1
  ·exact h.u6 n.num (hall _ ⟨n,p.at hn,hk⟩) e (by rw[p.ay hn];exact hE)
  ·rw[vg (p.jY n hn) hk]at hE;cases hE
 ·obtain⟨h1,h2⟩:=ha n hn h0;rw[h.f]at h1 h2;refine⟨by rw[<-he];exact h2,?_⟩;obtain⟨d,hd,w,hw⟩:=Xa h1;exact .step (GG d hd).2 (p.step (GG d hd).1 hw)
structure WIn(T:List Nd)(u:Nat)(D st:List Nat)(P:List (Nm×Nat))(f:Nat->Nat):Prop where
 wi:WI T (u::D) st f
 f:∀k,f k=rq T D k+dQ P k
 u6:∀d∈D,∀e∈dY T d,(nodeAt T e.2).isSome=true/\e.2≠0
 nd:(P.map (·.1)).Nodup
 sub:∀e∈P,e∈dY T u/\(nodeAt T e.2).isSome=true/\e.2≠0
theorem yH{α β:Type}{g:α->β}{l:List α}(h:(l.map g).Nodup):l.Nodup:=by
 rw[List.nodup_iff_pairwise_ne,List.pairwise_map]at h;exact h.imp λhab e=>hab (by rw[e])
theorem WIn.lt(p:py T){u:Nat}{D st:List Nat}{P:List (Nm×Nat)}{f:Nat->Nat}(h:WIn T u D st P f){e:Nm×Nat}(he:e∈dY T u)(hP:e.1∉P.map (·.1)):f e.2+1<=refs T e.2:=by
 have h1:dQ (P++[e]) e.2<=dQ (dY T u) e.2:=by
  refine Cx (List.nodup_append.2 ⟨yH h.nd,by simp,λa ha b hb q=>?_⟩) (λx hx=>?_) _
  ·obtain rfl:=List.mem_singleton.1 hb;subst q;exact hP (List.mem_map.2 ⟨a,ha,rfl⟩)
  ·rcases List.mem_append.1 hx with hx|hx
   ·exact(h.sub x hx).1
   ·obtain rfl:=List.mem_singleton.1 hx;exact he
 have hn:(u::D).Nodup:=(List.nodup_append.1 h.wi.nd).1;have h2:=p.le hn (λd hd=>(h.wi.dir d (by simp only[List.mem_append];exact .inl hd)).1) e.2;rw[vh]at h2;rw[EG,aB rfl]at h1;have:=h.f e.2;omega
theorem WIn.Dn{u:Nat}{D st st':List Nat}{P:List (Nm×Nat)}{f:Nat->Nat}(h:WIn T u D st P f){e:Nm×Nat}(he:e∈dY T u)(hP:e.1∉P.map (·.1))(h1:(nodeAt T e.2).isSome=true)(h0:e.2≠0)
 (hw:WI T (u::D) st' λq=>if q=e.2 then f e.2+1 else f q):WIn T u D st' (P++[e]) λq=>if q=e.2 then f e.2+1 else f q:=by
 refine⟨hw,λk=>?_,h.u6,?_,λx hx=>?_⟩
 ·rw[EG]
  by_cases q:k=e.2
  ·subst q;simp[h.f];omega
  ·have q2:¬e.2=k:=λq2=>q q2.symm;simp[h.f,q,q2]
 ·rw[List.map_append,List.nodup_append];refine⟨h.nd,by simp,λa ha b hb q=>?_⟩;simp only[List.map_cons,List.map_nil,List.mem_singleton]at hb;subst hb;subst q;exact hP ha
 ·rcases List.mem_append.1 hx with hx|hx
  ·exact h.sub x hx
  ·obtain rfl:=List.mem_singleton.1 hx;exact⟨he,h1,h0⟩
theorem WIn.out{u:Nat}{D st:List Nat}{P:List (Nm×Nat)}{f:Nat->Nat}(p:py T)(h:WIn T u D st P f)(hall:∀e∈dY T u,e.1∈P.map (·.1)):
 (∀k,f k=rq T (u::D) k)/\∀d∈u::D,∀e∈dY T d,(nodeAt T e.2).isSome=true/\e.2≠0:=by
 have iZ:((dY T u).map (·.1)).Nodup:=by
  obtain⟨n,h1,_⟩:=(h.wi.dir u (by simp)).1;unfold dY;rw[h1];exact Kc (p.jY n (bI h1).1)
 have Ib:∀e∈dY T u,e∈P:=λe he=>by
  obtain⟨x,hx,hx1⟩:=List.mem_map.1 (hall e he);obtain rfl:=map_inj (λz:Nm×Nat=>z.1) iZ (h.sub x hx).1 he hx1;exact hx
 refine⟨λk=>?_,λd hd e he=>?_⟩
 ·have h1:=Cx (yH h.nd) (λe he=>(h.sub e he).1) k;have h2:=Cx (yH iZ) Ib k;rw[vh,h.f];omega
 ·rcases List.mem_cons.1 hd with rfl|hd
  ·exact(h.sub e (Ib e he)).2
  ·exact h.u6 d hd e he
theorem Kd(g:Nd->Nat)(M:Nat):∀ {T:List Nd},(∀n∈T,g n<=M)->(T.map g).sum<=T.length*M
 |[],_=>by simp
 |n::r,h=>by
  have:=Kd g M (T:=r) λx hx=>h x (by simp[hx]);have:=h n (by simp);rw[List.map_cons,List.sum_cons,List.length_cons,Nat.add_mul];omega
theorem py.bC(p:py T){M:Nat}(h:∀n∈T,n.ay.length<=M)(k:Nat):Go.Proofs.YtchjlaebbhpioaaGreatDoor.refs T k<=64*M:=by
 have h1:=Kd (λn=>dQ n.ay k) M (T:=T) λn hn=>Nat.le_trans List.countP_le_length (h n hn)
 have h2:T.length<=64:=by
  have:=lS p.nd (m:=List.range 64) λx hx=>by
   obtain⟨n,hn,rfl⟩:=List.mem_map.1 hx;exact List.mem_range.2 (p.RP n hn)
  simpa using this
 have h3:T.length*M<=64*M:=Nat.mul_le_mul_right _ h2;exact Nat.le_trans h1 h3
end
namespace RX
-- (*cH/tree.asy).whole:ρ:=[.n t,.p tP]
abbrev aaK:Hp:=[(.b 0,1)]
end RX
section
open RX
def DH(R0 h0:PH):HP:=⟨λR h=>R0.le R/\h0.le h,λl l' ⟨a,b⟩=>⟨a.trans l,b.trans l'⟩⟩
theorem frz{P:Program}{f:FuncId}{args:dI}{A:HP}{B:Value->HP}(t:∀R0 h0,A.p R0 h0->az P f args (DH R0 h0) B):az P f args A B:=
 λw R h F s a=>t R h a w R h F s ⟨PH.le.refl _,PH.le.refl _⟩
theorem DH.to{R0 h0:PH}{A:HP}(a:A.p R0 h0):HP.aT (DH R0 h0) A:=.of λ_ _ ⟨l,l'⟩=>A.mono l l' a
theorem afa:prog.underlying 367=some (.array 64 3):=by kernel_rfl
theorem Xb:prog.underlying 183=some (.pointer 210):=by kernel_rfl
theorem acT:prog.underlying 368=some (.slice 183):=by kernel_rfl
def uw(b:Nat)(f:Nat->Nat):HP:=Ar 367 b (Tw 64 λk=>an (f k:Nat))
theorem wIx{b k:Nat}{x:Int}(hx:x=k)(hk:k<64){A:HP}:aM prog (W1 367 (pt b) (an x)) A (.pointer (some ⟨b,k,none⟩)):=anX afa (by kernel_rfl) (by kernel_rfl) hx hk
theorem wLd{b k:Nat}{f:Nat->Nat}(hk:k<64){P:HP}(hP:HP.aT P (uw b f)):aM prog (bO 3 (.pointer (some ⟨b,k,none⟩))) P (an (f k:Nat)):=aM.aT hP (anY rV Dj Oz (GD hk))
theorem wSt{b k:Nat}{f:Nat->Nat}{x:Int}(hx:x=(f k:Nat)+1)(hk:k<64){P:HP}(hP:HP.aT P (uw b f)){C:Value->HP}(post:∀R h,(uw b λq=>if q=k then f k+1 else f q).p R h->(C (cE)).p R h):aR prog (cv 3 (.pointer (some ⟨b,k,none⟩)) (an x)) P C:=by
 obtain⟨i,hi,_,hz,_⟩:=info_parts jS;refine RT ((anZ hi hz rfl rfl (by rw[Ao];exact hk)).wk ?_) hP;rintro v R h ⟨rfl,H⟩;rw[aaC hk]at H;refine post R h ?_;unfold uw
 have:(Tw 64 λj=>if j=k then an x else an (f j:Nat))=Tw 64 λq=>an ((if q=k then f k+1 else f q:Nat):Int):=Sn λj _=>by
  by_cases e:j=k
  ·subst e;rw[aB rfl,aB rfl,hx];rfl
  ·rw[aq e,aq e]
 rw[<-this];exact H
def vi(ns:List HN)(k:Nat):Value:=.pointer ((pf ns k).map λx=>⟨x.nb,0,none⟩)
def Stk(ns:List HN)(a:aG)(c:Nat)(st:List Nat):HP:=bY 183 1 a st.length c (st.map (vi ns))
theorem bY.cut{e:TypeId}{a:aG}{n c:Nat}{xs:List Value}{v:Value}{R h:PH}(H:(bY e 1 a (n+1) c (xs++[v])).p R h):(bY e 1 a n c xs).p R h:=by
 obtain⟨h1,h2⟩:=H;have hx:xs.length=n:=by simpa using h1
 refine⟨by simpa using hx,?_⟩;rcases h2 with⟨_,h,_⟩|⟨g,cur,e1,e2,e3,e4,e5,e6⟩
 ·cases h
 ·refine .inr ⟨g,cur,e1,e2,by omega,e4,e5,?_⟩;have:=congrArg (List.take n) e6;rw[List.take_take,List.take_left' hx]at this;rw[Nat.mul_one];rw[<-this];congr 1;omega
theorem Na{i j:Nat}{t ty:TypeId}{u v:Value}(h:i≠j):bZ (.slice t (.tmp i) none (some (.tmp j)) none) ty [(i,u),(j,v)]=i6 t u none (some v) none:=by
 have h':(i==j)=false:=by simpa using h
 simp[bZ,execOp,lW,i6,h']
theorem afb:([an 0,an 0,an 0,an 0,an 0,an 0,an 0,an 0,an 0,an 0,an 0,an 0,an 0,an 0,an 0,an 0,an 0,an 0,an 0,an 0,an 0,an 0,an 0,an 0,an 0,an 0,an 0,an 0,an 0,an 0,an 0,an 0,an 0,an 0,an 0,an 0,an 0,an 0,an 0,an 0,an 0,an 0,an 0,an 0,an 0,an 0,an 0,an 0,an 0,an 0,an 0,an 0,an 0,an 0,an 0,an 0,an 0,an 0,an 0,an 0,an 0,an 0,an 0,an 0]:List Value)=Tw 64 λ_=>an ((0:Nat):Int):=rfl
theorem Sr{T:List Nd}(h:¬yG T):jZ T=false:=@decide_eq_false _ (Classical.propDecidable _) h
theorem Nb{T:List Nd}(h:yG T):jZ T=true:=@decide_eq_true _ (Classical.propDecidable _) h
theorem an8{S:HP}{a:aG}{n c k:Nat}(hk:k<=n)(hle:∀R h,S.p R h->n<=c):aM prog (i6 368 (.slice a n c) none (some (an (k:Nat))) none) S (.slice a k c):=λw R h F s H=>by
 obtain⟨i,hi,_,_,_⟩:=info_parts MC;have hc:=hle R h H;have:=gp acT hi S a n c none (some k) none (Nat.zero_le _) (by simp;omega) (by simp) (λh=>(by cases h)) w R h F s H;refine Eq.trans this ?_
 have e:(if c=0 then a else a.map (·.add (0*iA prog 183)))=a:=by
  split
  ·rfl
  ·cases a with
   |none=>rfl
   |some y=>simp;rfl
 simp only[Option.getD_none,Option.getD_some,Nat.sub_zero,e]
theorem an9{ns:List HN}{a:aG}{c:Nat}{st:List Nat}{k q:Nat}{Q:HP}(hb:st.length<=1000000):aR prog (o4 368 368 (.slice a st.length c) (.slice (some ⟨q,0,none⟩) 1 1)) (aj (Stk ns a c st) (aj Q (HP.one q (.cells #[vi ns k] 183 (0,0)))))
 (λv=>aE λa'=>aE λc'=>aA (v=.slice a' (st.length+1) c') (aj (Stk ns a' c' (st++[k])) Q)):=by
 obtain⟨i,hi,h1,h2,h3⟩:=info_parts MC;have:=fy 368 368 183 i _ acT hi h1 (by rw[h2];rfl) (by omega) a st.length c (st.map (vi ns)) (aj Q (HP.one q (.cells #[vi ns k] 183 (0,0)))) ⟨q,0,none⟩ 1 1 [vi ns k] (Rd.right (eQ q #[vi ns k] _)) (by rw[h2];rfl) (λu hu=>by obtain rfl:=List.mem_singleton.1 hu;rfl) (by unfold maxLen;omega) (by rw[h3];omega);rw[h2]at this;refine this.wk ?_;rintro v R h ⟨a',c',rfl,H⟩;refine⟨a',c',rfl,ae H (λx hx=>?_) λx hx=>ai hx⟩;unfold Stk;rw[List.length_append,List.map_append];exact hx
theorem afc{l:AL Nm}{c:Nat}{ay:List (Nm×Nat)}(hI:fC l c)(hk:∀k,aY k l=(lk ay k).map λn=>an n){y:Nm×Value×Nat}(hy:y∈l):∃k,(y.1,k)∈ay/\lk ay y.1=some k/\y.2.1=an (k:Nat):=by
 have h:=i9 y.1 y.2.1 y.2.2 l hI.1 hy;rw[hk]at h;cases hl:lk ay y.1 with
 |none=>rw[hl]at h;cases h
 |some k=>rw[hl]at h;exact⟨k,gL hl,rfl,(Option.some.inj h).symm⟩
theorem ajq{l:AL Int}{c:Nat}{ns:List HN}(hI:fC l c)(hk:∀k,aY k l=fT ns k){y:Int×Value×Nat}(hy:y∈l):∃x,x∈ns/\(x.p.num:Int)=y.1/\y.2.1=pt x.nb:=by
 have h:=i9 y.1 y.2.1 y.2.2 l hI.1 hy;rw[hk]at h;unfold fT at h;obtain⟨x,h1,h2⟩:=Option.map_eq_some_iff.1 h;exact⟨x,List.mem_of_find?_eq_some h1,by simpa using List.find?_some h1,h2.symm⟩
theorem Ss{ns:List HN}{x:HN}(hx:x∈ns):(fT ns x.p.num).isSome=true:=by
 unfold fT;rw[Option.isSome_map,List.find?_isSome];exact⟨x,hx,by simp⟩
def OI(t:TS)(sb:Nat)(a:aG)(n c:Nat)(p q:HP)(m:Nat):Prop:=∃(D st:List Nat) (f:Nat->Nat),n=st.length/\(st.length≠0->a.isSome=true)/\WI t.aS D st f/\(∀k,f k=rq t.aS D k)/\(∀d∈D,∀e∈dY t.aS d,(nodeAt t.aS e.2).isSome=true/\e.2≠0)/\HP.aT p (Stk t.ns a c st)/\HP.aT q (uw sb f)/\m+D.length=t.aS.length
def II(t:TS)(sb:Nat)(u:Nat)(D:List Nat)(mb it cl:Nat)(l:AL Nm)(a:aG)(n c:Nat)(pi pk pa:HP)(m:Nat):Prop:=∃(st:List Nat) (P:List (Nm×Nat)) (S:Array Nat) (f:Nat->Nat),n=st.length/\(st.length≠0->a.isSome=true)/\WIn t.aS u D st P f/\Tx l S (P.map (·.1))/\HP.aT pi (HP.one it (.mapIter (some mb) cl S cl))/\HP.aT pk (Stk t.ns a c st)/\HP.aT pa (uw sb f)/\m+P.length=l.length
def FI(t:TS)(f:Nat->Nat)(mb it cl:Nat)(l:AL Int)(pi:HP)(m:Nat):Prop:=∃(S:Array Nat) (P:List Int),Tx l S P/\HP.aT pi (HP.one it (.mapIter (some mb) cl S cl))/\(∀n∈t.aS,(n.num:Int)∈P->n.num≠0->f n.num≠0/\(f n.num:Int)=n.bo)/\m+P.length=l.length
theorem xg{κ:Type}[DecidableEq κ]{l:AL κ}{S:Array Nat}{P:List κ}(h:Tx l S P):P.length<=l.length:=by
 have:=lS h.nd h.sub;simpa using this
set_option maxHeartbeats 4000000 in
theorem Xc{b:Nat}{t:TS}(hok:KX (-1) t.aS=true)(Nc:∀n∈t.aS,n.ay.length<=1000000000):
 az prog 311 #[pt b] (aU b t) (λv=>aA (v=.bool (jZ t.aS)) (aU b t)):=by
 refine frz λR0 h0 H0=>?_;have hQ:HP.aT (DH R0 h0) (aU b t):=DH.to H0;have pp:=py.of hok;have iW:∀ {x:Bool} {A:HP},HP.aT A (DH R0 h0)->jZ t.aS=x->HP.aT A (aA (Value.bool x=.bool (jZ t.aS)) (aU b t)):=λhA hx=>(hA.trans hQ).trans (.of λR h H=>⟨by rw[hx],H⟩);have no:∀ {A:HP},HP.aT A (DH R0 h0)->¬yG t.aS->HP.aT A (aA (Value.bool false=.bool (jZ t.aS)) (aU b t)):=λhA hn=>iW hA (Sr hn);refine ao (ρ:=[.n b,.p (DH R0 h0)]) {iS:=[367,3],fk:=[183],hv:=[(0,[(.b 8),(.b 7)]),(2,[(.b 21),(.a 9),(.b 7)]),(4,[(.b 16)])],aT:=[(49,[9,3]),(92,[3,183])],YT:=[(.b 0)],dN:=true,dv:=true,iV:=[(0,8,(.b 0))],ck:=[183]} [(.ptr 0 0)] aaK 2 ?_
 try simp only[aaB,Na,ne_eq,Nat.reduceEqDiff,not_false_eq_true]
 have lk0:=(mE (b:=b) (t:=t) 0).aT hQ;refine⟨t.mb,fq.aT hQ,vi t.ns 0,lk0,_,Ap (p:=(pf t.ns 0).map λx=>⟨x.nb,0,none⟩) (by kernel_rfl) Xb,?_⟩
 have RP:t.aS.length<=64:=by
  have:=lS pp.nd (m:=List.range 64) λx hx=>by
   obtain⟨n,hn,rfl⟩:=List.mem_map.1 hx;exact List.mem_range.2 (pp.RP n hn)
  simpa using this
 obtain⟨l0,c0,QE,Eh,hh0⟩:=aaf H0;have Zc:∀R h,(DH R0 h0).p R h->h t.mb=some (aX cr l0 c0):=λR h H=>H.2 _ _ hh0
 have aoa:∀ {k:Nat},(nodeAt t.aS k).isSome=true->k<64:=λ{k} h=>by
  obtain⟨n,hn⟩:=Option.isSome_iff_exists.1 h;obtain⟨h1,h2⟩:=bI hn;rw[<-h2];exact pp.RP n h1
 have right:∀ {A:HP},HP.aT (aj A (DH R0 h0)) (DH R0 h0):=.of λR h H=>ah H;refine⟨λhn=>no (HP.aT.refl _) λw=>?_,λhn=>?_⟩
 ·obtain⟨n,xD,_⟩:=w.root;rw[jX]at xD;cases G9:pf t.ns 0 with
  |none=>rw[G9]at xD;cases xD
  |some x=>rw[G9]at hn;cases hn
 obtain⟨x0,G9⟩:∃x0,pf t.ns 0=some x0:=by
  cases G9:pf t.ns 0 with
  |none=>rw[G9]at hn;exact absurd rfl hn
  |some x=>exact⟨x,rfl⟩
 obtain⟨aob,asD⟩:=sy G9;have e0:vi t.ns 0=pt x0.nb:=by unfold vi;rw[G9];rfl
 refine⟨x0.nb,by rw[e0];exact bK,x0.p.kind,(mF aob).aT hQ,⟨λhk=>no (HP.aT.refl _) λw=>?_,λhk=>?_⟩⟩
 ·obtain⟨n,hn,xD⟩:=w.root;rw[jX,G9]at hn;cases hn;exact hk xD
 have hk:x0.p.kind=1:=by simpa using hk
 have ajr:jO t.aS 0:=⟨x0.p,by rw[jX,G9];rfl,hk⟩;intro sb rb;refine⟨λa n c w p q=>∃m,OI t sb a n c p q m,λa n c w p q=>cY (OI t sb a n c p q),⟨t.aS.length,[],[0],λ_=>0,rfl,λ_=>rfl,WI.init ajr,λ_=>rfl,λ_ h=>(by cases h),?_,?_,by simp⟩,?_⟩
 ·refine .of λR h H=>⟨rfl,.inr ⟨rb,#[vi t.ns 0],rfl,H,Nat.le_refl _,by unfold maxLen;omega,rfl,rfl⟩⟩
 ·refine .of λR h H=>?_;unfold uw Ar;rw[<-afb];exact H
 intro a n c w p q hOI;have hO:=gr hOI;generalize IG:cY (OI t sb a n c p q)=N at hO⊢;obtain⟨D,st,f,rfl,kL,hW,hf,ajs,hp,hq,hm⟩:=hO;refine⟨λhlt=>?_,λlH=>?_⟩
 ·rcases List.eq_nil_or_concat st with rfl|⟨st,u,rfl⟩
  ·simp at hlt
  rw[List.concat_eq_append]at*;have hlen:(st++[u]).length=st.length+1:=by simp
  rw[hlen]at kL IG⊢;have e1:((st.length+1:Nat):Int) - 1=(st.length:Nat):=by omega
  rw[e1];have St:=hW.RP;rw[hlen]at St;obtain⟨⟨nu,hnu,hnk⟩,hru⟩:=hW.dir u (by simp);obtain⟨xu,hxu,yr,kM⟩:=zv (t:=t) (k:=u) (by rw[hnu];rfl);rw[yr]at hnu;cases hnu;obtain⟨lu,cu,hIu,hku,hhu⟩:=dK.vB (aU.node H0 kM) hnk;have hmu:∀R h,(DH R0 h0).p R h->h xu.mb=some (aX sE lu cu):=λR h H=>H.2 _ _ hhu;have Cy:dY t.aS u=xu.p.ay:=by unfold dY;rw[yr]
  have emo:xu.gK=some xu.mb:=by unfold HN.gK;rw[aB hnk]
  have epu:vi t.ns u=pt xu.nb:=by unfold vi;rw[hxu];rfl
  have ajt:HP.aT (aj p (DH R0 h0)) (Stk t.ns a c (st++[u])):=(HP.aT.aj hp _).trans (.of λR h H=>ai H);refine⟨eU _ (by omega) (by omega),λ_=>⟨by omega,λ_=>⟨by omega,λ_=>⟨kL (by omega),λ_=>?_⟩⟩⟩⟩;refine⟨pt xu.nb,?_,a,st.length,c,?_,xu.nb,bK,xu.mb,?_,?_⟩
  ·refine aM.aT ajt ?_;refine cU Xb (by kernel_rfl) (by kernel_rfl) (bY.rd _ _ _ _ _ _) (k:=st.length*1) (off:=0) ?_;show _=some (pt xu.nb);rw[<-epu];simp
  ·refine aM.aT ajt (an8 (Nat.le_succ _) λR h H=>?_);have:=bY.le H;rw[hlen]at this;exact this
  ·rw[<-emo];exact((pj kM).aT hQ).aT right
  refine(wK (Q:=aj p (DH R0 h0)) (enc:=sE) (l:=lu) (c:=cu) wP λR h ⟨_,_,_,_,l2,_,H⟩=>l2 _ _ (hmu _ _ H)).wk ?_;rintro v R h ⟨it,rfl,H⟩;refine⟨it,HP.one it (.mapIter (some xu.mb) cu #[] cu),p,rfl,?_,H⟩;clear H;have aoe:=hW.pop;refine⟨λw a n c pi pk pa=>∃m,II t sb u D xu.mb it cu lu a n c pi pk pa m,λw a n c pi pk pa=>cY (II t sb u D xu.mb it cu lu a n c pi pk pa),⟨lu.length,st,[],#[],f,rfl,λ_=>kL (by omega),⟨aoe,λk=>by simp[dQ,hf],ajs,List.nodup_nil,λ_ h=>(by cases h)⟩,Tx.nil lu,.refl _,hp.trans (.of λR h H=>?_),hq,rfl⟩,?_⟩
  ·unfold Stk at H⊢;rw[List.map_append,hlen]at H;exact bY.cut H
  intro w2 a2 n2 c2 pi pk pa hII;have hI:=gr hII;generalize hMe:cY (II t sb u D xu.mb it cu lu a2 n2 c2 pi pk pa)=M at hI⊢;obtain⟨Su,P,S,g,rfl,Xd,hWI,hR,hpi,hpk,hpa,hM⟩:=hI;refine RT ((wL (Q:=aj pk (DH R0 h0)) hIu.2 λR h ⟨_,_,_,_,l2,_,H⟩=>l2 _ _ (hmu _ _ H)).wk ?_) (HP.aT.aj hpi _);rintro v R h ⟨e,he,H⟩;rcases e with _|y
  ·refine⟨false,cE,cE,_,he.1,⟨λh=>(by cases h),λ_=>?_⟩,H⟩;clear H
   have hall:∀e∈dY t.aS u,e.1∈P.map (·.1):=λe hE=>hR.done he.2 e.1 (by
    rw[Cy]at hE;obtain⟨z,hz⟩:=Option.isSome_iff_exists.1 ((Ai e.1 xu.p.ay).2 (List.mem_map.2 ⟨e,hE,rfl⟩));rw[<-gH,hku,hz];rfl)
   obtain⟨o1,o2⟩:=hWI.out pp hall;have lp:OI t sb a2 Su.length c2 pk pa (N - 1):=⟨u::D,Su,g,rfl,Xd,hWI.wi,o1,o2,hpk,hpa,by simp;omega⟩;refine⟨⟨_,lp⟩,?_⟩;have:=gm lp;show cY (OI t sb a2 Su.length c2 pk pa)<cY (OI t sb a (st.length+1) c p q);rw[IG];omega
  ·obtain⟨rfl,tg,FG⟩:=he;obtain⟨k,LG,iV,hyv⟩:=afc hIu hku tg;obtain⟨Dd,hR2⟩:=hR.step hIu tg FG;have heu:(y.1,k)∈dY t.aS u:=by rw[Cy];exact LG
   have kE:=nA (enc:=sE) (it:=it) (m:=xu.mb) (c:=cu) (S:=S) (x:=y) hIu.2 tg (A:=aj (HP.one it (.mapIter (some xu.mb) cu (gR S (some y)) cu)) (aj pk (DH R0 h0))) (λR h H=>ai H) (λR h H=>by
    obtain⟨_,_,_,_,l2,_,_,_,_,_,l4,_,b2⟩:=H;exact l2 _ _ (l4 _ _ (hmu _ _ b2)))
   rw[hyv]at kE;have lkk:=(mE (b:=b) (t:=t) k).aT hQ;refine⟨true,sE y.1,y.2.1,_,rfl,⟨λ_=>⟨y.1,k,kE,t.mb,fq.aT hQ,vi t.ns k,lkk,_,Ap (p:=(pf t.ns k).map λx=>⟨x.nb,0,none⟩) (by kernel_rfl) Xb,?_⟩,λh=>(by simp at h)⟩,H⟩;clear H;have ajv:xu.p∈t.aS/\xu.p.num=u:=bI yr;refine⟨λhn=>no (HP.aT.refl _) λw=>?_,λhn=>⟨λEh=>no (HP.aT.refl _) λw=>(w.u6 _ ajv.1 _ LG).2 (by omega),λEh=>?_⟩⟩
   ·have:=(w.u6 _ ajv.1 _ LG).1;obtain⟨z,hz,_⟩:=zv this;rw[hz]at hn;cases hn
   obtain⟨xk,Dt⟩:∃x,pf t.ns k=some x:=by
    cases hx:pf t.ns k with
    |none=>rw[hx]at hn;exact absurd rfl hn
    |some x=>exact⟨x,rfl⟩
   obtain⟨ajw,ajx⟩:=sy Dt;have aaN:nodeAt t.aS k=some xk.p:=by rw[jX,Dt];rfl
   have hks:(nodeAt t.aS k).isSome=true:=by rw[aaN];rfl
   have ajy:xk.p∈t.aS:=(bI aaN).1;have zW:=aoa hks;have aaO:k≠0:=by omega
   have epk:vi t.ns k=pt xk.nb:=by unfold vi;rw[Dt];rfl
   have hlt:g k+1<=refs t.aS k:=hWI.lt pp heu Dd;have aql:=pp.bC Nc k;refine⟨.pointer (some ⟨sb,k,none⟩),wIx rfl zW,(g k:Nat),wLd zW hpa,eU _ (by omega) (by omega),λ_=>⟨.pointer (some ⟨sb,k,none⟩),wIx rfl zW,?_⟩⟩;refine wSt rfl zW hpa λR h H=>⟨uw sb _,rfl,?_,H⟩;clear H;refine⟨.pointer (some ⟨sb,k,none⟩),wIx rfl zW,_,wLd zW (HP.aT.refl _),xk.nb,by rw[epk];exact bK,xk.p.bo,(oJ ajw).aT hQ,?_⟩;rw[aB rfl];refine⟨λhgt=>no (HP.aT.refl _) λw=>?_,λhle=>?_⟩
   ·have:=(w.B5 xk.p ajy (by rw[ajx];exact aaO)).1;rw[ajx]at this;omega
   refine⟨xk.nb,by rw[epk];exact bK,xk.p.kind,(mF ajw).aT hQ,⟨λGG q=>?_,λajz=>?_⟩⟩
   ·have Hc:jO t.aS k:=⟨xk.p,aaN,GG⟩;have hl1:=(EF (pp.jY _ ajy) GG).1;have hg0:g k=0:=by omega
    have hrk:qo t.aS k:=.step hru (pp.step ⟨xu.p,yr,hnk⟩ heu);have Pv:=hWI.wi.push Hc hrk aaO hg0;have ajA:=Pv.RP;refine RT ((an9 (ns:=t.ns) (k:=k) (Q:=DH R0 h0) (by simp at ajA;omega)).wk ?_) (HP.aT.aj hpk _);rintro v R h ⟨a3,c3,rfl,H⟩;have hs3:a3.isSome=true:=bY.some (ai H) (by simp);refine⟨a3,_,c3,tt,Stk t.ns a3 c3 (Su++[k]),rfl,?_,aW H⟩;clear H
    have lp:II t sb u D xu.mb it cu lu a3 (Su.length+1) c3 (HP.one it (.mapIter (some xu.mb) cu (gR S (some y)) cu)) (Stk t.ns a3 c3 (Su++[k])) (uw sb λq=>if q=k then g k+1 else g q) (M - 1):=
     ⟨Su++[k],P++[(y.1,k)],S.push y.2.2,_,by simp,λ_=>hs3,hWI.Dn (e:=(y.1,k)) heu Dd hks aaO Pv,by rw[List.map_append];exact hR2,.refl _,.refl _,.refl _,by have:=xg hR2;simp at this⊢;omega⟩
    refine⟨⟨_,lp⟩,?_⟩;have:=gm lp;have:=xg hR2;simp at this;show cY (II t sb u D xu.mb it cu lu a3 (Su.length+1) c3 _ _ _)<cY (II t sb u D xu.mb it cu lu a2 Su.length c2 pi pk pa);rw[hMe];omega
   ·have Hc:¬jO t.aS k:=λ⟨n,h1,h2⟩=>by rw[aaN]at h1;cases h1;exact ajz h2
    have Pv:=hWI.wi.file Hc
    have lp:II t sb u D xu.mb it cu lu a2 Su.length c2 (HP.one it (.mapIter (some xu.mb) cu (gR S (some y)) cu)) pk (uw sb λq=>if q=k then g k+1 else g q) (M - 1):=
     ⟨Su,P++[(y.1,k)],S.push y.2.2,_,rfl,Xd,hWI.Dn (e:=(y.1,k)) heu Dd hks aaO Pv,by rw[List.map_append];exact hR2,.refl _,hpk,.refl _,by have:=xg hR2;simp at this⊢;omega⟩
    refine⟨⟨_,lp⟩,?_⟩;have:=gm lp;have:=xg hR2;simp at this;show cY (II t sb u D xu.mb it cu lu a2 Su.length c2 _ _ _)<cY (II t sb u D xu.mb it cu lu a2 Su.length c2 pi pk pa);rw[hMe];omega
 ·have hst:st=[]:=List.length_eq_zero_iff.1 (by omega);subst hst;have hE:M9 t.aS D f:=⟨hW,hf,ajs⟩;refine⟨t.mb,fq.aT hQ,?_⟩;refine(wK (Q:=DH R0 h0) (enc:=cr) (l:=l0) (c:=c0) zu Zc).wk ?_;rintro v R h ⟨it,rfl,H⟩;refine⟨it,HP.one it (.mapIter (some t.mb) c0 #[] c0),DH R0 h0,rfl,?_,H⟩;clear H;refine⟨λw pi=>∃m,FI t f t.mb it c0 l0 pi m,λw pi=>cY (FI t f t.mb it c0 l0 pi),⟨l0.length,#[],[],Tx.nil l0,.refl _,λ_ _ h=>(by cases h),rfl⟩,?_⟩;intro w2 pi hFI;have hF:=gr hFI;generalize hMe:cY (FI t f t.mb it c0 l0 pi)=M at hF⊢;obtain⟨S,P,hR,hpi,Cu,hM⟩:=hF;refine RT ((wL (Q:=DH R0 h0) QE.2 Zc).wk ?_) (HP.aT.aj hpi _);rintro v R h ⟨e,he,H⟩;rcases e with _|y
  ·refine⟨false,cE,cE,_,he.1,⟨λh=>(by cases h),λ_=>iW (HP.aT.refl _) (Nb (hE.Dp pp λn hn h0=>?_))⟩,H⟩;obtain⟨z,hz,rfl⟩:=List.mem_map.1 (show n∈t.ns.map (·.p)from hn);refine Cu _ hn (hR.done he.2 _ ?_) h0;rw[<-gH,Eh];exact Ss hz
  ·obtain⟨rfl,tg,FG⟩:=he;obtain⟨x,kM,RK,hyv⟩:=ajq QE Eh tg;obtain⟨Dd,hR2⟩:=hR.step QE tg FG
   have kE:=nA (enc:=cr) (it:=it) (m:=t.mb) (c:=c0) (S:=S) (x:=y) QE.2 tg (A:=aj (HP.one it (.mapIter (some t.mb) c0 (gR S (some y)) c0)) (DH R0 h0)) (λR h H=>ai H) (λR h H=>by
    obtain⟨_,_,_,_,l2,_,b2⟩:=H;exact l2 _ _ (Zc _ _ b2))
   rw[hyv]at kE;have yr:x.p∈t.aS:=List.mem_map.2 ⟨x,kM,rfl⟩;have zW:=pp.RP _ yr;refine⟨true,cr y.1,y.2.1,_,rfl,⟨λ_=>⟨y.1,pt x.nb,kE,?_⟩,λh=>(by simp at h)⟩,H⟩;clear H
   have nxt:(x.p.num≠0->f x.p.num≠0/\(f x.p.num:Int)=x.p.bo)->∀ {w3:Bool},(∃m,FI t f t.mb it c0 l0 (HP.one it (.mapIter (some t.mb) c0 (gR S (some y)) c0)) m)/\cY (FI t f t.mb it c0 l0 (HP.one it (.mapIter (some t.mb) c0 (gR S (some y)) c0)))<M:=λhx w3=>by
    have hlen:=xg hR2;simp at hlen
    have lp:FI t f t.mb it c0 l0 (HP.one it (.mapIter (some t.mb) c0 (gR S (some y)) c0)) (M - 1):=⟨_,P++[y.1],hR2,.refl _,λn hn hP h0=>by
     rcases List.mem_append.1 hP with h|h
     ·exact Cu n hn h h0
     ·have e2:n.num=x.p.num:=by have:=List.mem_singleton.1 h;omega
      have e3:n=x.p:=map_inj (λz:Nd=>z.num) pp.nd hn yr e2;rw[e3];rw[e3]at h0;exact hx h0,by simp;omega⟩
    have:=gm lp;exact⟨⟨_,lp⟩,by omega⟩
   rw[<-RK];refine⟨λhne=>?_,λhe=>by have h:=nxt (λh=>absurd (show((x.p.num:Int)=0) by simpa using he) (by omega)) (w3:=w2);rw[<-hMe]at h;exact h⟩;have hne:x.p.num≠0:=by omega
   refine⟨.pointer (some ⟨sb,x.p.num,none⟩),wIx rfl zW,(f x.p.num:Nat),wLd zW hq,⟨λhz=>no (HP.aT.refl _) (hE.no pp yr hne (.inl (by omega))),λhz=>?_⟩⟩;refine⟨.pointer (some ⟨sb,x.p.num,none⟩),wIx rfl zW,(f x.p.num:Nat),wLd zW hq,x.nb,bK,x.p.bo,(oJ kM).aT hQ,⟨λKS=>no (HP.aT.refl _) (hE.no pp yr hne (.inr KS)),λKS=>?_⟩⟩;have h:=nxt (λ_=>⟨by omega,by simpa using KS⟩) (w3:=w2);rw[<-hMe]at h;exact h
end
namespace RX
-- cH/ajC.aok:ρ:=[.a ba,.n bl,.n bc,.p bP]
end RX
section
open RX
theorem Cz{α:Type}(f:RS->α×RS):∀(n:Nat) (s:RS),(du f n s).1.length<=n
 |0,_=>Nat.le_refl _
 |n+1,s=>by
  unfold du;split
  ·simp
  ·simpa using Cz f n _
theorem CA{α:Type}{f:RS->α×RS}(hf:tq f):∀(n:Nat) (s:RS),(du f n s).1.length<=s.1.length+1
 |0,_=>by simp[du]
 |n+1,s=>by
  unfold du;split
  ·simp
  ·simp only[List.length_cons];cases hw:(f s).2.2 with
   |true=>rw[xU f (.inr hw)];simp
   |false=>
    have h1:=hf s hw;have h2:=CA hf n (f s).2;omega
theorem EI{α:Type}{f:RS->α×RS}(hf:∀s,(f s).2.1.length<=s.1.length):∀(n:Nat) (s:RS),∀x∈(du f n s).1,∃s',s'.1.length<=s.1.length/\x=(f s').1
 |0,_,_,h=>by cases h
 |n+1,s,x,h=>by
  unfold du at h;split at h
  ·cases h
  ·rcases List.mem_cons.1 h with rfl|h
   ·exact⟨s,Nat.le_refl _,rfl⟩
   ·obtain⟨s',h1,h2⟩:=EI hf n _ x h;exact⟨s',Nat.le_trans h1 (hf s),h2⟩
theorem yI{α:Type}(f:RS->α×RS)(m:Int)(s:RS):(cD f m s).1=[]\/(cD f m s).1=(du f (bB s m).1 (bB s m).2).1:=by
 unfold cD;split
 ·exact .inl rfl
 ·exact .inr rfl
theorem Ke(s:RS){m:Int}(h:0<=m):((bB s m).1:Int)<=m:=by
 unfold bB;split
 ·simpa using h
 ·split
  ·simpa using h
  ·show((bg s 4).1:Int)<=m;omega
theorem Xe(s:RS):(fI s).2.1.length<=s.1.length:=
 Nat.le_trans (wm (f:=kz) Gz _ _) (Nat.le_trans (ni _ _) (Nat.le_trans (fN _ _) (Nat.le_trans (fN _ _) (fN _ _))))
theorem Sv(s:RS):(cD fI 64 s).1.length<=64:=by
 rcases yI fI 64 s with e|e
 ·rw[e];simp
 ·rw[e];have:=Cz fI (bB s 64).1 (bB s 64).2;have:=Ke s (m:=64) (by omega);omega
theorem Xf(s:RS):∀x∈(cD fI 64 s).1,x.ay.length<=s.1.length+1:=λx hx=>by
 rcases yI fI 64 s with e|e
 ·rw[e]at hx;cases hx
 ·rw[e]at hx;obtain⟨s',h1,rfl⟩:=EI Xe _ _ x hx;have h0:=kg s 64
  have key:∀q:RS,q.1.length<=s'.1.length->(cD kz 9223372036854775807 q).1.length<=s'.1.length+1:=λq hq=>by
   rcases yI kz 9223372036854775807 q with e2|e2
   ·rw[e2];simp
   ·rw[e2];have:=CA w6 (bB q 9223372036854775807).1 (bB q 9223372036854775807).2;have:=kg q 9223372036854775807;omega
  have:=key (cJ (bg (bg (bg s' 1).2 1).2 2).2 512).2 (Nat.le_trans (ni _ _) (Nat.le_trans (fN _ _) (Nat.le_trans (fN _ _) (fN _ _))));show(cD kz 9223372036854775807 (cJ (bg (bg (bg s' 1).2 1).2 2).2 512).2).1.length<=_;omega
def yJ(wv:List Nd->Bool)(l:ax):Option (Int×List Nd):=match cO l with
 |none=>none
 |some q=>
  let u:=ct (bg (q,false) 8).1
  let r:=cD fI 64 (bg (q,false) 8).2
  if r.2.2=true\/r.2.1≠[]\/u<0\/4294967296<u then none else if lQ wv (YL r.1)=true then some (u,YL r.1)else none
def yK(wv:List Nd->Bool)(l:ax)(S:HP)(v:Value):HP:=match yJ wv l with
 |none=>aA (v=.tuple #[.int .i64 0,.pointer none,.int .i64 3]) S
 |some (u,T1)=>aE λb:Nat=>aE λt:TS=>aA (v=.tuple #[.int .i64 u,pt b,.int .i64 0]/\t.aS=T1) (aj S (aU b t))
theorem Sw(wv:List Nd->Bool)(hw:∀b t,KX (-1) t.aS=true->(∀n∈t.aS,n.ay.length<=1000000000)->az prog 311 #[pt b] (aU b t) (λv=>aA (v=.bool (wv t.aS)) (aU b t)))
 (a:aG) (n c:Nat) (l:ax) (S:HP) (hr:bX S a n (l.map eX)) (hl:l.length=n) (hc:n<=c) (ha:n≠0->a.isSome=true) (hb:n<=1000000):
 az prog 261 #[.slice a n c] S (yK wv l S):=by
 refine ao (ρ:=[.a a,.n n,.n c,.p S]) {fk:=[123]} [(.s 0)] [(0,3)] 4 ?_;refine(tx a n c l S hr hl hc ha (by omega)).wk ?_;rintro v R h ⟨a',c',rfl,H⟩;refine⟨a',_,c',dS a' _ c' _,_,S,rfl,?_,ak H⟩;cases hu:cO l with
 |none=>
  refine⟨λ_=>.of λR h H=>?_,λh=>(by simp at h)⟩;have:yJ wv l=none:=by unfold yJ;rw[hu]
  unfold yK;rw[this];exact⟨rfl,H⟩
 |some q=>
  refine⟨λh=>absurd rfl h,λ_=>?_⟩;simp only[Option.getD_some]
  have hq:q.length<=1000000:=by
   unfold cO at hu;split at hu
   ·cases hu
   ·split at hu
    ·cases hu;rw[List.length_take];omega
    ·cases hu
  refine(pS a' _ c' q _ (ow _ _ _ _ _ _) rfl (by omega)).wk ?_;rintro v R h ⟨b,rfl,H⟩;refine⟨b,_,_,rfl,?_,ak H⟩;refine(mW b (q,false)).wk ?_;rintro v R h ⟨rfl,H⟩;refine⟨_,_,rfl,?_,H⟩;have hL:(bg (q,false) 8).2.1.length<=1000000:=Nat.le_trans (fN _ _) hq;refine(GA b _ 64 (by omega)).wk ?_;rintro v R h ⟨ea,ec,es,⟨rfl,xM⟩,H⟩;refine⟨ea,_,ec,_,_,rfl,?_,H⟩;refine(lV b _).wk ?_;rintro v R h ⟨rfl,H⟩
  have hd:yJ wv l=if(cD fI 64 (bg (q,false) 8).2).2.2=true\/(cD fI 64 (bg (q,false) 8).2).2.1≠[]\/ct (bg (q,false) 8).1<0\/4294967296<ct (bg (q,false) 8).1 then none
   else if lQ wv (YL (cD fI 64 (bg (q,false) 8).2).1)=true then some (ct (bg (q,false) 8).1,YL (cD fI 64 (bg (q,false) 8).2).1)else none:=by unfold yJ;rw[hu]
  have bad:yJ wv l=none->∀ {A:HP},HP.aT A S->HP.aT A (yK wv l S (.tuple #[an 0,.pointer none,an 3])):=λh A hA=>by
   unfold yK;rw[h];exact hA.trans (.of λR h H=>⟨rfl,H⟩)
  refine⟨_,_,rfl,⟨λh1=>bad ?_ (HP.aT.refl _),λh1=>⟨λh2=>bad ?_ (HP.aT.refl _),λh2=>⟨λh3=>bad ?_ (HP.aT.refl _),λh3=>?_⟩⟩⟩,H⟩
  ·rw[hd,aB]
   by_cases e:(cD fI 64 (bg (q,false) 8).2).2.2=true\/(cD fI 64 (bg (q,false) 8).2).2.1≠[]
   ·exact e.elim .inl λe=>.inr (.inl e)
   ·exact absurd (aq e) h1
  ·rw[hd,aB (.inr (.inr (.inl h2)))]
  ·rw[hd,aB (.inr (.inr (.inr h3)))]
  ·have mK:¬((cD fI 64 (bg (q,false) 8).2).2.2=true\/(cD fI 64 (bg (q,false) 8).2).2.1≠[]):=λe=>by rw[aB e]at h1;cases h1
   rw[aq (λe=>e.elim (λe=>mK (.inl e)) λe=>e.elim (λe=>mK (.inr e)) λe=>e.elim h2 h3)]at hd
   have St:es.length<=64:=by
    have:=Sv (bg (q,false) 8).2;rw[<-xM]at this;simpa using this
   have Cy:∀x∈es,x.nd.ay.length<=1000001:=λx hx=>by
    have:=Xf (bg (q,false) 8).2 x.nd (by rw[<-xM];exact List.mem_map.2 ⟨x,hx,rfl⟩);omega
   have hT:((es.map (·.nd)).flatMap (·.ay)).length<=1000000000000:=by
    have:=km (λn:Nd=>n.ay) 1000001 (es.map (·.nd)) λn hn=>by
     obtain⟨x,hx,rfl⟩:=List.mem_map.1 hn;exact Cy x hx
    rw[List.length_map]at this;have h2:es.length*1000001<=64*1000001:=Nat.mul_le_mul_right _ St;omega
   refine(DG ea ec es hT (by omega)).wk ?_;rintro v R h ⟨rfl,cZ,⟨hm,tZ⟩,H⟩;refine⟨_,rfl,?_,H⟩
   have Nc:∀x∈cZ,x.nd.ay.length<=1000000000:=λx hx=>by
    have h1:x.nd∈YL (es.map (·.nd)):=by rw[<-hm];exact List.mem_map.2 ⟨x,hx,rfl⟩
    obtain⟨n,hn,he⟩:=List.mem_map.1 h1;obtain⟨y,hy,rfl⟩:=List.mem_map.1 hn;have:=Cy y hy;have e2:x.nd.ay=y.nd.ay:=by rw[<-he];unfold W0;split<;>rfl
    rw[e2];omega
   rw[<-tZ];refine(aaE wv hw ea ec cZ (by omega) Nc).wk ?_;rintro v R h ⟨b2,t2,⟨hv,hp⟩,H⟩;rw[hm,xM]at hv hp H
   by_cases hlo:lQ wv (YL (cD fI 64 (bg (q,false) 8).2).1)=true
   ·rw[aB hlo]at hv H hd;refine⟨pt b2,aU b2 t2,0,_,hv,⟨λh=>absurd rfl h,λ_=>.of λR h H=>?_⟩,ak H⟩;unfold yK;rw[hd];exact⟨b2,t2,⟨rfl,hp hlo⟩,H⟩
   ·rw[aq hlo]at hv H hd;refine⟨.pointer none,tt,3,_,hv,⟨λ_=>bad hd (HP.aT.refl _),λh=>(by simp at h)⟩,ak H⟩
end
namespace RX
def ajD:=(({aF:=[72,68,67,226,259,231,27,261]}:jo).aF)
end RX
section
open RX
theorem Xg(S:HP)(a:aG)(n c:Nat)(l:ax)(hr:bX S a n (l.map eX))(hl:l.length=n)(hb:n<=140737488355328):
 az prog 226 #[.slice a n c] S (λv=>aE λa'=>aE λc'=>aA (v=.slice a' n c') (aj (dS a' n c' l) S)):=by
 refine ao (ρ:=[.a a,.n n,.n c,.p S]) {} [(.s 0)] [(0,3)] 4 ?_;refine⟨λha=>.of λR h H=>?_,λha x=>?_⟩
 ·have hn:n=0:=hr.none R h H (by simpa using ha);subst hn;obtain rfl:l=[]:=List.eq_nil_of_length_eq_zero hl;exact⟨none,0,rfl,aW H|>λH=>ae H (λx _=>bY.nil _ _ R x) λ_ h=>h⟩
 ·have:=oB (some ⟨x,0,none⟩) 0 0 [] S a n c l hr hl (λ_=>by simpa[Option.isSome_iff_ne_none]using ha) (by omega);refine this.aK (λR h H=>ae H (λy hy=>⟨rfl,.inr ⟨x,#[],rfl,hy,Nat.le_refl _,by unfold maxLen;omega,rfl,rfl⟩⟩) λ_ h=>h) ?_;rintro v R h ⟨a',c',rfl,H⟩;rw[Nat.zero_add,List.nil_append]at H;exact⟨a',n,c',dS a' n c' l,by rw[Nat.zero_add],.of λR' h' H'=>⟨a',c',rfl,ak H'⟩,H⟩
theorem afe(S:HP)(a:aG)(n c:Nat)(l:List Nm)(hr:bX S a n (l.map sE))(hl:l.length=n)(hb:n<=1000000000):
 az prog 259 #[.slice a n c] S (λv=>aE λa'=>aE λc'=>aA (v=.slice a' n c') (aj (sv a' n c' l) S)):=by
 refine ao (ρ:=[.a a,.n n,.n c,.p S]) {} [(.s 0)] [(0,3)] 4 ?_;refine⟨λha=>.of λR h H=>?_,λha x=>?_⟩
 ·have hn:n=0:=hr.none R h H (by simpa using ha);subst hn;obtain rfl:l=[]:=List.eq_nil_of_length_eq_zero hl;exact⟨none,0,rfl,aW H|>λH=>ae H (λx _=>bY.nil _ _ R x) λ_ h=>h⟩
 ·have ha:a.isSome=true:=by simpa using ha
  obtain⟨ad,rfl⟩:=Option.isSome_iff_exists.1 ha;obtain⟨i,hi,h1,h2,h3⟩:=info_parts wG;have:=fy 45 45 9 i _ Jk hi h1 (by rw[h2];rfl) (by omega) (some ⟨x,0,none⟩) 0 0 [] S ad n c (l.map sE) hr.rd (by simp[hl,h2]) (aeC l) (by unfold maxLen;omega) (by rw[h3];omega);rw[h2]at this;refine this.aK (λR h H=>ae H (λy hy=>⟨rfl,.inr ⟨x,#[],rfl,hy,Nat.le_refl _,by unfold maxLen;omega,rfl,rfl⟩⟩) λ_ h=>h) ?_;rintro v R h ⟨a',c',rfl,H⟩;rw[Nat.zero_add,List.nil_append]at H;exact⟨a',n,c',sv a' n c' l,by rw[Nat.zero_add],.of λR' h' H'=>⟨a',c',rfl,ak H'⟩,H⟩
def xh(x:fH)(da:aG)(dc:Nat)(na:aG)(nc:Nat):Value:=.agg #[an x.err,an x.kind,an x.size,an x.bo,.slice da x.data.length dc,.slice na x.bp.length nc]
def tS(v:Value)(x:fH):HP:=aE λda:aG=>aE λdc:Nat=>aE λna:aG=>aE λnc:Nat=>aA (v=xh x da dc na nc/\x.data.length<=1000000/\x.bp.length<=1000000) (HP.both (bE da x.data.length x.data) (zU na x.bp.length x.bp))
theorem tS.iF:Iw tS:=λv x R h h' ⟨da,dc,na,nc,e,H1,H2⟩=>⟨da,dc,na,nc,e,H1,H2⟩
abbrev lT(m:Nat)(f:rl->Option fH):HP:=gI tS Cq m f
theorem Xh:prog.underlying 125=some (.map 44 47):=by kernel_rfl
def aff:Value:=.agg #[an 0,an 0,an 0,an 0,.slice none 0 0,.slice none 0 0]
theorem aaP:(prog.info? 47).map (λi=>(i.zero,i.size))=some (some aff,6):=by kernel_rfl
theorem Xi:∃i,prog.info? 47=some i/\i.zero=some aff/\i.size=6:=by
 have h:=aaP;obtain⟨i,h1,h2⟩:=Option.map_eq_some_iff.1 h;simp only[Prod.mk.injEq]at h2;exact⟨i,h1,h2.1,h2.2⟩
theorem acU{m:Nat}{f:rl->Option fH}{l:AL rl}{c:Nat}{R h:PH}(H:(aH tS Cq m f l c).p R h)(k:rl):
 (f k=none/\aY k l=none)\/∃x da dc na nc,f k=some x/\aY k l=some (xh x da dc na nc)/\x.data.length<=1000000/\x.bp.length<=1000000/\(bE da x.data.length x.data).p R h/\(zU na x.bp.length x.bp).p R h:=by
 cases hf:f k with
 |none=>exact .inl ⟨rfl,aH.no H hf⟩
 |some x=>
  obtain⟨v,h1,da,dc,na,nc,⟨rfl,e1,e2⟩,h2,h3⟩:=aH.Dp H tS.iF hf h;exact .inr ⟨x,da,dc,na,nc,rfl,h1,e1,e2,h2,h3⟩
structure RpS where
 nx:Int
 tb:Nat
 t:TS
 am:Nat
 f:rl->Option fH
 up:Int
 at':Int
 la:Int
def RpC(b:Nat)(s:RpS):HP:=HP.one b (.cells #[an s.nx,pt s.tb,.map (some s.am),an s.up,an s.at',an s.la,.slice none 0 0] 128 (0,0))
def ajE(b:Nat)(s:RpS):HP:=aj (RpC b s) (aj (aU s.tb s.t) (aj (lT s.am s.f) tt))
theorem Xj:az prog 25 #[] tt (λv=>aE λb:Nat=>aE λs:RpS=>aA (v=pt b/\s.nx=0/\s.up= -1/\s.at'= -1/\s.la=0/\s.t.aS=sH/\s.f=λ_=>none) (ajE b s)):=by
 refine ao (ρ:=[]) {aF:=ajD,bU:=[(283,[0])],dv:=true} [] [] 0 ?_;refine aaj.wk ?_;rintro v R h ⟨tb,t0,⟨rfl,h0⟩,H⟩;refine⟨tb,aU tb t0,rfl,?_,H⟩;intro m b;refine .of λR h H=>⟨b,⟨0,tb,t0,m,λ_=>none,-1,-1,0⟩,⟨rfl,rfl,rfl,rfl,rfl,h0,rfl⟩,?_⟩;exact ae H (λ_ h=>h) λx hx=>ae hx (λ_ h=>h) λy hy=>aD (gI.new tS Cq m hy)
variable {b:Nat}{s:RpS}
def sO(f:rl->Option fH)(k:rl)(x:fH):rl->Option fH:=match f k with
 |none=>g7 f k (some x)
 |some _=>f
def Xk(f:rl->Option fH)(l:AL rl)(k:rl):Prop:=(f k=none/\aY k l=none)\/∃x da dc na nc,f k=some x/\aY k l=some (xh x da dc na nc)/\x.data.length<=1000000/\x.bp.length<=1000000
theorem Pw{m:Nat}{f:rl->Option fH}{l:AL rl}{c:Nat}(k:rl){R h:PH}(H:(aH tS Cq m f l c).p R h):Xk f l k:=by
 rcases acU H k with h|⟨x,da,dc,na,nc,h1,h2,h3,h4,_⟩
 ·exact .inl h
 ·exact .inr ⟨x,da,dc,na,nc,h1,h2,h3,h4⟩
theorem acV{m:Nat}{f:rl->Option fH}{l:AL rl}{c:Nat}{k:rl}{x:fH}{da:aG}{dc:Nat}{na:aG}{nc:Nat}(hf:f k=some x)(ha:aY k l=some (xh x da dc na nc)){R h:PH}(H:(aH tS Cq m f l c).p R h):
 (bE da x.data.length x.data).p R h/\(zU na x.bp.length x.bp).p R h:=by
 rcases acU H k with⟨h,_⟩|⟨y,kV,n9,na',nc',h1,h2,_,_,h3,h4⟩
 ·rw[h]at hf;cases hf
 ·rw[h1]at hf;cases hf;rw[h2]at ha;have e:=Option.some.inj ha;unfold xh at e;simp only[Value.agg.injEq,Array.mk.injEq,List.cons.injEq,Value.slice.injEq,and_true,true_and]at e;obtain⟨⟨e1,_⟩,e2,_⟩:=e;rw[<-e1,<-e2];exact⟨h3,h4⟩
theorem EJ{S:HP}{a:aG}{n:Nat}{xs:List Value}(h:∀R x,S.p R x->(bN 1 a n xs).p R x):bX S a n xs:=⟨tN (bX.ro 1 a n xs).rd h,λR x H e=>(bX.ro 1 a n xs).none R x (h R x H) e⟩
def ajF:fH:=⟨0,0,0,0,[],[]⟩
def sQ(f:rl->Option fH)(k:rl):fH:=(f k).getD ajF
theorem doR{B:Nat}{tb:Nat}{t:TS}(hB:B<=100000)(wf:ey B t.aS)(c:kR)(S:HP)(d:ax)(hd:JM c S d):az prog 283 #[pt tb,c.val] (aj (aU tb t) S)
 (λv=>aE λt':TS=>aA (t'.aS=(mN t.aS c d).1) (aE λda:aG=>aE λdc:Nat=>aE λna:aG=>aE λnc:Nat=>aA (v=xh (mN t.aS c d).2 da dc na nc) (aj (bE da (mN t.aS c d).2.data.length (mN t.aS c d).2.data) (aj (zU na (mN t.aS c d).2.bp.length (mN t.aS c d).2.bp) (aj (aU tb t') S))))):=by
 refine(aeV hB wf c S d hd).post λv=>λR h dd ⟨t',ht,da,dc,na,nc,e,H⟩=>?_;obtain⟨R1,h1,q1,q2,q3,q4,H1⟩:=((bY.eP 5 1 da _ dc ((mN t.aS c d).2.data.map eX)).gX ((bY.eP 9 1 na _ nc ((mN t.aS c d).2.bp.map sE)).gX (HP.aT.refl (aj (aU tb t') S)))) R h dd H;exact⟨R1,h1,q1,q2,q3,q4,t',ht,da,dc,na,nc,e,H1⟩
theorem Sy(T:List Nd)(p:Nm):(nQ T p).data=[]/\(nQ T p).bp=[]:=by
 unfold nQ;split
 ·exact⟨rfl,rfl⟩
 ·split<;>exact⟨rfl,rfl⟩
theorem Sz{B:Nat}{T:List Nd}(wf:ey B T)(p:Nm):(Cd T p).data.length<=512/\(Cd T p).bp.length<=B:=by
 unfold Cd;split
 ·exact⟨Nat.zero_le _,Nat.zero_le _⟩
 ·split
  ·exact⟨Nat.zero_le _,Nat.zero_le _⟩
  ·rename_i x hx;split
   ·exact⟨Nat.zero_le _,Nat.zero_le _⟩
   ·refine⟨Nat.zero_le _,?_⟩;have:=(wf.jY x (bI hx).1).qP;simpa using this
theorem SB{B:Nat}{T:List Nd}(wf:ey B T)(p:Nm)(off n:Int):(yz T p off n).data.length<=512/\(yz T p off n).bp.length<=B:=by
 refine⟨?_,Nat.zero_le _⟩;show(JN T p off n).2.length<=512;unfold JN;split
 ·exact Nat.zero_le _
 ·split
  ·exact Nat.zero_le _
  ·split
   ·exact Nat.zero_le _
   ·rename_i x hx;have:=(wf.jY x (bI hx).1).data;simp only[List.length_take,List.length_drop];omega
theorem aaQ{B:Nat}{T:List Nd}(wf:ey B T)(kind:Int)(path aL:Nm)(off n:Int)(d:ax):(zx T kind path aL off n d).2.data.length<=512/\(zx T kind path aL off n d).2.bp.length<=B:=by
 have z:∀e:Int,(({err:=e}:fH)).data.length<=512/\(({err:=e}:fH)).bp.length<=B:=λe=>⟨Nat.zero_le _,Nat.zero_le _⟩;unfold zx;split
 ·exact z _
 split
 ·exact z _
 split
 ·exact z _
 split
 ·exact z _
 split
 ·exact z _
 split
 ·exact z _
 split
 ·exact SB wf path off n
 split
 ·exact z _
 split
 ·have:=Sy T path;show(nQ T path).data.length<=512/\(nQ T path).bp.length<=B;rw[this.1,this.2];exact⟨Nat.zero_le _,Nat.zero_le _⟩
 split
 ·exact Sz wf path
 split
 ·exact⟨Nat.zero_le _,Nat.zero_le _⟩
 ·exact z _
def eK.m(x:eK)(a:aG)(c:Nat):kR:=⟨x.kind,x.path,x.aL,x.off,x.n,a,x.data.length,c⟩
end
namespace RX
def gF:=(({aF:=[40,39,176,28,64,226,99999,167,92,162,163,79,166,229,171,172,228,36,67,230,32,31,165,30,26,27,86,24,51,50,78,33]}:jo).aF)
def gG:=(({bU:=[(164,[]),(170,[]),(155,[])]}:jo).bU)
abbrev mR:Hp:=[(.b 0,1)]
abbrev ajG:List A:=[2,3,4,(.bool 5),6,7,8,9,(.s 10),14,15,(.s 16),20,21,22,23]
abbrev ajH:List A:=[23,24,25,(.bool 26),27,28,29,30,(.s 31),35,36,(.s 37),41,42,43,44]
abbrev nT:List W:=[(.ptr 0 0)]
abbrev Px:List A:=[0,1,2,(.bool 3),4,5,6,7,(.s 8),12,13,(.s 14),18,19,20,21]
abbrev Xl:Hp:=[(8,11),(14,17),((.b 22),(.cells ajH 64)),(31,34),(37,40)]
abbrev afg:Hp:=[(5,8),(14,17)]
abbrev Nf:Hp:=[(.b 0,1),(10,13),(16,19)]
abbrev afh:List A:=[2,(.str 3),(.str 4),5,6,(.s 7)]
abbrev Ng:List W:=[(.ptr 0 0),(.agg ajG)]
abbrev afi:Hp:=[(.b 0,1),(7,10)]
abbrev Nh:List A:=[0,(.str 1),(.str 2),3,4,(.s 5)]
abbrev Ni:Hp:=[(1,4)]
abbrev Xm:Hp:=[(8,11),(14,17)]
abbrev CB:Hp:=[(.b 0,26)]
abbrev Xn:Hp:=[(5,8)]
def EK:T:=
(.new
(.ld 3 6 (.ptr 0 6) mR [.i] 25
(.rg (.add 25 (.i 1))
(.op (.store 3 (.tmp 10) (.tmp 8)) 0 [(10,.ptr 0 6),(8,.w (.a (.int .i64 (.add 25 (.i 1)))))] mR [.p] (.gY []) CB
(.ld 3 13 (.ptr 0 0) CB [.i] 27
(.ld 3 17 (.ptr 0 1) CB [.i] 28
(.ld 3 21 (.ptr 0 6) CB [.i] 29
(.op (.store 4 (.tmp 29) (.const (.bool true))) 0 [(29,.ptr 0 9)] CB [.p] (.gY []) [(.b 0,30)]
(.op (.store 84 (.tmp 31) (.tmp 27)) 0 [(31,.ptr 0 10),(27,.agg [27,28,29,5,6,7,.s 8,12,13,.s 14,.val 18,.s 20])] [(.b 0,30),(8,11),(14,17),(18,19),(20,23)] [.p] (.gY []) [(.b 0,31),(8,11),(14,17),(18,19),(20,23)]
(.call 45 nT [(.b 0,31)] [.p] (.gY []) [(.b 0,32)]
(.ret (.gY []) [(.b 0,32),(8,11),(14,17),(18,19),(20,23)])))))))))))
theorem GH:tree prog {fk:=[78,85,82,82],aF:=gF,bU:=gG,dN:=true,dv:=true,ck:=[78,85,82]} Tryz.f29 [.ptr 0 0,.agg [2,3,4,5,6,7,.s 8,12,13,.s 14,.val 18,.s 20]] [(.b 0,1),(8,11),(14,17),(18,19),(20,23)] 24=EK:=by kernel_rfl
end RX
section
open RX
theorem xi{p:rx}{k:Int}:(dV p k).length<=7:=by
 unfold dV;split
 ·exact Nat.zero_le _
 ·rename_i h
  have hr:dw p=true:=by
   cases h2:dw p with
   |true=>rfl
   |false=>exact absurd (.inr h2) h
  rcases Nat.lt_or_ge (k%(p.ch.length:Int)).toNat p.ch.length with h2|h2
  ·rw[List.getD_eq_getElem?_getD,List.getElem?_eq_getElem h2];exact((nH hr).chain (List.getElem_mem h2)).2.2
  ·rw[List.getD_eq_getElem?_getD,List.getElem?_eq_none h2];exact Nat.zero_le _
theorem EL(S:HP)(ep:Int)(a:aG)(n c:Nat)(es:List ky)(k:Int)(hS:∀R h,S.p R h->(Ls ip a n es).p R h)(hb:n<=1000000000/\∀x∈es,x.l.length<=1000000000):
 az prog 165 #[.agg #[an ep,.slice a n c],an k] S (λv=>aE λa'=>aE λc'=>aA (v=.slice a' (dV ⟨ep,es.map (·.l)⟩ k).length c') (aj (vP a' (dV ⟨ep,es.map (·.l)⟩ k).length (dV ⟨ep,es.map (·.l)⟩ k)) S)):=by
 refine az.cM (φ:=es.length=n/\(n≠0->a.isSome=true)) (λR h H=>⟨(hS R h H).1,λhn=>Ls.isSome (hS R h H) hn⟩) λ⟨hl,ha⟩=>?_;refine ao (ρ:=[.i ep,.a a,.n n,.n c,.p S,.i k]) {aF:=[223,51],dv:=true} [(.agg [0,(.s 1)]),5] Ni 6 ?_
 have cV:(k<0\/dw ⟨ep,es.map (·.l)⟩=false)->HP.aT S (aE λa'=>aE λc'=>aA (Value.slice none 0 0=.slice a' (dV ⟨ep,es.map (·.l)⟩ k).length c') (aj (vP a' (dV ⟨ep,es.map (·.l)⟩ k).length (dV ⟨ep,es.map (·.l)⟩ k)) S)):=λh=>.of λR x H=>by
  have e:dV ⟨ep,es.map (·.l)⟩ k=[]:=aB h;rw[e];exact⟨none,0,rfl,bN.join (bN.nil 1 none R x) H⟩
 intro _;refine⟨λh=>cV (.inl h),λh0=>?_⟩;refine nt (g:=.bool) _ (wC S ep a n c es hS hb.2) ⟨λh=>cV (.inr (by simpa using h)),λhr=>?_⟩;have hr:dw ⟨ep,es.map (·.l)⟩=true:=hr;have h1:1<=(es.map (·.l)).length:=(nH hr).ah2;rw[List.length_map]at h1;have e0:k.tmod (n:Int)=k%(n:Int):=Int.tmod_eq_emod_of_nonneg (by omega);have q0:=Int.emod_nonneg k (show(n:Int)≠0 by omega);have q1:=Int.emod_lt_of_pos k (show(0:Int)<n by omega);rw[e0];refine⟨by omega,λ_=>⟨q0,λ_=>⟨q1,λ_=>⟨ha (by omega),λ_=>?_⟩⟩⟩⟩;obtain⟨j,hj⟩:∃j:Nat,k%(n:Int)=j:=⟨_,(Int.toNat_of_nonneg q0).symm⟩;rw[hj]at q0 q1⊢;obtain⟨x,hx⟩:∃x,es[j]? =some x:=⟨_,List.getElem?_eq_getElem (show j<es.length by omega)⟩
 have e:dV ⟨ep,es.map (·.l)⟩ k=x.l:=by
  unfold dV;rw[aq (by rintro(h|h);exact h0 h;rw[hr]at h;cases h)];show(es.map (·.l)).getD (k%((es.map (·.l)).length:Int)).toNat []=x.l;rw[List.length_map,hl,hj,Int.toNat_natCast,List.getD_eq_getElem?_getD,List.getElem?_map,hx];rfl
 rw[e];refine⟨x.a,x.l.length,x.c,ldC hS hx,?_⟩;refine(uT S x.a x.l.length x.c x.l (EJ λR h H=>Ls.mem (hS R h H) (List.mem_of_getElem? hx)) rfl (hb.2 x (List.mem_of_getElem? hx))).wk ?_;rintro v R h ⟨a',c',rfl,H⟩;exact⟨a',_,c',vP a' x.l.length x.l,rfl,.of λR h H=>⟨a',c',rfl,ak H⟩,H⟩
theorem EM(s:Nm)(hs:s.length<=1000000):az prog 65 #[sE s] tt (λv=>HP.pure (v=.tuple #[sE ((xb s).getD []),.bool (xb s).isSome])):=by
 refine ao (ρ:=[.s s]) {dv:=true} [(.str 0)] [] 1 ?_;refine(qa s).wk ?_;rintro v R h ⟨a,c,rfl,H⟩;refine⟨a,_,c,sv a ((bW s).getD []).length c ((bW s).getD []),_,rfl,⟨λh1=>?_,λh1=>?_⟩,H⟩
 ·cases e:bW s with
  |some l=>rw[e]at h1;exact absurd rfl h1
  |none=>exact .of λR h _=>by simp[xb,e,HP.pure,sE]
 ·cases e:bW s with
  |none=>rw[e]at h1;exact absurd h1 (by decide)
  |some l=>
   cases l with
   |nil=>exact⟨λ_=>.of λR h _=>by simp[xb,e,HP.pure,sE],λh=>absurd rfl h⟩
   |cons x r=>
    rw[e]at H;have ha:=bY.some H (show 0<((some (x::r)).getD ([]:List ax)).length by simp);refine⟨λh=>absurd h (by simp;omega),λ_=>⟨by simp,λ_=>⟨ha,λ_=>⟨x,oI (ow _ _ _ _ _ _).rd (k:=0) rfl,.of λR h _=>by simp[xb,e,HP.pure,sE]⟩⟩⟩⟩
theorem Xo{s x:Nm}(h:xb s=some x):x.length<=16:=by
 unfold xb at h;split at h
 ·rename_i y l e;cases h;have:=(ji e).2 x (by simp);unfold dm at this;simp at this;omega
 ·cases h
theorem tm7(n:Nat):((n:Nat):Int).tmod 7=((n%7:Nat):Int):=by rw[Int.tmod_eq_emod_of_nonneg (by omega)];omega
theorem Nj(x:eK)(a:aG)(c:Nat)(S:HP)(hb:x.path.length<=1000000/\x.aL.length<=1000000):az prog 30 #[x.val a c] S (λv=>aA (v=an (gD x)) S):=by
 refine ao (ρ:=[.i x.kind,.s x.path,.s x.aL,.i x.off,.i x.n,.a a,.n x.data.length,.n c,.p S]) {dv:=true} [(.agg Nh)] Xn 9 ?_
 try simp only[Cf,ne_eq,Nat.reduceEqDiff,not_false_eq_true]
 intro _;have h0:∀e:gD x=0,HP.aT S (aA (an 0=an (gD x)) S):=λe=>.of λR h H=>⟨by rw[e],H⟩;refine⟨λh=>h0 (aB h),λhk=>?_⟩;refine(EM x.path hb.1).wk ?_;rintro v R h rfl;refine⟨_,_,rfl,?_,trivial⟩;cases e:xb x.path with
 |none=>exact⟨λ_=>h0 (by unfold gD;rw[aq hk,e]),λh=>absurd (show(false:Bool)=true from h) (by decide)⟩
 |some m=>
  have hm:=Xo e;have sS:¬((x.kind=5\/x.kind=6)/\xb x.aL≠some m)->gD x=1+((se m%7:Nat):Int):=λh=>by unfold gD;rw[aq hk,e];exact aq h
  have s0:(x.kind=5\/x.kind=6)->xb x.aL≠some m->gD x=0:=λh h2=>by unfold gD;rw[aq hk,e];exact aB ⟨h,h2⟩
  have oth:=EM x.aL hb.2;refine⟨λh=>absurd rfl h,λ_=>⟨λh5=>?_,λh5=>⟨λh6=>?_,λh6=>(λhS:gD x=1+((se m%7:Nat):Int)=>?_) (sS λh=>h.1.elim h5 h6)⟩⟩⟩
  ·refine oth.wk ?_;rintro v R h rfl;refine⟨_,_,rfl,⟨λh1=>h0 (s0 (.inl h5) λe2=>by rw[e2]at h1;exact h1 rfl),λh1=>⟨λh2=>h0 (s0 (.inl h5) λe2=>by rw[e2]at h2;exact h2 rfl),λh2=>(λhS:gD x=1+((se m%7:Nat):Int)=>?_) (sS λh=>h.2 ?_)⟩⟩,trivial⟩;rotate_left
   ·cases e2:xb x.aL with
    |none=>rw[e2]at h1;exact absurd h1 (by decide)
    |some m2=>rw[e2]at h2;exact congrArg some h2
   refine(tF m tt).wk ?_;rintro v R h ⟨y,d,⟨rfl,hd⟩,H⟩;refine⟨some ⟨y,0,none⟩,_,d,bE (some ⟨y,0,none⟩) m.length m,rfl,?_,ai H⟩;refine(BF _ _ d m _ (bX.ro _ _ _ _) rfl (λ_=>rfl) (by omega)).wk ?_;rintro v R h ⟨rfl,H⟩;have hq:=tm7 (se m);refine⟨_,_,rfl,⟨bh _ (by omega) (by omega),λ_=>⟨bh _ (by omega) (by omega),λ_=>.of λR h H=>⟨by rw[hS,hq],H⟩⟩⟩,H⟩
  ·refine oth.wk ?_;rintro v R h rfl;refine⟨_,_,rfl,⟨λh1=>h0 (s0 (.inr h6) λe2=>by rw[e2]at h1;exact h1 rfl),λh1=>⟨λh2=>h0 (s0 (.inr h6) λe2=>by rw[e2]at h2;exact h2 rfl),λh2=>(λhS:gD x=1+((se m%7:Nat):Int)=>?_) (sS λh=>h.2 ?_)⟩⟩,trivial⟩;rotate_left
   ·cases e2:xb x.aL with
    |none=>rw[e2]at h1;exact absurd h1 (by decide)
    |some m2=>rw[e2]at h2;exact congrArg some h2
   refine(tF m tt).wk ?_;rintro v R h ⟨y,d,⟨rfl,hd⟩,H⟩;refine⟨some ⟨y,0,none⟩,_,d,bE (some ⟨y,0,none⟩) m.length m,rfl,?_,ai H⟩;refine(BF _ _ d m _ (bX.ro _ _ _ _) rfl (λ_=>rfl) (by omega)).wk ?_;rintro v R h ⟨rfl,H⟩;have hq:=tm7 (se m);refine⟨_,_,rfl,⟨bh _ (by omega) (by omega),λ_=>⟨bh _ (by omega) (by omega),λ_=>.of λR h H=>⟨by rw[hS,hq],H⟩⟩⟩,H⟩
  ·refine(tF m tt).wk ?_;rintro v R h ⟨y,d,⟨rfl,hd⟩,H⟩;refine⟨some ⟨y,0,none⟩,_,d,bE (some ⟨y,0,none⟩) m.length m,rfl,?_,ai H⟩;refine(BF _ _ d m _ (bX.ro _ _ _ _) rfl (λ_=>rfl) (by omega)).wk ?_;rintro v R h ⟨rfl,H⟩;have hq:=tm7 (se m);refine⟨_,_,rfl,⟨bh _ (by omega) (by omega),λ_=>⟨bh _ (by omega) (by omega),λ_=>.of λR h H=>⟨by rw[hS,hq],H⟩⟩⟩,H⟩
theorem wB{b:Nat}{l:ax}(v:Int)(hb:l.length<=10000000):az prog 53 #[pt b,.int .u8 (IntKind.u8.wrap v)] (dE b l) (λv=>aA (v=cE) (dE b (l++[hZ ‹Int›]))):=by
 rw[<-yA];exact ny b l _ (by omega)
theorem wBs{b:Nat}{l:ax}(a:aG)(c:Nat)(q:ax)(S:HP)(hr:bX S a q.length (q.map eX))(ha:q.length≠0->a.isSome=true)(hb:l.length+q.length<=10000000):az prog 54 #[pt b,.slice a q.length c] (aj (dE b l) S) (λv=>aA (v=cE) (aj (dE b (l++rz q)) S)):=by
 have:=pQ b l a q.length c q S hr rfl ha (by omega);rw[List.append_assoc]at this;exact this
theorem wN{b:Nat}{l:ax}(v:Int)(hb:l.length<=10000000):az prog 108 #[pt b,.int .u64 (IntKind.u64.wrap v),an 4] (dE b l) (λv=>aA (v=cE) (dE b (l++eg (b7 ‹Int›) 4))):=by
 rw[<-qS];exact fB b l (b7 v) 4 (by omega) (by omega)
theorem wI{b:Nat}{l:ax}(v:Int)(hb:l.length<=10000000):az prog 55 #[pt b,an v] (dE b l) (λv=>aA (v=cE) (dE b (l++eg (b7 ‹Int›) 8))):=Ph b l v (by omega)
theorem dE.new{b:Nat}{R h:PH}(H:(HP.one b (.cells #[.slice none 0 0] 130 (0,0))).p R h):(dE b []).p R h:=⟨none,0,ae (aD H) (λ_ h=>h) λy _=>bY.nil _ _ R y⟩
theorem jP(q:ax):(rz q).length=q.length+4:=by unfold rz;rw[List.length_append,bF];omega
theorem acW(a:aG)(c:Nat)(l:ax)(hl:l.length<=100000000):az prog 56 #[.slice a l.length c] (dS a l.length c l) (λv=>aE λa'=>aE λc'=>aA (v=.slice a' (ml l).length c'/\(ml l).length<=c') (aj (bE a' (ml l).length (ml l)) (dS a l.length c l))):=by
 refine az.cM (φ:=l.length≠0->a.isSome=true) (λR h H hn=>bY.some H (by omega)) λha=>?_;refine(FX a l.length c l _ (ow _ _ _ _ _ _) rfl ha (by omega)).post λv=>λR h d ⟨a',c',e,H⟩=>?_;have hc:=bY.le (ah H);obtain⟨R1,h1,q1,q2,q3,q4,H1⟩:=(HP.aT.aj (bY.eP _ _ _ _ _ _) (dS a l.length c l)) R h d (ak H);exact⟨R1,h1,q1,q2,q3,q4,a',c',⟨e,hc⟩,H1⟩
set_option maxHeartbeats 1000000 in
theorem Nk(x:eK)(a:aG)(c:Nat)(S:HP)(hr:bX S a x.data.length (x.data.map eX))(ha:x.data.length≠0->a.isSome=true)(hb:x.path.length<=1000000/\x.aL.length<=1000000/\x.data.length<=1000000):
 az prog 26 #[x.val a c] S (λv=>aE λa'=>aE λc'=>aA (v=.slice a' (jM x).length c'/\(jM x).length<=c') (aj (bE a' (jM x).length (jM x)) S)):=by
 refine ao (ρ:=[.i x.kind,.s x.path,.s x.aL,.i x.off,.i x.n,.a a,.n x.data.length,.n c,.p S]) {iS:=[130],dv:=true} [(.agg Nh)] Xn 9 ?_
 try simp only[Cf,ne_eq,Nat.reduceEqDiff,not_false_eq_true]
 intro _ b;refine gz ((wB x.kind (by simp)).aK (λR h H=>dE.new H) λ_ _ _ h=>h) ?_;refine(tF x.path tt).wk ?_;rintro v R h ⟨y,d,⟨rfl,hd⟩,H⟩;refine⟨some ⟨y,0,none⟩,_,d,_,rfl,sI (wBs _ d x.path _ (bX.ro _ _ _ _) (λ_=>rfl) (by simp;omega)) ?_,ai H⟩;clear H;refine(tF x.aL tt).wk ?_;rintro v R h ⟨y2,d2,⟨rfl,hd2⟩,H⟩;refine⟨some ⟨y2,0,none⟩,_,d2,_,rfl,sI (wBs _ d2 x.aL _ (bX.ro _ _ _ _) (λ_=>rfl) (by simp[jP];omega)) ?_,ai H⟩;clear H;refine gz (wI x.off (by simp[jP];omega)) (gz (wI x.n (by simp[jP,bF];omega)) ?_);refine sI (wBs a c x.data S hr ha (by simp[jP,bF];omega)) ?_;have e:[]++[hZ x.kind]++rz x.path++rz x.aL++eg (b7 x.off) 8++eg (b7 x.n) 8++rz x.data=[hZ x.kind]++rz x.path++rz x.aL++eg (b7 x.off) 8++eg (b7 x.n) 8++rz x.data:=by rw[List.nil_append]
 rw[e];have hl:([hZ x.kind]++rz x.path++rz x.aL++eg (b7 x.off) 8++eg (b7 x.n) 8++rz x.data).length<=100000000:=by simp[jP,bF];omega
 refine(kF b _ (by omega)).wk ?_;rintro v R h ⟨a1,c1,rfl,H⟩;refine⟨a1,_,c1,_,_,rfl,?_,ak H⟩;refine(acW a1 c1 _ hl).wk ?_;rintro v R h ⟨a2,c2,⟨rfl,QH⟩,H⟩;exact⟨a2,_,c2,_,_,rfl,.of λR h H=>⟨a2,c2,⟨rfl,QH⟩,ak H⟩,H⟩
set_option maxHeartbeats 1000000 in
theorem Nl(x:cj)(a:aG)(c:Nat)(S:HP)(hr:bX S a x.pl.length (x.pl.map eX))(ha:x.pl.length≠0->a.isSome=true):
 az prog 86 #[x.val a c] S (λv=>aE λa'=>aE λn'=>aE λc'=>aE λP=>aA (v=.tuple #[.slice a' n' c',an (if ei x=true then 0 else 1)]/\(ei x=true->n'=(kX x).length/\n'<=c'/\∀R h,P.p R h->(bE a' (kX x).length (kX x)).p R h)) (aj P S)):=by
 refine ao (ρ:=[.i x.kind,.i x.cl,.i x.bi,.i x.nu,.i x.st,.i x.bk,.a a,.n x.pl.length,.n c,.p S]) {iS:=[130],aF:=[157],dv:=true} [(.agg [0,1,2,3,4,5,(.s 6)])] [(6,9)] 10 ?_;intro _;refine nt (g:=.bool) _ (EC x a c S) ⟨λh=>.of λR y H=>⟨none,0,0,tt,⟨by rw[aq h],λh2=>absurd h2 h⟩,aW H⟩,λhok b=>?_⟩;rw[aB hok]
 have hp:x.pl.length<=65506:=by
  unfold ei at hok;simp only[Bool.and_eq_true,decide_eq_true_eq]at hok;exact hok.2
 refine gz ((wB x.kind (by simp)).aK (λR h H=>dE.new H) λ_ _ _ h=>h) ?_;refine gz (wN x.cl (by simp)) (gz (wN x.bi (by simp[bF])) (gz (wN x.nu (by simp[bF])) (gz (wB x.st (by simp[bF])) (gz (wI x.bk (by simp[bF])) ?_))));refine sI (wBs a c x.pl S hr ha (by simp[jP,bF];omega)) ?_;rw[List.nil_append];have hl:([hZ x.kind]++eg (b7 x.cl) 4++eg (b7 x.bi) 4++eg (b7 x.nu) 4++[hZ x.st]++eg (b7 x.bk) 8++rz x.pl).length<=100000000:=by simp[jP,bF];omega
 refine(kF b _ (by omega)).wk ?_;rintro v R h ⟨a1,c1,rfl,H⟩;refine⟨a1,_,c1,_,_,rfl,?_,ak H⟩;refine(acW a1 c1 _ hl).wk ?_;rintro v R h ⟨a2,c2,⟨rfl,hc⟩,H⟩;exact⟨a2,_,c2,_,_,rfl,.of λR h H=>⟨a2,_,c2,_,⟨rfl,λ_=>⟨rfl,hc,λ_ _ h=>h⟩⟩,ak H⟩,H⟩
theorem CC{α:Type}[DecidableEq α]:∀ {l m:List α},l.Nodup->(∀x∈l,x∈m)->l.length<=m.length
 |[],_,_,_=>Nat.zero_le _
 |x::l,m,h,hs=>by
  rw[List.nodup_cons]at h;have hx:=hs x (by simp)
  have ih:=CC (m:=m.erase x) h.2 λy hy=>by
   have:y≠x:=λe=>h.1 (by rw[<-e];exact hy);exact(List.mem_erase_of_ne this).2 (hs y (by simp[hy]))
  rw[List.length_erase_of_mem hx]at ih;have:=List.length_pos_of_mem hx;rw[List.length_cons];omega
def okC(L:List (Int×BA)):Int:=((L.filter λx=>x.2.ok).length:Int)
structure PI(u:Int)(k:Nat)(s:lq):Prop where
 acc:s.acc=u
 ph:s.phase=1\/s.phase=2
 nd:(s.bH.map (·.1)).Nodup
 rg:∀f∈s.bH.map (·.1),0<=f/\f<u
 ag:s.dk=okC s.bH
 no:wD s.acc s.dk=false
 may:wD s.acc (s.acc - (s.bH.length - s.dk))=true
 av:∀x∈s.bH,x.2.val.length<=1000
 vl:s.val.length<=1000
 rn:0<=s.lf/\s.lf<=1+k
theorem CD{l:List Int}{u:Nat}(hn:l.Nodup)(hr:∀f∈l,0<=f/\f<(u:Int)):l.length<=u:=by
 have h1:(l.map Int.toNat).Nodup:=by
  rw[List.nodup_iff_pairwise_ne,List.pairwise_map];rw[List.nodup_iff_pairwise_ne]at hn;refine List.Pairwise.imp_of_mem (λha hb hab e=>hab ?_) hn;have:=hr _ ha;have:=hr _ hb;omega
 have h2:∀x∈l.map Int.toNat,x∈List.range u:=λx hx=>by
  obtain⟨y,hy,rfl⟩:=List.mem_map.1 hx;have:=hr y hy;rw[List.mem_range];omega
 have:=CC h1 h2;simpa using this
section
variable (b:Nat)(g:cg)
theorem SC:az prog 162 #[pt b] (jD b g) (λv=>aA (v=an g.st) (jD b g)):=
 az.ex λ_=>(Ro).wk λ_ _ _ ⟨e,H⟩=>⟨e,_,H⟩
theorem Xp:az prog 163 #[pt b] (jD b g) (λv=>aE λa=>aE λc=>aE λes:List ky=>aA (v=.agg #[an g.aQ.ep,.slice a es.length c]/\es.map (·.l)=g.aQ.ch) (aj (Ls ip a es.length es) (jD b g))):=
 az.ex λ_=>(WT).wk λ_ _ _ ⟨a,c,es,e,H⟩=>⟨a,c,es,e,ae H (λ_ h=>h) λ_ h=>⟨_,h⟩⟩
theorem Xq(m:MS)(ca:aG)(cc:Nat)(va:aG)(vc:Nat)(hs:mO g)(hmv:m.val.length<=100000000)(D:HP):
 az prog 41 #[pt b,.agg (m.ee ca cc va vc).aJ] (aj (jD b g) (aj D (m.cI va))) (λv=>aE λg'=>aA (v=cE/\qW g m g') (jD b g')):=
 (az.ex (A:=λr=>aj (aO b g r) (aj D (m.cI va))) λ_=>WS m ca cc va vc hs hmv D).aK (λ_ _ ⟨h1,h2,d,l1,l2,⟨r,H1⟩,H2⟩=>⟨r,h1,h2,d,l1,l2,H1,H2⟩) λ_ _ _ h=>h
end
theorem ajI(S:HP)(a:aG)(n c:Nat)(l:ax)(hr:bX S a n (l.map eX))(hl:l.length=n)(hb:n<=140737488355328):
 az prog 226 #[.slice a n c] S (λv=>aE λa'=>aE λc'=>aA (v=.slice a' n c'/\n<=c') (aj (bE a' n l) S)):=by
 refine(Xg S a n c l hr hl hb).post λv=>λR h d ⟨a',c',e,H⟩=>?_;have hc:=bY.le (ai H);obtain⟨R1,h1,q1,q2,q3,q4,H1⟩:=(HP.aT.aj (bY.eP _ _ _ _ _ _) S) R h d H;exact⟨R1,h1,q1,q2,q3,q4,a',c',⟨e,hc⟩,H1⟩
theorem SD(b:Nat)(o:jl):az prog 171 #[pt b] (fZ b o) (λv=>aE λa'=>aE λc'=>aA (v=.agg #[an (gN o).what,.slice a' (gN o).data.length c']/\(gN o).data.length<=c') (aj (bE a' (gN o).data.length (gN o).data) (fZ b o))):=by
 refine fZ.qD λua uc da dc hs=>?_;refine be (ρ:=rho b o ua uc da dc) {aF:=fO,bU:=fP} qh tH 15 ?_;refine λx=>⟨λh=>.of λR y H=>⟨none,0,⟨by simp[gN,h],by simp[gN,h]⟩,?_⟩,λh=>?_⟩
 ·have e:gN o=⟨0,[]⟩:=by simp[gN,h]
  rw[e];exact bN.join (rZ none:(bE none 0 []).p R y) ⟨ua,uc,da,dc,hs,H⟩
 ·have e:gN o=o.cell:=by simp[gN,h]
  rw[e]
  have tw:az prog 161 #[.agg #[an o.cell.what,.slice da o.cell.data.length dc]] (OD o da) (λv=>aE λa'=>aE λc'=>aA (v=.agg #[an o.cell.what,.slice a' o.cell.data.length c']/\o.cell.data.length<=c') (aj (bE a' o.cell.data.length o.cell.data) (OD o da))):=by
   refine be (ρ:=[.i o.cell.what,.a da,.n o.cell.data.length,.n dc,.p (OD o da)]) {aF:=fO,bU:=fP} [(.agg [0,(.s 1)])] [(1,4)] 5 ?_;intro x y;refine(ajI (OD o da) da _ dc o.cell.data (bX.ro _ _ _ _) rfl hs.2).wk ?_;rintro v R h ⟨a',c',⟨rfl,hc⟩,H⟩;exact⟨a',_,c',bE a' o.cell.data.length o.cell.data,rfl,.of λR h H=>⟨a',c',⟨rfl,hc⟩,ak H⟩,H⟩
  refine tw.wk ?_;rintro v R h ⟨a',c',⟨rfl,hc⟩,H⟩;refine⟨_,a',_,c',bE a' o.cell.data.length o.cell.data,rfl,.of λR h H=>⟨a',c',⟨rfl,hc⟩,?_⟩,H⟩;have H1:=HP.pick [_,_,_,_] [3,0,1,2] (by decide) rfl H;exact ae H1 (λ_ h=>h) λy hy=>⟨ua,uc,da,dc,hs,hy⟩
theorem SE(m:MS)(ca:aG)(cc:Nat)(va:aG)(vc:Nat)(hm:m.small):az prog 176 #[.agg (m.ee ca cc va vc).aJ] (aj (m.cW ca) (m.cI va)) (Pp m (aj (m.cW ca) (m.cI va))):=by
 refine ao (ρ:=m.env ca cc va vc) {fk:=[78,85,82],aF:=gF,bU:=gG,dN:=true,dv:=true,ck:=[78,85,82]} [(.agg Px)] Xm 22 ?_;intro _ _;refine(yB (m.cW ca) ca m.cell.data.length cc m.cell.data (bX.ro _ _ _ _) rfl (by have:=hm.1;omega)).wk ?_;rintro v R h ⟨a',c',rfl,H⟩;refine⟨a',_,c',bE a' m.cell.data.length m.cell.data,rfl,?_,H⟩;clear H;refine(yB (m.cI va) va m.val.length vc m.val (bX.ro _ _ _ _) rfl (by have:=hm.2;omega)).wk ?_;rintro v R h ⟨a2,c2,rfl,H⟩;refine⟨a2,_,c2,bE a2 m.val.length m.val,rfl,.of λR h H=>⟨a',c',a2,c2,rfl,?_⟩,H⟩;exact HP.pick [_,_,_,_] [2,3,0,1] (by decide) rfl H
theorem aaR(m:MS)(ca:aG)(cc:Nat)(va:aG)(vc:Nat)(hm:m.small)(S:HP)(hS:∀R h,S.p R h->(m.cW ca).p R h/\(m.cI va).p R h):az prog 176 #[.agg (m.ee ca cc va vc).aJ] S (Pp m S):=ai2 m ca cc va vc SE hm S hS
theorem jT{d:Nat}{f:Field}{fs:List Field}{xs ys:dI}{a b:Int}{o:Nat}(hn:f.name≠ "_")(ht:f.type=3)(ho:f.offset=o)(hx:xs[o]? =some (an a))(hy:ys[o]? =some (an b))(w:World):
 (Op.eqFields (d+1) xs ys (f::fs)).run prog w=if a=b then(Op.eqFields (d+1) xs ys fs).run prog w else .ok false w:=by
 have he:(Op.equalIn (d+1) 3 (an a) (an b)).run prog w=.ok (a==b) w:=run_equalIn_int w d _ _ _ _ _ w9;simp only[Op.eqFields,ht,ho,ne_eq,hn,not_false_eq_true,if_true,Sem.run_bind,kW w9 _ o _ hx,kW w9 _ o _ hy,Result.andThen_ok,he]
 by_cases h:a=b
 ·rw[aB h];simp[h]
 ·rw[aq h];simp[h]
theorem Py{d:Nat}{xs ys:dI}(w:World):(Op.eqFields d xs ys []).run prog w=.ok true w:=by simp[Op.eqFields]
theorem ajJ:(prog.fieldsOf 62).toList.map (λf=>(decide (f.name= "_"),f.type,f.offset))=[(false,3,0),(false,3,1)]:=by kernel_rfl
theorem Xr:prog.underlying 62=some (.struct (prog.fieldsOf 62)):=by kernel_rfl
theorem SF{d:Nat}(a b a' b':Int)(w:World):(Op.equalIn (d+1+1) 62 (.agg #[an a,an b]) (.agg #[an a',an b'])).run prog w=.ok (decide (a=a')&&decide (b=b')) w:=by
 have h:=ajJ;obtain⟨f0,_,e0,h0,h⟩:=List.map_eq_cons_iff.1 h;obtain⟨f1,_,e1,h1,h⟩:=List.map_eq_cons_iff.1 h;have e2:=List.map_eq_nil_iff.1 h;subst e2 e1;simp only[Prod.mk.injEq,decide_eq_false_iff_not]at h0 h1;rw[run_equalIn_struct w _ _ _ _ Xr (by kernel_rfl),e0,jT h0.1 h0.2.1 h0.2.2 rfl rfl,jT h1.1 h1.2.1 h1.2.2 rfl rfl,Py]
 by_cases q1:a=a'<;>by_cases q2:b=b'<;>simp[q1,q2]
theorem ajK:(prog.fieldsOf 157).toList.map (λf=>(decide (f.name= "_"),f.type,f.offset))=[(false,3,0),(false,3,1),(false,3,2),(false,3,3),(false,3,4),(false,3,5)]:=by kernel_rfl
theorem afj:prog.underlying 157=some (.struct (prog.fieldsOf 157)):=by kernel_rfl
theorem afk{i j:Nat}{ty u:TypeId}(D4:i≠j)(a b c d e f a' b' c' d' e' f':Int){A:HP}:
 aM prog (bZ (.binOp .eql 157 (.tmp i) (.tmp j) u) ty [(i,.agg #[an a,an b,an c,an d,an e,an f]),(j,.agg #[an a',an b',an c',an d',an e',an f'])]) A
  (.bool (decide (a=a')&&(decide (b=b')&&(decide (c=c')&&(decide (d=d')&&(decide (e=e')&&decide (f=f'))))))):=λw R h F s _=>by
 have h':(i==j)=false:=by simpa using D4
 have hg:prog.eqGuardType prog.depth 157=false:=by kernel_rfl
 have hq:(Op.equalIn 10000 157 (.agg #[an a,an b,an c,an d,an e,an f]) (.agg #[an a',an b',an c',an d',an e',an f'])).run prog w=.ok (decide (a=a')&&(decide (b=b')&&(decide (c=c')&&(decide (d=d')&&(decide (e=e')&&decide (f=f')))))) w:=by
  have h:=ajK;obtain⟨f0,_,e0,h0,h⟩:=List.map_eq_cons_iff.1 h;obtain⟨f1,_,e1,h1,h⟩:=List.map_eq_cons_iff.1 h;obtain⟨f2,_,e2,h2,h⟩:=List.map_eq_cons_iff.1 h;obtain⟨f3,_,e3,h3,h⟩:=List.map_eq_cons_iff.1 h;obtain⟨f4,_,e4,h4,h⟩:=List.map_eq_cons_iff.1 h;obtain⟨f5,_,e5,h5,h⟩:=List.map_eq_cons_iff.1 h;have e6:=List.map_eq_nil_iff.1 h;subst e6 e5 e4 e3 e2 e1;simp only[Prod.mk.injEq,decide_eq_false_iff_not]at h0 h1 h2 h3 h4 h5;rw[run_equalIn_struct w _ _ _ _ afj (by kernel_rfl),e0,jT h0.1 h0.2.1 h0.2.2 rfl rfl,jT h1.1 h1.2.1 h1.2.2 rfl rfl,jT h2.1 h2.2.1 h2.2.2 rfl rfl,jT h3.1 h3.2.1 h3.2.2 rfl rfl,jT h4.1 h4.2.1 h4.2.2 rfl rfl,jT h5.1 h5.2.1 h5.2.2 rfl rfl,Py]
  by_cases q1:a=a'
  ·by_cases q2:b=b'
   ·by_cases q3:c=c'
    ·by_cases q4:d=d'
     ·by_cases q5:e=e'<;>by_cases q6:f=f'<;>simp[q1,q2,q3,q4,q5,q6]
     ·simp[q1,q2,q3,q4]
    ·simp[q1,q2,q3]
   ·simp[q1,q2]
  ·simp[q1]
 simp only[bZ,execOp,lW,List.find?_cons,beq_self_eq_true,h'];simp[eqGuard,hg,program,Sem.run_bind,Sem.run,Result.andThen,run_eql_struct,hq]
theorem ajL:(prog.fieldsOf 247).toList.map (λf=>(decide (f.name= "_"),f.type,f.offset))=[(false,3,0),(false,3,1),(false,3,2),(false,3,3),(false,62,4)]:=by kernel_rfl
theorem afl:prog.underlying 247=some (.struct (prog.fieldsOf 247)):=by kernel_rfl
theorem afm:(prog.info? 62).map (λi=>(i.zero,i.size,i.bytes))=some (some (.agg #[an 0,an 0]),2,16):=by kernel_rfl
theorem afn{i j:Nat}{ty u:TypeId}(D4:i≠j)(a b c d e f a' b' c' d' e' f':Int){A:HP}:
 aM prog (bZ (.binOp .eql 247 (.tmp i) (.tmp j) u) ty [(i,.agg #[an a,an b,an c,an d,an e,an f]),(j,.agg #[an a',an b',an c',an d',an e',an f'])]) A
  (.bool (decide (a=a')&&decide (b=b')&&decide (c=c')&&decide (d=d')&&(decide (e=e')&&decide (f=f')))):=λw R h F s _=>by
 have h':(i==j)=false:=by simpa using D4
 have hg:prog.eqGuardType prog.depth 247=false:=by kernel_rfl
 have hq:(Op.equalIn 10000 247 (.agg #[an a,an b,an c,an d,an e,an f]) (.agg #[an a',an b',an c',an d',an e',an f'])).run prog w=.ok (decide (a=a')&&decide (b=b')&&decide (c=c')&&decide (d=d')&&(decide (e=e')&&decide (f=f'))) w:=by
  have h:=ajL;obtain⟨f0,_,e0,h0,h⟩:=List.map_eq_cons_iff.1 h;obtain⟨f1,_,e1,h1,h⟩:=List.map_eq_cons_iff.1 h;obtain⟨f2,_,e2,h2,h⟩:=List.map_eq_cons_iff.1 h;obtain⟨f3,_,e3,h3,h⟩:=List.map_eq_cons_iff.1 h;obtain⟨f4,_,e4,h4,h⟩:=List.map_eq_cons_iff.1 h;have e6:=List.map_eq_nil_iff.1 h;subst e6 e4 e3 e2 e1;simp only[Prod.mk.injEq,decide_eq_false_iff_not]at h0 h1 h2 h3 h4;obtain⟨Um,hi,z1,z2,z3⟩:=info_parts afm
  have pt:∀(a b c d e f:Int),(part 62 #[an a,an b,an c,an d,an e,an f] 4).run prog w=.ok (.agg #[an e,an f]) w:=λa b c d e f=>by
   have hag:gZ prog 62=true:=by kernel_rfl
   simp only[part,Sem.run_bind,RX.iB Xr,Result.andThen_ok,hag,if_true,RX.run_sizeOf hi,iA,z2,Sem.run_pure];rfl
  rw[run_equalIn_struct w _ _ _ _ afl (by kernel_rfl),e0,jT h0.1 h0.2.1 h0.2.2 rfl rfl,jT h1.1 h1.2.1 h1.2.2 rfl rfl,jT h2.1 h2.2.1 h2.2.2 rfl rfl,jT h3.1 h3.2.1 h3.2.2 rfl rfl]
  have hl:(Op.eqFields 9999 #[an a,an b,an c,an d,an e,an f] #[an a',an b',an c',an d',an e',an f'] [f4]).run prog w=.ok (decide (e=e')&&decide (f=f')) w:=by
   simp only[Op.eqFields,h4.2.1,h4.2.2,ne_eq,h4.1,not_false_eq_true,if_true,Sem.run_bind,pt,Result.andThen_ok,SF (d:=9997)]
   by_cases q1:e=e'<;>by_cases q2:f=f'<;>simp[q1,q2]
  rw[hl]
  by_cases q1:a=a'<;>by_cases q2:b=b'<;>by_cases q3:c=c'<;>by_cases q4:d=d'<;>simp[q1,q2,q3,q4]
 simp only[bZ,execOp,lW,List.find?_cons,beq_self_eq_true,h'];simp[eqGuard,hg,program,Sem.run_bind,Sem.run,Result.andThen,run_eql_struct,hq]
section
variable (m q:MS)(ca:aG)(cc:Nat)(va:aG)(vc:Nat)(DI:aG)(Ty:Nat)(DJ:aG)(Tz:Nat)
abbrev DV(m:MS)(ca va:aG):HP:=aj (m.cW ca) (m.cI va)
theorem Kf:az prog 40 #[.agg (m.ee ca cc va vc).aJ,.agg (q.ee DI Ty DJ Tz).aJ] (aj (m.cW ca) (aj (m.cI va) (DV q DI DJ)))
 (λv=>aA (v=.bool (dM m q)) (aj (m.cW ca) (aj (m.cI va) (DV q DI DJ)))):=by
 refine ao (ρ:=m.env ca cc va vc++q.env DI Ty DJ Tz) {aF:=[64,226,51],dN:=true,dv:=true} [(.agg [0,1,2,(.bool 3),4,5,6,7,(.s 8),12,13,(.s 14),18,19,20,21]),(.agg [22,23,24,(.bool 25),26,27,28,29,(.s 30),34,35,(.s 36),40,41,42,43])] aip 44 ?_;unfold dM;intro _ _;refine⟨λh=>.of λR h' H=>⟨by simp[h],H⟩,λh=>⟨λh2=>.of λR h' H=>⟨by simp[h2],H⟩,λh2 _ _=>⟨_,afk (by decide) _ _ _ _ _ _ _ _ _ _ _ _,.of λR h' H=>⟨?_,H⟩⟩⟩⟩;have e1:m.bV=true:=by simpa using h
 have e2:q.bV=false:=by simpa using h2
 rw[e1,e2];rfl
theorem Xs(x:Nat)(S:HP)(hS:∀R h,S.p R h->(q.cW DI).p R h/\(q.cI DJ).p R h):
 az prog 39 #[.agg (q.ee DI Ty DJ Tz).aJ,pt x] (aj S (aj (dO x (m.ee ca cc va vc)) (DV m ca va)))
 (λv=>aA (v=.bool (dM m q)) (aj S (aj (dO x (m.ee ca cc va vc)) (DV m ca va)))):=by
 have base:az prog 39 #[.agg (q.ee DI Ty DJ Tz).aJ,pt x] (aj (q.cW DI) (aj (q.cI DJ) (aj (dO x (m.ee ca cc va vc)) (DV m ca va))))
  (λv=>aA (v=.bool (dM m q)) (aj (q.cW DI) (aj (q.cI DJ) (aj (dO x (m.ee ca cc va vc)) (DV m ca va))))):=by
  refine ao (ρ:=q.env DI Ty DJ Tz++([en.n x]++m.env ca cc va vc)) {fk:=[78,85,82],aF:=gF,bU:=gG,dN:=true,dv:=true,ck:=[78,85,82]} [(.agg Px),(.ptr 22 0)] Xl 45 ?_;intro _;refine(Kf m q ca cc va vc DI Ty DJ Tz).wk ?_;rintro v R h ⟨rfl,H⟩;exact⟨_,rfl,.of λR h H=>⟨rfl,H⟩,H⟩
 refine base.bv (K:=S) (.of λR h H=>?_) λv=>.of λR h ⟨h1,h2,d,l1,l2,⟨e,H⟩,HS⟩=>⟨e,?_⟩
 ·have hq:=hS R _ (ai H);exact aC (bN.join hq.1 (aC (bN.join hq.2 (ak H))))
 ·have H1:=au ⟨h1,h2,d,l1,l2,H,HS⟩;have H2:=au (ah H1);exact ak (ah H2)
theorem Kg:az prog 175 #[.agg (m.ee ca cc va vc).aJ] (DV m ca va) (λv=>aA (v=.agg #[an m.to,an m.kind,an m.ep,an m.at',an m.br,an m.bw]) (DV m ca va)):=by
 refine ao (ρ:=m.env ca cc va vc) {fk:=[78,85,82],aF:=gF,bU:=gG,dN:=true,dv:=true,ck:=[78,85,82]} [(.agg Px)] Xm 22 ?_;exact λ_ _=>.of λR h H=>⟨trivial,H⟩
theorem Xt(x:Nat):az prog 174 #[.agg (q.ee DI Ty DJ Tz).aJ,pt x] (aj (q.cW DI) (aj (q.cI DJ) (aj (dO x (m.ee ca cc va vc)) (DV m ca va))))
 (λv=>aA (v=.bool (lB q m)) (aj (q.cW DI) (aj (q.cI DJ) (aj (dO x (m.ee ca cc va vc)) (DV m ca va))))):=by
 refine ao (ρ:=q.env DI Ty DJ Tz++([en.n x]++m.env ca cc va vc)) {fk:=[78,85,82],aF:=gF,bU:=gG,dN:=true,dv:=true,ck:=[78,85,82]} [(.agg Px),(.ptr 22 0)] Xl 45 ?_;intro _;refine(Kg q DI Ty DJ Tz).wk ?_;rintro v R h ⟨rfl,H⟩;refine⟨_,_,_,_,_,_,q.cW DI,q.cI DJ,rfl,?_,H⟩;refine(Kg m ca cc va vc).wk ?_;rintro v R h ⟨rfl,H⟩;refine⟨_,_,_,_,_,_,m.cW ca,m.cI va,rfl,?_,H⟩;exact⟨_,afn (by decide) _ _ _ _ _ _ _ _ _ _ _ _,.of λR h' H=>⟨rfl,H⟩⟩
theorem Kh(x y:eK)(a b:aG)(c d:Nat)(Sa Sb:HP)(hA:bX Sa a x.data.length (x.data.map eX))(hB:bX Sb b y.data.length (y.data.map eX)):
 az prog 28 #[x.val a c,y.val b d] (aj Sa Sb) (λv=>aA (v=.bool (J5 x y)) (aj Sa Sb)):=by
 refine ao (ρ:=[.i x.kind,.s x.path,.s x.aL,.i x.off,.i x.n,.a a,.n x.data.length,.n c,.p Sa,.i y.kind,.s y.path,.s y.aL,.i y.off,.i y.n,.a b,.n y.data.length,.n d,.p Sb]) {fk:=[78,85,82],aF:=gF,bU:=gG,dN:=true,dv:=true,ck:=[78,85,82]} [(.agg Nh),(.agg [9,(.str 10),(.str 11),12,13,(.s 14)])] afg 18 ?_;unfold J5;intro _ _;have no:∀φ:Prop,∀ [Decidable φ],¬φ->(decide φ)=false:=λφ _ h=>decide_eq_false h;refine⟨λh1=>⟨λh2=>⟨λh3=>⟨λh4=>⟨λh5=>?_,λh=>.of λR h' H=>⟨by simp[h],H⟩⟩,λh=>.of λR h' H=>⟨by simp[h],H⟩⟩,λh=>.of λR h' H=>⟨by simp[h],H⟩⟩,λh=>.of λR h' H=>⟨by simp[h],H⟩⟩,λh=>.of λR h' H=>⟨by simp[h],H⟩⟩;refine(Ez a _ c x.data b _ d y.data Sa Sb hA hB rfl rfl).wk ?_;rintro v R h ⟨rfl,H⟩;exact⟨_,rfl,.of λR h H=>⟨by simp[h1,h2,h3,h4,h5],H⟩,H⟩
end
set_option maxHeartbeats 1000000 in
theorem EN(S:HP)(ep:Int)(a:aG)(n c:Nat)(es:List ky)(hS:∀R h,S.p R h->(Ls ip a n es).p R h)(hb:n<=1000000000)(hx:∀x∈es,x.l.length<=1000000000):
 az prog 24 #[.agg #[an ep,.slice a n c]] S (λv=>aE λa'=>aE λc'=>aE λcZ:List ky=>aA (v=.agg #[an ep,.slice a' n c']/\cZ.map (·.l)=es.map (·.l)) (aj (Ls ip a' n cZ) S)):=by
 refine az.cM (φ:=es.length=n) (λR h H=>(hS R h H).1) λhl=>?_
 refine az.post (B:=λv=>aE λa'=>aE λc'=>aE λcZ:List ky=>aA (v=.agg #[an ep,.slice a' n c']/\cZ.map (·.l)=es.map (·.l)) (aj (PL BG a' n c' cZ) S)) ?_ λv=>λR h d ⟨a',c',cZ,e,H⟩=>by
  obtain⟨R1,h1,q1,q2,q3,q4,H1⟩:=(HP.aT.aj (PL.eP (K:=ip) (e:=23) (one:=tA) _ _ _ _) S) R h d H;exact⟨R1,h1,q1,q2,q3,q4,a',c',cZ,e,H1⟩
 refine ao (ρ:=[.i ep,.a a,.n n,.n c,.p S]) {fk:=[78,85,82],hv:=[(0,[(.a 7)])],aF:=gF,bU:=gG,dN:=true,dv:=true,ck:=[78,85,82]} [(.agg [0,(.s 1)])] Ni 5 ?_;intro _ _;refine(Eg S a n c es hS hb).wk ?_;rintro v R h ⟨a',c',rfl,H⟩;have OA:n≠0->a'.isSome=true:=λhn=>QO (ai H) hn;refine⟨a',n,c',PL BG a' n c' es,rfl,?_,H⟩;clear H;refine⟨λi P=>∃k:Nat,∃cZ:List ky,i=k/\k<=n/\P=PL BG a' n c' cZ/\cZ.map (·.l)=es.map (·.l),λi _=>n - i.toNat,⟨0,es,rfl,Nat.zero_le _,rfl,rfl⟩,?_⟩;rintro _ _ ⟨k,cZ,rfl,hk,rfl,he⟩
 have tZ:cZ.length=n:=by
  have:=congrArg List.length he;simp at this;omega
 refine⟨λhlt=>⟨by omega,λ_=>⟨OA (by omega),λ_=>?_⟩⟩,λlH=>.of λR h H=>⟨a',c',cZ,⟨rfl,he⟩,ak H⟩⟩;have ki:k<cZ.length:=by omega
 have hg:cZ[k]? =some cZ[k]:=List.getElem?_eq_getElem ki;have hm:cZ[k]∈cZ:=List.getElem_mem ki
 have lj:cZ[k].l.length<=1000000000:=by
  have:cZ[k].l∈es.map (·.l):=by rw[<-he];exact List.mem_map.2 ⟨_,hm,rfl⟩
  obtain⟨y,hy,e⟩:=List.mem_map.1 this;rw[<-e];exact hx y hy
 refine⟨cZ[k].a,cZ[k].l.length,cZ[k].c,aja hg,?_⟩;refine(uT (PL BG a' n c' cZ) cZ[k].a cZ[k].l.length cZ[k].c cZ[k].l (.of λR h H=>Bw (ah H.2) (ip.hp cZ[k]) (List.mem_map.2 ⟨_,hm,rfl⟩)) rfl lj).wk ?_;rintro v R h ⟨a2,c2,rfl,H⟩;refine⟨a2,cZ[k].l.length,c2,vP a2 cZ[k].l.length cZ[k].l,rfl,?_,H⟩;clear H;obtain⟨i,hi,_,hz,_⟩:=info_parts x9;refine(PL.set (K:=BG) hi hz (a:=a') (n:=n) (c:=c') (l:=cZ) (k:=k) (by omega) ⟨a2,c2,cZ[k].l⟩ rfl tt).aK (λR h H=>ae H (λ_ h=>h) λz hz=>aD hz) ?_;rintro v R h ⟨rfl,H⟩;refine⟨PL BG a' n c' (cZ.set k ⟨a2,c2,cZ[k].l⟩),rfl,⟨bh _ (by omega) (by omega),λ_=>⟨⟨k+1,cZ.set k ⟨a2,c2,cZ[k].l⟩,by omega,by omega,rfl,?_⟩,by dsimp only;omega⟩⟩,ai H⟩;have e:(cZ.set k cZ[k]).map (·.l)=cZ.map (·.l):=by rw[List.set_getElem_self]
 rw[List.map_set]at e⊢;exact e.trans he
end
end Go.Proofs.YtchjlaebbhpioaaGreatDoor
