/- Texts of this claim, joined. No condition. -/
import Derived.Test.YtchjlaebbhpioaaGreatDoorCFJ1
import Derived.Test.YtchjlaebbhpioaaGreatDoorCFJ2
import Derived.Test.YtchjlaebbhpioaaGreatDoorCFJ3
import Derived.Test.YtchjlaebbhpioaaGreatDoorCFJ4
import Derived.Test.YtchjlaebbhpioaaGreatDoorCFJ5
import Derived.KernelRfl
set_option linter.unusedSimpArgs false
set_option linter.unusedVariables false
namespace Go.Proofs.YtchjlaebbhpioaaGreatDoor
open HP (aE aA aj tt aD ai au ae aC ak aW ah Az)
open _root_.Go.Proofs.Tryz (prog)
set_option maxRecDepth 100000
section
open RX
structure Nn where
 α:Type
 F:RF α
 R:Nat->α->HP
 vy:α->fF->Prop
 Hu:α->Int->Prop
 th:∀b s,az prog 36 #[pt b] (R b s) (λv=>aA (v=an (F.nx s)) (R b s))
 Pz:∀b s,az prog 67 #[pt b] (R b s) (λv=>aA (v=.bool (F.lost s)) (R b s))
 PA:∀b s (x:fF) a c S,vy s x->bX S a x.data.length (x.data.map eX)->x.data.length<=c->(x.data.length≠0->a.isSome=true)->az prog 169 #[pt b,.agg #[an x.what,.slice a x.data.length c]] (aj (R b s) S) (λv=>aA (v=cE) (aj (R b (F.take s x)) S))
 PB:∀b s low,Hu s low->az prog 173 #[pt b,an low] (R b s) (λv=>aA (v=cE) (R b (F.skip s low)))
 Xu:∀b s k,az prog 230 #[pt b,Cq k] (R b s) (λv=>aE λda=>aE λdc=>aE λna=>aE λnc=>aA (v=.tuple #[xh ((F.bH s k).getD {}) da dc na nc,.bool (F.bH s k).isSome]) (aj (bE da ((F.bH s k).getD {}).data.length ((F.bH s k).getD {}).data) (aj (zU na ((F.bH s k).getD {}).bp.length ((F.bH s k).getD {}).bp) (R b s))))
structure ru where
 pa:aG
 pc:Nat
 iG:List ky
 rb:Nat
 ya:aG
 yc:Nat
 da:aG
 dc:Nat
 ov:aG
 la:aG
 lc:Nat
 av:aG
 mp:Nat
 oa:aG
 oc:Nat
 mm:List p9
 xa:aG
 xc:Nat
 za:aG
 zc:Nat
section
variable {I:Nn}
def afo(j:sK)(r:ru):List Value:=[an j.i1,an j.i2,an j.i3,an j.kind,an j.step,an j.fJ,.slice r.ya j.pl.length r.yc,an j.at',an j.cell.what,.slice r.da j.cell.data.length r.dc,.pointer r.ov,.slice r.la j.left.length r.lc]
def dG(g:dX I.α)(r:ru):List Value:=[an g.node,an g.dz,an g.cL,an g.aQ.ep,.slice r.pa r.iG.length r.pc,pt r.rb,an g.fQ,an g.ga,an g.num,.bool g.busy,
 an g.aZ.i1,an g.aZ.i2,an g.aZ.i3,an g.aZ.kind,an g.aZ.step,an g.aZ.fJ,.slice r.ya g.aZ.pl.length r.yc,an g.aZ.at',an g.aZ.cell.what,.slice r.da g.aZ.cell.data.length r.dc,.pointer r.ov,.slice r.la g.aZ.left.length r.lc,
 .pointer r.av,an g.Cr,.map (some r.mp),.slice r.oa r.mm.length r.oc,.bool g.waits,an g.id.1,an g.id.2.1,an g.id.2.2,an g.bH.err,an g.bH.kind,an g.bH.size,an g.bH.bo,.slice r.xa g.bH.data.length r.xc,.slice r.za g.bH.bp.length r.zc]
def xj(ov:aG):Option jl->HP
 |none=>HP.pure (ov=none)
 |some o=>aE λob=>aA (ov=some ⟨ob,0,none⟩) (fZ ob o)
def jQ(av:aG):Option cg->HP
 |none=>HP.pure (av=none)
 |some a=>aE λab=>aA (av=some ⟨ab,0,none⟩) (jD ab a)
def Aq(v:Value)(m:MS):HP:=aE λca=>aE λcc=>aE λva=>aE λvc=>aA (v=.agg (m.ee ca cc va vc).aJ/\m.small) (HP.both (m.cW ca) (m.cI va))
theorem Aq.iF:Iw Aq:=λv x R h h' ⟨ca,cc,va,vc,e,H1,H2⟩=>⟨ca,cc,va,vc,e,H1,H2⟩
def sR(mp:Nat)(l:List (Int×MS)):HP:=gI Aq iE mp (b9 l)
def CRr(g:dX I.α)(r:ru):HP:=
 ⟨λR h=>(Ls ip r.pa r.iG.length r.iG).p R h/\(bE r.ya g.aZ.pl.length g.aZ.pl).p R h/\(bE r.da g.aZ.cell.data.length g.aZ.cell.data).p R h/\(bE r.xa g.bH.data.length g.bH.data).p R h/\(zU r.za g.bH.bp.length g.bH.bp).p R h,
  λl l' ⟨a,b,c,d,e⟩=>⟨(Ls _ _ _ _).mono l l' a,(bN _ _ _ _).mono l l' b,(bN _ _ _ _).mono l l' c,(bN _ _ _ _).mono l l' d,(bN _ _ _ _).mono l l' e⟩⟩
def CRo(g:dX I.α)(r:ru):HP:=aj (kv r.la g.aZ.left.length r.lc g.aZ.left) (CRr g r)
structure EO(g:dX I.α)(r:ru):Prop where
 p:r.iG.map (·.l)=g.aQ.ch
 pb:r.iG.length<=1000/\∀x∈r.iG,x.l.length<=1000000
 y:g.aZ.pl.length<=1000000
 d:g.aZ.cell.data.length<=1000000/\g.aZ.cell.data.length<=r.dc
 l:g.aZ.left.length<=1000000
 o:r.mm.map (·.m)=g.out
 os:g.out.length<=1000000/\∀m∈g.out,m.small
 pn:g.bq.length<=1000000/\(g.bq.map (·.1)).Nodup/\∀y∈g.bq,y.2.small
def mS(g:dX I.α)(r:ru):HP:=aj (I.R r.rb g.rp) (aj (xj r.ov g.aZ.op) (aj (jQ r.av g.dH) (aj (sR r.mp g.bq) (aj (PL eI r.oa r.mm.length r.oc r.mm) (CRo g r)))))
def PW(ty:TypeId)(b:Nat)(cs:dI)(Q:HP):HP:=aj (HP.one b (.cells cs ty (0,0))) Q
abbrev CW:=PW 87
def dR(b:Nat)(g:dX I.α)(r:ru):HP:=CW b (dG g r).toArray (mS g r)
def bA(b:Nat)(g:dX I.α):HP:=aE λr=>aA (EO g r) (dR b g r)
theorem bA.qD{f:FuncId}{args:dI}{b:Nat}{g:dX I.α}{S:HP}{B:Value->HP}(t:∀r,EO g r->az prog f args (aj (dR b g r) S) B):az prog f args (aj (bA b g) S) B:=
 (az.ex (A:=λr=>aA (EO g r) (aj (dR b g r) S)) λr=>az.pure λh=>t r h).aK (λR h ⟨h1,h2,d,l1,l2,⟨r,e,H⟩,HS⟩=>⟨r,e,h1,h2,d,l1,l2,H,HS⟩) λ_ _ _ h=>h
theorem bA.od{f:FuncId}{args:dI}{b:Nat}{g:dX I.α}{B:Value->HP}(t:∀r,EO g r->az prog f args (dR b g r) B):az prog f args (bA b g) B:=az.ex λr=>az.pure λh=>t r h
theorem Xv{b:Nat}{cs:dI}{Q:HP}(g:dX I.α)(r:ru)(hc:cs=(dG g r).toArray)(hok:EO g r){R h:PH}(H:(CW b cs Q).p R h)(hq:∀x,Q.p R x->(mS g r).p R x):(bA b g).p R h:=⟨r,hok,by subst hc;exact ae H (λ_ h=>h) hq⟩
section
variable {ty:TypeId}{b:Nat}{cs:dI}{Q:HP}{k:Nat}
theorem xl{t:TypeId}{d:TypeDesc}{v:Value}(hd:prog.underlying t=some d)(ha:gZ prog t=false)(hz:iA prog t=1)(hk:cs[k]? =some v):aM prog (bO t (.pointer (some ⟨b,k,none⟩))) (PW ty b cs Q) v:=Zu hd ha hz (by rw[Array.getElem?_toList];exact hk)
theorem g8{x:Int}(hk:cs[k]? =some (an x)):aM prog (bO 3 (.pointer (some ⟨b,k,none⟩))) (PW ty b cs Q) (an x):=xl rV Dj Oz hk
theorem Ki{x:Bool}(hk:cs[k]? =some (.bool x)):aM prog (bO 4 (.pointer (some ⟨b,k,none⟩))) (PW ty b cs Q) (.bool x):=xl IP IQ zN hk
theorem aom{a:aG}{n c:Nat}(hk:cs[k]? =some (.slice a n c)):aM prog (bO 37 (.pointer (some ⟨b,k,none⟩))) (PW ty b cs Q) (.slice a n c):=xl qB OS ZA hk
theorem Xw{a:aG}{n c:Nat}(hk:cs[k]? =some (.slice a n c)):aM prog (bO 23 (.pointer (some ⟨b,k,none⟩))) (PW ty b cs Q) (.slice a n c):=xl Ba OX ZD hk
theorem acX{a:aG}{n c:Nat}(hk:cs[k]? =some (.slice a n c)):aM prog (bO 57 (.pointer (some ⟨b,k,none⟩))) (PW ty b cs Q) (.slice a n c):=xl Mi (by kernel_rfl) (by kernel_rfl) hk
theorem qX:prog.underlying 81=some (.map 3 64):=by kernel_rfl
theorem CE{m:Nat}(hk:cs[k]? =some (.map (some m))):aM prog (bO 81 (.pointer (some ⟨b,k,none⟩))) (PW ty b cs Q) (.map (some m)):=xl qX (by kernel_rfl) (by kernel_rfl) hk
theorem No:prog.underlying 82=some (.pointer 170):=by kernel_rfl
theorem Np:prog.underlying 85=some (.pointer 162):=by kernel_rfl
theorem afq:prog.underlying 78=some (.pointer 128):=by kernel_rfl
theorem xm{v:aG}(hk:cs[k]? =some (.pointer v)):aM prog (bO 82 (.pointer (some ⟨b,k,none⟩))) (PW ty b cs Q) (eD (.pointer v)):=xl No (by kernel_rfl) (by kernel_rfl) hk
theorem EP{v:aG}(hk:cs[k]? =some (.pointer v)):aM prog (bO 85 (.pointer (some ⟨b,k,none⟩))) (PW ty b cs Q) (eD (.pointer v)):=xl Np (by kernel_rfl) (by kernel_rfl) hk
theorem sU{v:aG}(hk:cs[k]? =some (.pointer v)):aM prog (bO 78 (.pointer (some ⟨b,k,none⟩))) (PW ty b cs Q) (eD (.pointer v)):=xl afq (by kernel_rfl) (by kernel_rfl) hk
theorem vj{t:TypeId}{vs:List Value}(hd:(prog.underlying t).isSome=true)(ha:gZ prog t=true)(hz:iA prog t=vs.length)(hp:Nat.blt 0 vs.length=true)(hk:(cs.toList.drop k).take vs.length=vs):aM prog (bO t (.pointer (some ⟨b,k,none⟩))) (PW ty b cs Q) (.agg vs.toArray):=by
 obtain⟨d,hd⟩:=Option.isSome_iff_exists.1 hd;refine aeb hd ha hz (Nat.blt_eq.mp hp) λj v hj=>?_;have hlt:=(List.getElem?_eq_some_iff.1 hj).1;rw[<-hk,List.getElem?_take,aB hlt,List.getElem?_drop]at hj;exact hj
theorem iT{t:TypeId}{x:Value}{cs':dI}(hi:(prog.info? t).map (λi=>i.size)=some 1)(hx:x.cells= #[x])(h1:x.oneCell'=true)(hk:Nat.blt k cs.size=true)(hc:cs'=cs.setIfInBounds k x):aR prog (cv t (.pointer (some ⟨b,k,none⟩)) x) (PW ty b cs Q) (λv=>aA (v=cE) (PW ty b cs' Q)):=by
 obtain⟨i,hi,hz⟩:=Option.map_eq_some_iff.1 hi;exact Zv hi hz hx h1 (Nat.blt_eq.mp hk) hc Q
theorem Kj{t:TypeId}{x:Value}{vs:List Value}{cs':dI}(hi:(prog.info? t).map (λi=>i.size)=some vs.length)(hx:x.cells=vs.toArray)(hp:Nat.blt 0 vs.length=true)(h1:vs.all (λv=>v.oneCell')=true)(hk:Nat.ble (k+vs.length) cs.size=true)(hc:cs'.toList=cs.toList.take k++vs++cs.toList.drop (k+vs.length)):
 aR prog (cv t (.pointer (some ⟨b,k,none⟩)) x) (PW ty b cs Q) (λv=>aA (v=cE) (PW ty b cs' Q)):=by
 obtain⟨i,hi,hz⟩:=Option.map_eq_some_iff.1 hi;exact aec hi hx hz (Nat.blt_eq.mp hp) (λv hv=>List.all_eq_true.1 h1 v hv) (Nat.ble_eq.mp hk) hc Q
theorem CW.Da{cs:dI}{Q S:HP}{R h:PH}(H:(aj (PW ty b cs Q) S).p R h):(PW ty b cs (aj Q S)).p R h:=au H
theorem ajM{cs:dI}{Q S:HP}{R h:PH}(H:(PW ty b cs (aj Q S)).p R h):(aj (PW ty b cs Q) S).p R h:=aC H
end
def EQ(g:dX I.α)(r:ru):List HP:=[I.R r.rb g.rp,xj r.ov g.aZ.op,jQ r.av g.dH,sR r.mp g.bq,PL eI r.oa r.mm.length r.oc r.mm,CRo g r]
section
variable {ty:TypeId}{b:Nat}{cs:dI}{L:List HP}{k:Nat}{X K:HP}{γ:Type}{X':γ->HP}{φ:Value->γ->Prop}{P:γ->HP}
theorem CW.jK(hk:L[k]? =some X){R h:PH}(H:(aj (PW ty b cs (cw L)) K).p R h):(aj (aj X K) (aj (HP.one b (.cells cs ty (0,0))) (cw (L.eraseIdx k)))).p R h:=by
 have H1:=au H;have H2:=ae H1 (λ_ h=>h) λy hy=>au (ae hy (λz hz=>nz hk hz) λ_ h=>h);have H3:=HP.pick [_,X,cw (L.eraseIdx k),K] [1,3,0,2] (by decide) rfl H2;exact aC H3
theorem CW.lX(hk:L[k]? =some X){X2 P2:HP}{R h:PH}(H:(aj (aj X2 P2) (aj (HP.one b (.cells cs ty (0,0))) (cw (L.eraseIdx k)))).p R h):(aj (PW ty b cs (cw (L.set k X2))) P2).p R h:=by
 have hlt:k<L.length:=(List.getElem?_eq_some_iff.1 hk).1;have H1:=HP.pick [X2,P2,_,cw (L.eraseIdx k)] [2,0,3,1] (by decide) rfl (au H);have H2:=ae H1 (λ_ h=>h) λy hy=>ae (aC hy) (λz hz=>kG hlt hz) λ_ h=>h;exact aC H2
theorem kr{f:FuncId}{args:dI}(hk:L[k]? =some X)(t:az prog f args (aj X K) (λv=>aE λy:γ=>aA (φ v y) (aj (X' y) (P y)))):
 az prog f args (aj (PW ty b cs (cw L)) K) (λv=>aE λy:γ=>aA (φ v y) (aj (PW ty b cs (cw (L.set k (X' y)))) (P y))):=
 (t.frame (aj (HP.one b (.cells cs ty (0,0))) (cw (L.eraseIdx k)))).aK (λR h H=>CW.jK hk H) λv R h ⟨h1,h2,d,l1,l2,⟨y,e,H⟩,HU⟩=>⟨y,e,CW.lX hk ⟨h1,h2,d,l1,l2,H,HU⟩⟩
theorem qY{o:Sem Next}(hk:L[k]? =some X)(t:aR prog o (aj X K) (λv=>aE λy:γ=>aA (φ v y) (aj (X' y) (P y)))):
 aR prog o (aj (PW ty b cs (cw L)) K) (λv=>aE λy:γ=>aA (φ v y) (aj (PW ty b cs (cw (L.set k (X' y)))) (P y))):=
 (t.frame (aj (HP.one b (.cells cs ty (0,0))) (cw (L.eraseIdx k)))).aK (λR h H=>CW.jK hk H) λv R h ⟨h1,h2,d,l1,l2,⟨y,e,H⟩,HU⟩=>⟨y,e,CW.lX hk ⟨h1,h2,d,l1,l2,H,HU⟩⟩
theorem aaS(hk:L[k]? =some X):L.set k X=L:=by
 refine List.ext_getElem? λj=>?_;rw[List.getElem?_set];split
 ·rename_i e;subst e;rw[aB (List.getElem?_eq_some_iff.1 hk).1,hk]
 ·rfl
theorem qq{f:FuncId}{args:dI}(hk:L[k]? =some X)(t:az prog f args X (λv=>aE λy:γ=>aA (φ v y) (aj (P y) X))):
 az prog f args (PW ty b cs (cw L)) (λv=>aE λy:γ=>aA (φ v y) (aj (P y) (PW ty b cs (cw L)))):=by
 have h:=kr (ty:=ty) (b:=b) (cs:=cs) (K:=tt) (X':=λ_=>X) (φ:=φ) (P:=P) hk (t.aK (λR h H=>ai H) λv R h ⟨y,e,H⟩=>⟨y,e,ak H⟩);rw[aaS hk]at h;exact h.aK (λR h H=>aD H) λv R h ⟨y,e,H⟩=>⟨y,e,ak H⟩
theorem yL{f:FuncId}{args:dI}{ψ:Value->Prop}(hk:L[k]? =some X)(t:az prog f args X (λv=>aA (ψ v) X)):
 az prog f args (PW ty b cs (cw L)) (λv=>aA (ψ v) (PW ty b cs (cw L))):=
 (qq (ty:=ty) (γ:=Unit) (φ:=λv _=>ψ v) (P:=λ_=>tt) (b:=b) (cs:=cs) hk (t.wk λv R h ⟨e,H⟩=>⟨(),e,aW H⟩)).wk λv R h ⟨_,e,H⟩=>⟨e,ah H⟩
end
theorem xj.qD{f:FuncId}{args:Value->dI}{ov:aG}{o:jl}{K:HP}{γ:Type}{φ:Value->γ->Prop}{o':γ->jl}{P:γ->HP}(t:∀ob,az prog f (args (pt ob)) (aj (fZ ob o) K) (λv=>aE λy=>aA (φ v y) (aj (fZ ob (o' y)) (P y)))):
 az prog f (args (eD (.pointer ov))) (aj (xj ov (some o)) K) (λv=>aE λy=>aA (φ v y) (aj (xj ov (some (o' y))) (P y))):=by
 refine(az.ex (A:=λob=>aA (ov=some ⟨ob,0,none⟩) (aj (fZ ob o) K)) λob=>az.pure λe=>?_).aK (λR h ⟨h1,h2,d,l1,l2,⟨ob,e,H⟩,HK⟩=>⟨ob,e,h1,h2,d,l1,l2,H,HK⟩) λ_ _ _ h=>h;subst e;exact(t ob).wk λv R h ⟨y,e,H⟩=>⟨y,e,ae H (λx hx=>⟨ob,rfl,hx⟩) λ_ h=>h⟩
theorem jQ.qD{f:FuncId}{args:Value->dI}{av:aG}{a:cg}{K:HP}{γ:Type}{φ:Value->γ->Prop}{a':γ->cg}{P:γ->HP}(t:∀ab,az prog f (args (pt ab)) (aj (jD ab a) K) (λv=>aE λy=>aA (φ v y) (aj (jD ab (a' y)) (P y)))):
 az prog f (args (eD (.pointer av))) (aj (jQ av (some a)) K) (λv=>aE λy=>aA (φ v y) (aj (jQ av (some (a' y))) (P y))):=by
 refine(az.ex (A:=λab=>aA (av=some ⟨ab,0,none⟩) (aj (jD ab a) K)) λab=>az.pure λe=>?_).aK (λR h ⟨h1,h2,d,l1,l2,⟨ab,e,H⟩,HK⟩=>⟨ab,e,h1,h2,d,l1,l2,H,HK⟩) λ_ _ _ h=>h;subst e;exact(t ab).wk λv R h ⟨y,e,H⟩=>⟨y,e,ae H (λx hx=>⟨ab,rfl,hx⟩) λ_ h=>h⟩
theorem xj.Xx{f:FuncId}{args:Value->dI}{ov:aG}{o:jl}{γ:Type}{φ:Value->γ->Prop}{P:γ->HP}(t:∀ob,az prog f (args (pt ob)) (fZ ob o) (λv=>aE λy=>aA (φ v y) (aj (P y) (fZ ob o)))):
 az prog f (args (eD (.pointer ov))) (xj ov (some o)) (λv=>aE λy=>aA (φ v y) (aj (P y) (xj ov (some o)))):=
 (xj.qD (K:=tt) (o':=λ_=>o) (φ:=φ) (P:=P) λob=>(t ob).aK (λR h H=>ai H) λv R h ⟨y,e,H⟩=>⟨y,e,ak H⟩).aK (λR h H=>aD H) λv R h ⟨y,e,H⟩=>⟨y,e,ak H⟩
theorem jQ.Xx{f:FuncId}{args:Value->dI}{av:aG}{a:cg}{γ:Type}{φ:Value->γ->Prop}{P:γ->HP}(t:∀ab,az prog f (args (pt ab)) (jD ab a) (λv=>aE λy=>aA (φ v y) (aj (P y) (jD ab a)))):
 az prog f (args (eD (.pointer av))) (jQ av (some a)) (λv=>aE λy=>aA (φ v y) (aj (P y) (jQ av (some a)))):=
 (jQ.qD (K:=tt) (a':=λ_=>a) (φ:=φ) (P:=P) λab=>(t ab).aK (λR h H=>ai H) λv R h ⟨y,e,H⟩=>⟨y,e,ak H⟩).aK (λR h H=>aD H) λv R h ⟨y,e,H⟩=>⟨y,e,ak H⟩
theorem xj.read{f:FuncId}{args:Value->dI}{ov:aG}{o:jl}{ψ:Value->Prop}(t:∀ob,az prog f (args (pt ob)) (fZ ob o) (λv=>aA (ψ v) (fZ ob o))):
 az prog f (args (eD (.pointer ov))) (xj ov (some o)) (λv=>aA (ψ v) (xj ov (some o))):=
 (xj.Xx (γ:=Unit) (φ:=λv _=>ψ v) (P:=λ_=>tt) λob=>(t ob).wk λv R h ⟨e,H⟩=>⟨(),e,aW H⟩).wk λv R h ⟨_,e,H⟩=>⟨e,ah H⟩
theorem jQ.read{f:FuncId}{args:Value->dI}{av:aG}{a:cg}{ψ:Value->Prop}(t:∀ab,az prog f (args (pt ab)) (jD ab a) (λv=>aA (ψ v) (jD ab a))):
 az prog f (args (eD (.pointer av))) (jQ av (some a)) (λv=>aA (ψ v) (jQ av (some a))):=
 (jQ.Xx (γ:=Unit) (φ:=λv _=>ψ v) (P:=λ_=>tt) λab=>(t ab).wk λv R h ⟨e,H⟩=>⟨(),e,aW H⟩).wk λv R h ⟨_,e,H⟩=>⟨e,ah H⟩
end
section
variable {I:Nn}{b:Nat}{g:dX I.α}{r:ru}
theorem GI:(prog.info? 4).map (λi=>i.size)=some 1:=by kernel_rfl
theorem qr:(prog.info? 3).map (λi=>i.size)=some 1:=by kernel_rfl
theorem Nq:(prog.info? 57).map (λi=>i.size)=some 1:=by kernel_rfl
theorem vk:(prog.info? 82).map (λi=>i.size)=some 1:=by kernel_rfl
theorem Nr:(prog.info? 85).map (λi=>i.size)=some 1:=by kernel_rfl
theorem Xy:(prog.info? 44).map (λi=>i.size)=some 3:=by kernel_rfl
theorem Xz:(prog.info? 47).map (λi=>i.size)=some 6:=by kernel_rfl
theorem XA:(prog.info? 84).map (λi=>i.size)=some 12:=by kernel_rfl
theorem afr:(prog.info? 34).map (λi=>i.size)=some 2:=by kernel_rfl
theorem afs{mp:Nat}{l:List (Int×MS)}{K:HP}:aR prog (Dq 81 0 (.map (some mp))) (aj (sR mp l) K) (λv=>aA (v=cE) (aj (sR mp []) K)):=by
 refine(aR.frame (B:=λv=>aA (v=cE) (sR mp [])) ?_ K).wk λv R h ⟨h1,h2,d,l1,l2,⟨e,H⟩,HK⟩=>⟨e,h1,h2,d,l1,l2,H,HK⟩;rintro w R h F s ⟨al,c,hI,h1,h2,d,l1,l2,H1,H2⟩;have hw:=s.oh _ _ (l1 _ _ H1)
 have fg:(Dq 81 0 (.map (some mp))).run prog w=.ok (.value (cE)) (World.setObj w mp (aX iE ([]:AL Int) c)):=by
  unfold aX at hw;unfold Dq Builtin.clear_;simp[RX.run_underlying qX,Sem.run_bind,getObj,Go.setObj,Sem.run,hw,aX,World.setObj,Result.andThen]
 exact⟨.value (cE),_,_,fg,rfl,Same.setObj _ _ _,R,_,PH.le.refl _,s.setObj (l1 _ _ H1),rfl,[],c,fC.nil c,_,PH.cV,PH.eC _,PH.le.refl _,PH.dB _,aB rfl,o7.nil⟩
set_option maxHeartbeats 1000000 in
theorem xo(a:fH)(da:aG)(dc:Nat)(na:aG)(nc:Nat):az prog 156 #[pt b,xh a da dc na nc] (aj (bA b g) (aj (bE da a.data.length a.data) (zU na a.bp.length a.bp))) (λv=>aA (v=cE) (bA b (tR g a))):=by
 refine bA.qD λr hok=>?_;refine ao (ρ:=[.n b,.p (dR b g r),.i a.err,.i a.kind,.i a.size,.i a.bo,.a da,.n a.data.length,.n dc,.p (bE da a.data.length a.data),.a na,.n a.bp.length,.n nc,.p (zU na a.bp.length a.bp)]) {fk:=[78,85,82],aF:=gF,bU:=gG,dN:=true,dv:=true,ck:=[78,85,82]} [(.ptr 0 0),(.agg [2,3,4,5,(.s 6),(.s 10)])] [(.b 0,1),(6,9),(10,13)] 14 ?_
 try simp only[By,ne_eq,Nat.reduceEqDiff,not_false_eq_true]
 intro _;refine⟨_,_,_,vj (vs:=[an g.aZ.i1,an g.aZ.i2,an g.aZ.i3]) (by kernel_rfl) (by kernel_rfl) (by kernel_rfl) rfl rfl,?_⟩;refine qi (iT GI rfl rfl rfl rfl) (qi (Kj (vs:=[an g.aZ.i1,an g.aZ.i2,an g.aZ.i3]) (cs':=(dG {g with waits:=true,id:=(g.aZ.i1,g.aZ.i2,g.aZ.i3)} r).toArray) Xy rfl rfl rfl rfl rfl) ?_)
 let r1:ru:={r with xa:=da,xc:=dc,za:=na,zc:=nc}
 refine(((Kj (vs:=[an a.err,an a.kind,an a.size,an a.bo,.slice da a.data.length dc,.slice na a.bp.length nc]) (cs':=(dG {g with waits:=true,id:=(g.aZ.i1,g.aZ.i2,g.aZ.i3),bH:=a} r1).toArray) Xz rfl rfl rfl rfl rfl).frame (aj (bE da a.data.length a.data) (zU na a.bp.length a.bp))).wk ?_);rintro v R h ⟨g1,g2,d,l1,l2,⟨rfl,H⟩,HU⟩;refine⟨_,rfl,?_,g1,g2,d,l1,l2,H,HU⟩;clear H HU d l1 l2;refine qi (iT (cs':=(dG {g with waits:=true,id:=(g.aZ.i1,g.aZ.i2,g.aZ.i3),bH:=a,busy:=false} r1).toArray) GI rfl rfl rfl rfl) ?_
 let r2:ru:={r1 with ya:=none,yc:=0,da:=none,dc:=0,ov:=none,la:=none,lc:=0}
 refine qi (Kj (vs:=afo DF r2) (cs':=(dG {g with waits:=true,id:=(g.aZ.i1,g.aZ.i2,g.aZ.i3),bH:=a,busy:=false,aZ:=DF} r2).toArray) XA rfl rfl rfl rfl rfl) ?_
 let r3:ru:={r2 with av:=none}
 refine qi (iT (cs':=(dG {g with waits:=true,id:=(g.aZ.i1,g.aZ.i2,g.aZ.i3),bH:=a,busy:=false,aZ:=DF,dH:=none} r3).toArray) Nr rfl rfl rfl rfl) ?_;refine⟨r.mp,CE rfl,?_⟩;refine((qY (γ:=Unit) (k:=3) (K:=tt) (X':=λ_=>sR r.mp []) (P:=λ_=>tt) (φ:=λv _=>v=cE) (L:=EQ g r) rfl (afs.wk λv R h ⟨e,H⟩=>⟨(),e,H⟩)).aK (λR h H=>aD H) ?_);rintro v R h ⟨_,rfl,H⟩;refine⟨_,rfl,?_,ai H⟩;clear H;refine qi (iT (cs':=(dG (tR g a) {r3 with oa:=none,oc:=0,mm:=[]}).toArray) Nq rfl rfl rfl rfl) (.of λR h H=>⟨trivial,?_⟩);have hD:=ai (ah H);have hN:=ah (ah H);refine Xv (g:=tR g a) {r3 with oa:=none,oc:=0,mm:=[]} rfl ⟨hok.p,hok.pb,Nat.zero_le _,⟨Nat.zero_le _,Nat.le_refl _⟩,Nat.zero_le _,rfl,⟨Nat.zero_le _,λm hm=>by cases hm⟩,⟨Nat.zero_le _,List.nodup_nil,λy hy=>by cases hy⟩⟩ (ai H) λx hx=>?_;have H1:=HP.pick [I.R r.rb g.rp,xj r.ov g.aZ.op,jQ r.av g.dH,sR r.mp [],PL eI r.oa r.mm.length r.oc r.mm,CRo g r] [0,3,5] (by decide) rfl hx;have hro:=ah (ah H1);refine ae H1 (λ_ h=>h) λy hy=>⟨PH.cV,y,PH.eL _,PH.dB _,PH.le.refl _,rfl,PH.cV,y,PH.eL _,PH.dB _,PH.le.refl _,rfl,ae hy (λ_ h=>h) λz hz=>⟨PH.cV,z,PH.eL _,PH.dB _,PH.le.refl _,wd _ _ _,?_⟩⟩;exact⟨PH.cV,_,PH.eL _,PH.dB _,PH.le.refl _,bY.nil _ _ _ _,Ls.iF _ (ah hro).1,bN.nil _ _ _ _,bN.nil _ _ _ _,hD,hN⟩
theorem aon{o:Sem Next}{cs cs':dI}{Q S:HP}{K:HP->Prop}(t:aR prog o (CW b cs Q) λv=>aA (v=cE) (CW b cs' Q))(k:K (CW b cs' (aj Q S))):aR prog o (aj (CW b cs Q) S) λv=>aE λQ'=>aA (v=cE) (aA (K Q') Q'):=
 (t.frame S).wk λ_ _ _ ⟨h1,h2,d,l1,l2,⟨e,H⟩,HS⟩=>⟨_,e,k,CW.Da ⟨h1,h2,d,l1,l2,H,HS⟩⟩
theorem Hd{A B:HP}{R h:PH}(f:∀x,A.p R x)(H:B.p R h):(aj A B).p R h:=⟨PH.cV,h,PH.eL _,PH.dB _,PH.le.refl _,f _,H⟩
theorem mS.dH{a:cg}{ab:Nat}{R h:PH}(H:(aj (mS g r) (jD ab a)).p R h):(mS {g with dH:=some a} {r with av:=some ⟨ab,0,none⟩}).p R h:=by
 have H0:(cw [I.R r.rb g.rp,xj r.ov g.aZ.op,jQ r.av g.dH,sR r.mp g.bq,PL eI r.oa r.mm.length r.oc r.mm,CRo g r,jD ab a]).p R h:=by
  have H1:=au H;exact ae H1 (λ_ h=>h) λx hx=>ae (au hx) (λ_ h=>h) λy hy=>ae (au hy) (λ_ h=>h) λz hz=>ae (au hz) (λ_ h=>h) λu hu=>au hu
 have H1:=HP.pick _ [0,1,6,3,4,5] (by decide) rfl H0;exact ae H1 (λ_ h=>h) λx hx=>ae hx (λ_ h=>h) λy hy=>ae hy (λ_ h=>⟨ab,rfl,h⟩) λ_ h=>h
theorem mS.op{o:jl}{ob:Nat}{R h:PH}(H:(aj (mS g r) (fZ ob o)).p R h):(mS (g.bf (some o)) {r with ov:=some ⟨ob,0,none⟩}).p R h:=by
 have H0:(cw [I.R r.rb g.rp,xj r.ov g.aZ.op,jQ r.av g.dH,sR r.mp g.bq,PL eI r.oa r.mm.length r.oc r.mm,CRo g r,fZ ob o]).p R h:=by
  have H1:=au H;exact ae H1 (λ_ h=>h) λx hx=>ae (au hx) (λ_ h=>h) λy hy=>ae (au hy) (λ_ h=>h) λz hz=>ae (au hz) (λ_ h=>h) λu hu=>au hu
 have H1:=HP.pick _ [0,6,2,3,4,5] (by decide) rfl H0;exact ae H1 (λ_ h=>h) λx hx=>ae hx (λ_ h=>⟨ob,rfl,h⟩) λ_ h=>h
theorem op0{R h:PH}(H:(mS g r).p R h):(mS (g.bf none) {r with ov:=none}).p R h:=ae H (λ_ h=>h) λx hx=>ae hx (λy _=>rfl) λ_ h=>h
theorem mS.own{R h:PH}(H:(mS g r).p R h):(kv r.la g.aZ.left.length r.lc g.aZ.left).p R h:=ai (ah (ah (ah (ah (ah H)))))
theorem mS.ro{R h:PH}(H:(mS g r).p R h):(CRr g r).p R h:=ah (ah (ah (ah (ah (ah H)))))
theorem CW.ro{cs:dI}{R h:PH}(H:(CW b cs (mS g r)).p R h):(CRr g r).p R h:=mS.ro (ah H)
theorem ku:az prog 85 #[pt b] (bA b g) (λv=>aA (v=cE) (bA b (mr g))):=by
 refine ao (ρ:=[.n b,.p (bA b g)]) {fk:=[78,85,82],aF:=gF,bU:=gG,dN:=true,dv:=true,ck:=[78,85,82]} nT mR 2 ?_;exact gz ((xo {err:=30} none 0 none 0).aK (λR h H=>ak (aC (Hd (λ_=>bN.nil _ _ _ _) (Hd (λ_=>bN.nil _ _ _ _) H)))) λ_ _ _ h=>h) (.of λR h H=>⟨trivial,H⟩)
theorem Kk:az prog 17 #[pt b] (bA b g) (λv=>aE λa=>aE λc=>aE λes:List p9=>aA (v=.slice a es.length c/\es.map (·.m)=g.out) (aj (PL eI a es.length c es) (bA b (nf g)))):=by
 refine bA.od λr hok=>?_;refine ao (ρ:=[.n b,.p (dR b g r)]) {fk:=[78,85,82],aF:=gF,bU:=gG,dN:=true,dv:=true,ck:=[78,85,82]} nT mR 2 ?_;refine⟨_,_,_,acX rfl,qi (iT (cs':=(dG (nf g) {r with oa:=none,oc:=0,mm:=[]}).toArray) Nq rfl rfl rfl rfl) (.of λR h H=>⟨r.oa,r.oc,r.mm,⟨rfl,hok.o⟩,?_⟩)⟩;have H1:=HP.pick [_,I.R r.rb g.rp,xj r.ov g.aZ.op,jQ r.av g.dH,sR r.mp g.bq,PL eI r.oa r.mm.length r.oc r.mm,CRo g r] [5,0,1,2,3,4,6] (by decide) rfl H;refine ae H1 (λ_ h=>h) λy hy=>⟨{r with oa:=none,oc:=0,mm:=[]},⟨hok.p,hok.pb,hok.y,hok.d,hok.l,rfl,⟨Nat.zero_le _,λm hm=>by cases hm⟩,hok.pn⟩,ae hy (λ_ h=>h) λz hz=>ae hz (λ_ h=>h) λu hu=>ae hu (λ_ h=>h) λw hw=>ae hw (λ_ h=>h) λq hq=>ae hq (λ_ h=>h) λp hp=>Hd (λ_=>wd _ _ _) hp⟩
set_option maxHeartbeats 1000000 in
theorem mu:az prog 10 #[pt b] (bA b g) (λv=>aE λda=>aE λdc=>aE λna=>aE λnc=>aA (v=.tuple #[if g.waits=true then Cq g.id else Cq (0,0,0),if g.waits=true then xh g.bH da dc na nc else xh {} none 0 none 0,.bool g.waits]) (aj (bE da g.bH.data.length g.bH.data) (aj (zU na g.bH.bp.length g.bH.bp) (bA b (bS g))))):=by
 refine bA.od λr hok=>?_;refine ao (ρ:=[.n b,.p (dR b g r)]) {fk:=[78,85,82],aF:=gF,bU:=gG,dN:=true,dv:=true,ck:=[78,85,82],jn:=[((14,5),some {ss:=[.n,.n,.i,.i,.i,.i,.a,.n,.n,.a,.n,.n,.i,.i,.i],n:=20,tv:=[(14,none),(15,none),(16,none),(17,none),(18,none),(19,none),(20,none),(21,none),(5,some (.ptr 5 0)),(6,some (.ptr 6 0))],h:=[((.b 6),(.cells [7,8,9,10,(.s 11),(.s 14)] 47)),((.b 5),(.cells [17,18,19] 44)),((.b 3),(.cells [(.k 0),(.k 0),(.k 0),(.k 0),.z,.z] 47)),((.b 2),(.cells [(.k 0),(.k 0),(.k 0)] 44)),(.b 0,1)],lk:=[(11,(.b 0)),(14,(.b 0))]})]} nT mR 2 ?_;intro _ _;refine⟨_,Ki rfl,λh=>?_,λh=>?_⟩
 ·refine .of λR x H=>⟨r.xa,r.xc,r.za,r.zc,?_,?_⟩
  ·have e:g.waits=false:=by simpa using h
   rw[e];rfl
  ·have hro:=CW.ro H;refine bN.join hro.2.2.2.1 (bN.join hro.2.2.2.2 ?_);unfold bS;rw[aq h];exact⟨r,hok,H⟩
 have hw:g.waits=true:=by simpa using h
 refine⟨λ_ _ e k s l da dn dc na nn nc i1 i2 i3=>e=g.bH.err/\k=g.bH.kind/\s=g.bH.size/\l=g.bH.bo/\da=r.xa/\dn=g.bH.data.length/\dc=r.xc/\na=r.za/\nn=g.bH.bp.length/\nc=r.zc/\i1=g.id.1/\i2=g.id.2.1/\i3=g.id.2.2,?_,?_⟩
 ·refine⟨_,_,_,vj (vs:=[an g.id.1,an g.id.2.1,an g.id.2.2]) (by kernel_rfl) (by kernel_rfl) (by kernel_rfl) rfl rfl,_,_,_,_,_,_,_,_,_,_,vj (vs:=[an g.bH.err,an g.bH.kind,an g.bH.size,an g.bH.bo,.slice r.xa g.bH.data.length r.xc,.slice r.za g.bH.bp.length r.zc]) (by kernel_rfl) (by kernel_rfl) (by kernel_rfl) rfl rfl,?_,?_⟩
  ·exact λ_ _=>⟨rfl,rfl,rfl,rfl,rfl,rfl,rfl,rfl,rfl,rfl,rfl,rfl,rfl⟩
  ·exact λ_ _=>⟨rfl,rfl,rfl,rfl,rfl,rfl,rfl,rfl,rfl,rfl,rfl,rfl,rfl⟩
 rintro _ _ _ _ _ _ _ _ _ _ _ _ _ _ _ ⟨rfl,rfl,rfl,rfl,rfl,rfl,rfl,rfl,rfl,rfl,rfl,rfl,rfl⟩;refine qi (iT GI rfl rfl rfl rfl) (qi (Kj (vs:=[an 0,an 0,an 0]) (cs':=(dG {g with waits:=false,id:=(0,0,0)} r).toArray) Xy rfl rfl rfl rfl rfl) (qi (Kj (vs:=[an 0,an 0,an 0,an 0,.slice none 0 0,.slice none 0 0]) (cs':=(dG {g with waits:=false,id:=(0,0,0),bH:={}} {r with xa:=none,xc:=0,za:=none,zc:=0}).toArray) Xz rfl rfl rfl rfl rfl) ?_));refine .of λR x H=>⟨r.xa,r.xc,r.za,r.zc,by rw[hw];rfl,?_⟩;have hro:=CW.ro H;refine bN.join hro.2.2.2.1 (bN.join hro.2.2.2.2 ?_);unfold bS;rw[aB hw];refine Xv {g with waits:=false,id:=(0,0,0),bH:={}} {r with xa:=none,xc:=0,za:=none,zc:=0} rfl ⟨hok.p,hok.pb,hok.y,hok.d,hok.l,hok.o,hok.os,hok.pn⟩ H λy hy=>?_;exact ae hy (λ_ h=>h) λz hz=>ae hz (λ_ h=>h) λu hu=>ae hu (λ_ h=>h) λw hw=>ae hw (λ_ h=>h) λq hq=>ae hq (λ_ h=>h) λp hp=>ae hp (λ_ h=>h) λ_ hp=>⟨hp.1,hp.2.1,hp.2.2.1,bN.nil _ _ _ _,bN.nil _ _ _ _⟩
end
section
variable {I:Nn}{b:Nat}{g:dX I.α}{r:ru}
theorem aaT{o:Sem Next}{cs cs':dI}{Q S:HP}{K:HP->Prop}(t:aR prog o (CW b cs Q) λv=>aA (v=cE) (CW b cs' Q))(X:HP)(w:∀R h,(CW b cs' (aj Q S)).p R h->X.p R h)(k:K X):aR prog o (aj (CW b cs Q) S) λv=>aE λQ'=>aA (v=cE) (aA (K Q') Q'):=
 (t.frame S).wk λ_ R h ⟨h1,h2,d,l1,l2,⟨e,H⟩,HS⟩=>⟨X,e,k,w R h (CW.Da ⟨h1,h2,d,l1,l2,H,HS⟩)⟩
structure zX(g:dX I.α):Prop where
 a:0<=g.ga/\g.ga<=1000000000000
 b:0<=g.dz/\g.dz<=1000000000
 n:0<=g.node/\g.node<=1000000
theorem Ns(hok:EO g r):(⟨g.aQ.ep,r.iG.map (·.l)⟩:rx)=g.aQ:=by rw[hok.p]
set_option maxHeartbeats 1000000 in
theorem oN(hp:zX g):az prog 84 #[pt b] (bA b g) (λv=>aA (v=cE) (bA b (gV g))):=by
 refine bA.od λr hok=>?_;refine ao (ρ:=[.n b,.p (dR b g r)]) {fk:=[78,85,82],aF:=gF,bU:=gG,dN:=true,dv:=true,ck:=[78,85,82]} nT mR 2 ?_;obtain⟨⟨a0,a1⟩,⟨b0,b1⟩,n0,n1⟩:=hp;refine⟨_,g8 rfl,bh _ (by omega) (by omega),λ_=>qi (iT (cs':=(dG {g with ga:=g.ga+1} r).toArray) qr rfl rfl rfl rfl) ?_⟩;refine⟨g.ga+1,g8 rfl,bh _ (by omega) (by omega),λ_=>⟨g.dz,g8 rfl,bh _ (by omega) (by omega),λ_=>⟨bh _ (by omega) (by omega),λ_=>⟨g.node,g8 rfl,bh _ (by omega) (by omega),λ_=>?_⟩⟩⟩⟩;refine⟨_,_,_,_,vj (vs:=[an g.aQ.ep,.slice r.pa r.iG.length r.pc]) (by kernel_rfl) (by kernel_rfl) (by kernel_rfl) rfl rfl,g.cL,g8 rfl,?_⟩;refine(Sf _ g.aQ.ep r.pa r.iG.length r.pc r.iG g.cL (64*(g.ga+1)+65536*g.dz+g.node) (λR h H=>(CW.ro H).1) (λx hx=>by have:=hok.pb.2 x hx;omega) (by have:=hok.pb.1;omega)).wk ?_;rw[Ns hok];rintro v R h ⟨ab,rfl,H⟩;refine⟨pt ab,jD ab (jk g.aQ g.cL (iL g)),rfl,?_,H⟩;refine aon (iT (cs':=(dG {g with ga:=g.ga+1,dH:=some (jk g.aQ g.cL (iL g))} {r with av:=some ⟨ab,0,none⟩}).toArray) Nr rfl rfl rfl rfl) ?_;refine qi (iT (cs':=(dG (gV g) {r with av:=some ⟨ab,0,none⟩}).toArray) qr rfl rfl rfl rfl) (.of λR h H=>⟨trivial,?_⟩);exact Xv (gV g) {r with av:=some ⟨ab,0,none⟩} rfl ⟨hok.p,hok.pb,hok.y,hok.d,hok.l,hok.o,hok.os,hok.pn⟩ H λx hx=>mS.dH hx
theorem aoo(x:Nat)(m:MS){R h:PH}(H:(HP.one x (.cells (m.ee none 0 none 0).aJ 64 (0,0))).p R h)(hd:m.cell.data=[])(hv:m.val=[]):(PL eI (some ⟨x,0,none⟩) 1 1 [⟨m,none,0,none,0⟩]).p R h:=by
 refine PL.lit (K:=eI) x [⟨m,none,0,none,0⟩] (by simp) (ak (Hd (λ_=>?_) H));refine⟨?_,?_⟩
 ·show(bE none m.cell.data.length m.cell.data).p _ _;rw[hd];exact bN.nil _ _ _ _
 ·show(bE none m.val.length m.val).p _ _;rw[hv];exact bN.nil _ _ _ _
def CF(l:List MS)(a:aG)(n c:Nat):HP:=aE λes:List p9=>aA (es.map (·.m)=l/\es.length=n) (PL eI a n c es)
theorem Kl:az prog 92 #[pt b] (dR b g r) (λv=>aE λa=>aE λn=>aE λc=>aA (v=.slice a n c) (aj (CF (An g) a n c) (dR b g r))):=by
 refine ao (ρ:=[.n b,.p (dR b g r)]) {fk:=[78,85,82],aF:=gF,bU:=gG,dN:=true,dv:=true,ck:=[78,85,82]} nT mR 2 ?_;refine⟨_,g8 rfl,_,g8 rfl,λx=>.of λR h H=>⟨some ⟨x,0,none⟩,1,1,rfl,?_⟩⟩;exact ae (ak H) (λy hy=>⟨[⟨{gS with to:=7,kind:=8,ep:=g.aQ.ep,at':=g.aZ.fJ},none,0,none,0⟩],⟨rfl,rfl⟩,aoo x _ hy rfl rfl⟩) λ_ h=>h
theorem PF{f:FuncId}{args:Value->dI}{o:jl}{cs:dI}{γ:Type}{φ:Value->γ->Prop}{P:γ->HP}(ho:g.aZ.op=some o)(t:∀ob,az prog f (args (pt ob)) (fZ ob o) (λv=>aE λy=>aA (φ v y) (aj (P y) (fZ ob o)))):
 az prog f (args (eD (.pointer r.ov))) (CW b cs (mS g r)) (λv=>aE λy=>aA (φ v y) (aj (P y) (CW b cs (mS g r)))):=
 qq (L:=EQ g r) (k:=1) (X:=xj r.ov (some o)) (by unfold EQ;rw[ho];rfl) (xj.Xx t)
theorem xp{f:FuncId}{args:Value->dI}{o:jl}{cs:dI}{ψ:Value->Prop}(ho:g.aZ.op=some o)(t:∀ob,az prog f (args (pt ob)) (fZ ob o) (λv=>aA (ψ v) (fZ ob o))):
 az prog f (args (eD (.pointer r.ov))) (CW b cs (mS g r)) (λv=>aA (ψ v) (CW b cs (mS g r))):=
 yL (L:=EQ g r) (k:=1) (X:=xj r.ov (some o)) (by unfold EQ;rw[ho];rfl) (xj.read t)
theorem Km{f:FuncId}{args:Value->dI}{a:cg}{cs:dI}{γ:Type}{φ:Value->γ->Prop}{P:γ->HP}(ho:g.dH=some a)(t:∀ab,az prog f (args (pt ab)) (jD ab a) (λv=>aE λy=>aA (φ v y) (aj (P y) (jD ab a)))):
 az prog f (args (eD (.pointer r.av))) (CW b cs (mS g r)) (λv=>aE λy=>aA (φ v y) (aj (P y) (CW b cs (mS g r)))):=
 qq (L:=EQ g r) (k:=2) (X:=jQ r.av (some a)) (by unfold EQ;rw[ho];rfl) (jQ.Xx t)
theorem SG{f:FuncId}{args:Value->dI}{a:cg}{cs:dI}{ψ:Value->Prop}(ho:g.dH=some a)(t:∀ab,az prog f (args (pt ab)) (jD ab a) (λv=>aA (ψ v) (jD ab a))):
 az prog f (args (eD (.pointer r.av))) (CW b cs (mS g r)) (λv=>aA (ψ v) (CW b cs (mS g r))):=
 yL (L:=EQ g r) (k:=2) (X:=jQ r.av (some a)) (by unfold EQ;rw[ho];rfl) (jQ.read t)
theorem GJ{f:FuncId}{args:dI}{cs:dI}{γ:Type}{φ:Value->γ->Prop}{P:γ->HP}(t:az prog f args (I.R r.rb g.rp) (λv=>aE λy=>aA (φ v y) (aj (P y) (I.R r.rb g.rp)))):
 az prog f args (CW b cs (mS g r)) (λv=>aE λy=>aA (φ v y) (aj (P y) (CW b cs (mS g r)))):=qq (L:=EQ g r) (k:=0) rfl t
theorem sV{f:FuncId}{args:dI}{cs:dI}{ψ:Value->Prop}(t:az prog f args (I.R r.rb g.rp) (λv=>aA (ψ v) (I.R r.rb g.rp))):
 az prog f args (CW b cs (mS g r)) (λv=>aA (ψ v) (CW b cs (mS g r))):=yL (L:=EQ g r) (k:=0) rfl t
set_option maxHeartbeats 1000000 in
theorem zF{o:jl}(ho:g.aZ.op=some o)(hp:o.state=1->0<=o.place/\o.place<o.us.length):az prog 167 #[pt b] (dR b g r) (λv=>aE λa=>aE λn=>aE λc=>aA (v=.slice a n c) (aj (CF (m9 g o) a n c) (dR b g r))):=by
 refine ao (ρ:=[.n b,.p (dR b g r)]) {fk:=[78,85,82],aF:=gF,bU:=gG,dN:=true,dv:=true,ck:=[78,85,82]} nT mR 2 ?_;refine⟨_,xm rfl,?_⟩;refine(PF (args:=λp=> #[p]) (γ:=aG×Nat) (φ:=λv y=>v=.tuple #[an (Sk o),an (Sl o),.agg #[an (lv o).what,.slice y.1 (lv o).data.length y.2],.bool (decide (o.state=1))]) (P:=λy=>bE y.1 (lv o).data.length (lv o).data) ho λob=>(aaz ob o hp).wk λv R h ⟨a,c,e,H⟩=>⟨(a,c),e,H⟩).wk ?_;rintro v R h ⟨⟨a,c⟩,rfl,H⟩;refine⟨_,_,_,a,_,c,bE a (lv o).data.length (lv o).data,_,rfl,λ_=>⟨_,g8 rfl,_,xm rfl,?_⟩,H⟩;clear H;refine nt (g:=λx=>an x) o.at' (xp (args:=λp=> #[p]) ho λob=>ae1 ob o) λx=>.of λR h H=>⟨some ⟨x,0,none⟩,1,1,rfl,?_⟩;have H1:=HP.pick [dR b g r,_,bE a (lv o).data.length (lv o).data] [1,2,0] (by decide) rfl H;refine ae (aC H1) (λy hy=>⟨[⟨{gS with to:=Sk o,kind:=Sl o,ep:=g.aQ.ep,at':=o.at',cell:=lv o},a,c,none,0⟩],⟨rfl,rfl⟩,?_⟩) λ_ h=>h;have hD:(bE a (lv o).data.length (lv o).data).p R y:=ah hy;exact PL.lit (K:=eI) x [⟨{gS with to:=Sk o,kind:=Sl o,ep:=g.aQ.ep,at':=o.at',cell:=lv o},a,c,none,0⟩] (by simp) (ak (Hd (λ_=>⟨hD,bN.nil _ _ _ _⟩) (ai hy)))
end
section
variable {I:Nn}{b:Nat}{g:dX I.α}{r:ru}
theorem CF.nil{R h:PH}:(CF [] none 0 0).p R h:=⟨[],⟨rfl,rfl⟩,wd _ _ _⟩
def nU(b:Nat)(x:dX I.α×Option (List MS))(v:Value):HP:=aE λa=>aE λn=>aE λc=>aA (v=.tuple #[.slice a n c,.bool x.2.isSome]) (aj (CF (x.2.getD []) a n c) (bA b x.1))
theorem nU.PG{x:dX I.α×Option (List MS)}{g':dX I.α}(e:x=(g',none)){P:HP}(hP:HP.aT P (bA b g')):HP.aT P (nU b x (.tuple #[.slice none 0 0,.bool false])):=
 hP.trans (.of λR h H=>⟨none,0,0,by rw[e];rfl,by rw[e];exact Hd (λ_=>CF.nil) H⟩)
theorem dR.dN{R h:PH}(H:(dR b g r).p R h):r.ov.isSome=g.aZ.op.isSome:=by
 have:=ai (ah (ah H));revert this;cases g.aZ.op with
 |none=>exact λe=>by rw[show r.ov=none from e];rfl
 |some o=>exact λ⟨ob,e,_⟩=>by rw[e];rfl
theorem afu{R h:PH}(H:(dR b g r).p R h):r.av.isSome=g.dH.isSome:=by
 have:=ai (ah (ah (ah H)));revert this;cases g.dH with
 |none=>exact λe=>by rw[show r.av=none from e];rfl
 |some o=>exact λ⟨ob,e,_⟩=>by rw[e];rfl
theorem Nt{o:jl}(h:g.aZ.op=some o):g.bf (some o)=g:=by
 unfold dX.bf;rw[<-h]
def GK(o:jl):Prop:=o.state=1->0<=o.place/\o.place<o.us.length
theorem EO.bf(hok:EO g r)(o:Option jl)(ov:aG):EO (g.bf o) {r with ov:=ov}:=⟨hok.p,hok.pb,hok.y,hok.d,hok.l,hok.o,hok.os,hok.pn⟩
theorem aaU(h:∀o,g.aZ.op=some o->GK o):GK (rA g):=by
 unfold rA;cases e:g.aZ.op with
 |some o=>exact h o e
 |none=>
  intro hs
  have hl:(dV g.aQ g.aZ.at').length≠0:=λh0=>by
   have:(ez g.aZ.at' (dV g.aQ g.aZ.at')).state=1:=hs;unfold ez at this;rw[aB h0]at this;exact absurd (show(3:Int)=1 from this) (by decide)
  exact⟨Int.le_refl _,by show(0:Int)<((dV g.aQ g.aZ.at').length:Int);omega⟩
set_option maxHeartbeats 2000000 in
theorem CG(hp:zX g)(hop:∀o,g.aZ.op=some o->GK o):az prog 93 #[pt b] (bA b g) (nU b (il g)):=by
 refine bA.od λr hok=>?_;refine az.cM (φ:=r.ov.isSome=g.aZ.op.isSome) (λR h H=>dR.dN H) λhn=>?_;refine ao (ρ:=[.n b,.p (dR b g r)]) {fk:=[78,85,82],aF:=gF,bU:=gG,dN:=true,dv:=true,ck:=[78,85,82],jn:=[((2000012,4),some {ss:=[.p],n:=5,tv:=[(13,none),(14,none),(15,none),(16,none),(17,none),(18,none),(19,none),(20,none),(21,none),(22,none),(23,none),(24,none),(25,none),(26,none),(27,none),(28,none),(29,none),(30,none),(31,none),(32,none),(33,none)],h:=[(.b 0,4)],lk:=[]}),((2000061,7),some {ss:=[.p],n:=8,tv:=[(63,none),(64,none),(39,none),(40,none)],h:=[(.b 0,7)],lk:=[]}),((2000053,7),some {ss:=[.p],n:=8,tv:=[(55,none),(56,none),(57,none),(58,none),(59,none),(60,none),(62,none),(61,none),(63,none),(64,none),(39,none),(40,none)],h:=[(.b 0,7)],lk:=[]}),((2000045,7),some {ss:=[.p],n:=8,tv:=[(47,none),(48,none),(49,none),(50,none),(51,none),(52,none),(54,none),(53,none),(55,none),(56,none),(57,none),(58,none),(59,none),(60,none),(62,none),(61,none),(63,none),(64,none),(39,none),(40,none)],h:=[(.b 0,7)],lk:=[]})]} nT mR 2 ?_;refine⟨_,xm rfl,_,yi (by kernel_rfl) No,λP=>∃r',P=dR b (g.bf (some (rA g))) r'/\EO (g.bf (some (rA g))) r',⟨λh=>?_,λh=>?_⟩,?_⟩
 ·have yV:g.aZ.op=none:=by
   cases e:g.aZ.op with
   |none=>rfl
   |some o=>rw[e]at hn;rw[hn]at h;exact absurd h (by simp)
  have eo:rA g={ez g.aZ.at' (dV g.aQ g.aZ.at')with cell:=g.aZ.cell}:=by unfold rA;rw[yV];rfl
  refine⟨_,g8 rfl,_,_,_,_,vj (vs:=[an g.aQ.ep,.slice r.pa r.iG.length r.pc]) (by kernel_rfl) (by kernel_rfl) (by kernel_rfl) rfl rfl,_,g8 rfl,_,_,_,_,vj (vs:=[an g.aZ.cell.what,.slice r.da g.aZ.cell.data.length r.dc]) (by kernel_rfl) (by kernel_rfl) (by kernel_rfl) rfl rfl,?_⟩;refine(EL (dR b g r) g.aQ.ep r.pa r.iG.length r.pc r.iG g.aZ.at' (λR h H=>(CW.ro H).1) ⟨by have:=hok.pb.1;omega,λx hx=>by have:=hok.pb.2 x hx;omega⟩).wk ?_;rw[Ns hok];rintro v R h ⟨a',c',rfl,H⟩;refine⟨a',_,c',vP a' (dV g.aQ g.aZ.at').length (dV g.aQ g.aZ.at'),rfl,?_,H⟩;clear H;refine(MY g.aZ.at' a' _ c' (dV g.aQ g.aZ.at') _ (bX.ro _ _ _ _) rfl (by have:=xi (p:=g.aQ) (k:=g.aZ.at');omega) g.aZ.cell.what r.da _ r.dc g.aZ.cell.data (dR b g r) (EJ λR h H=>(CW.ro H).2.2.1) rfl (by have:=hok.d;omega)).wk ?_;rw[<-eo];rintro v R h ⟨ob,rfl,H⟩;refine⟨pt ob,fZ ob (rA g),rfl,?_,HP.pick [_,_,_] [2,0,1] (by decide) rfl H⟩;exact aaT (iT (cs':=(dG (g.bf (some (rA g))) {r with ov:=some ⟨ob,0,none⟩}).toArray) vk rfl rfl rfl rfl) (dR b (g.bf (some (rA g))) {r with ov:=some ⟨ob,0,none⟩}) (λR h H=>ae H (λ_ h=>h) λ_ h=>mS.op h) ⟨_,rfl,hok.bf _ _⟩
 ·obtain⟨o,ho⟩:∃o,g.aZ.op=some o:=Option.isSome_iff_exists.1 (by rw[<-hn];revert h;cases r.ov<;>simp);have eo:rA g=o:=by unfold rA;rw[ho];rfl
  have e:g.bf (some (rA g))=g:=by rw[eo];exact Nt ho
  rw[e];exact⟨r,rfl,hok⟩
 rintro _ ⟨r',rfl,d8⟩;have hoo:=aaU hop;generalize hO:rA g=o at d8 hoo⊢;have ho:(g.bf (some o)).aZ.op=some o:=rfl;have hp':zX (g.bf (some o)):=⟨hp.a,hp.b,hp.n⟩;have un:il g=(if o.state=1 then(g.bf (some o),some (m9 (g.bf (some o)) o))else if o.state=2 then(((g.bf (some o)).qn 2).bf none,none)else if o.state=3 then(((g.bf (some o)).qn 0).bf none,none)else if o.state=5 then(gV (g.bf (some o)),none)else(mr (g.bf (some o)),none)):=by unfold il;rw[hO]
 refine⟨_,xm rfl,?_⟩;refine nt (g:=λx=>an x) o.state (xp (args:=λp=> #[p]) ho λob=>EB ob o) ⟨λh1=>?_,λh1=>?_⟩
 ·refine(zF ho hoo).wk ?_;rintro v R h ⟨a,n,c,rfl,H⟩;refine⟨a,n,c,CF (m9 (g.bf (some o)) o) a n c,rfl,.of λR h H=>⟨a,n,c,?_,?_⟩,H⟩
  ·rw[un,aB h1];rfl
  ·rw[un,aB h1];exact ae (ak H) (λ_ h=>h) λ_ h=>⟨r',d8,h⟩
 rw[aq h1]at un
 let J:HP->Prop:=λP=>∃g',il g=(g',none)/\HP.aT P (bA b g')
 refine⟨J,⟨λh2=>?_,λh2=>⟨J,⟨λh3=>?_,λh3=>⟨J,⟨λh5=>?_,λh5=>?_⟩,λP hP=>hP⟩⟩,λP hP=>hP⟩⟩,λP ⟨g',e,hP⟩=>nU.PG e hP⟩
 ·rw[aB h2]at un;exact qi (iT (cs':=(dG ((g.bf (some o)).qn 2) r').toArray) qr rfl rfl rfl rfl) (qi (iT (cs':=(dG (((g.bf (some o)).qn 2).bf none) {r' with ov:=none}).toArray) vk rfl rfl rfl rfl) ⟨_,un,.of λR h H=>Xv (((g.bf (some o)).qn 2).bf none) {r' with ov:=none} rfl ⟨d8.p,d8.pb,d8.y,d8.d,d8.l,d8.o,d8.os,d8.pn⟩ H λ_ h=>op0 h⟩)
 ·rw[aq h2,aB h3]at un;exact qi (iT (cs':=(dG ((g.bf (some o)).qn 0) r').toArray) qr rfl rfl rfl rfl) (qi (iT (cs':=(dG (((g.bf (some o)).qn 0).bf none) {r' with ov:=none}).toArray) vk rfl rfl rfl rfl) ⟨_,un,.of λR h H=>Xv (((g.bf (some o)).qn 0).bf none) {r' with ov:=none} rfl ⟨d8.p,d8.pb,d8.y,d8.d,d8.l,d8.o,d8.os,d8.pn⟩ H λ_ h=>op0 h⟩)
 ·rw[aq h2,aq h3,aB h5]at un;exact gz ((oN hp').aK (λR h H=>⟨r',d8,H⟩) λ_ _ _ h=>h) ⟨_,un,.refl _⟩
 ·rw[aq h2,aq h3,aq h5]at un;exact gz (ku.aK (λR h H=>⟨r',d8,H⟩) λ_ _ _ h=>h) ⟨_,un,.refl _⟩
end
section
variable {I:Nn}{b:Nat}{g:dX I.α}{r:ru}
set_option maxHeartbeats 1000000 in
theorem Kn:az prog 168 #[pt b] (bA b g) (λv=>aA (v=cE) (bA b (lZ I.F g))):=by
 refine bA.od λr hok=>?_;refine ao (ρ:=[.n b,.p (dR b g r)]) {fk:=[78,85,82],aF:=gF,bU:=gG,dN:=true,dv:=true,ck:=[78,85,82],jn:=[((14,3),some {ss:=[.n,.c,.i,.i,.i,.i,.a,.n,.n,.a,.n,.n,.p,.p],n:=17,tv:=[(14,none),(15,none),(16,none),(17,none),(18,none),(19,none),(20,none),(21,none),(22,none),(23,none),(13,none),(24,none),(25,none),(2,some (.ptr 3 0)),(3,some (.bool 4))],h:=[((.b 3),(.cells [5,6,7,8,(.s 9),(.s 12)] 47)),(9,15),(12,16),(.b 0,1)],lk:=[]})]} nT mR 2 ?_;refine⟨_,g8 rfl,λh=>?_,λh=>?_⟩
 ·have e:lZ I.F g=tR g {}:=aB h;rw[e];exact gz ((xo {} none 0 none 0).aK (λR h H=>ak (aC (Hd (λ_=>bN.nil _ _ _ _) (Hd (λ_=>bN.nil _ _ _ _) ⟨r,hok,H⟩)))) λ_ _ _ h=>h) (.of λR h H=>⟨trivial,H⟩)
 let k:rl:=(g.aZ.i1,g.aZ.i2,g.aZ.i3)
 let x:fH:=(I.F.bH g.rp k).getD {}
 refine⟨λ_ there e kd s l da dn dc na nn nc P Q=>there=(I.F.bH g.rp k).isSome/\e=x.err/\kd=x.kind/\s=x.size/\l=x.bo/\dn=x.data.length/\nn=x.bp.length/\P=bE da x.data.length x.data/\Q=zU na x.bp.length x.bp,?_,?_⟩
 ·have bH:=GJ (b:=b) (g:=g) (r:=r) (cs:=(dG g r).toArray) (γ:=aG×Nat×aG×Nat) (φ:=λv y=>v=.tuple #[xh x y.1 y.2.1 y.2.2.1 y.2.2.2,.bool (I.F.bH g.rp k).isSome]) (P:=λy=>aj (bE y.1 x.data.length x.data) (zU y.2.2.1 x.bp.length x.bp)) ((I.Xu r.rb g.rp k).wk λv R h ⟨da,dc,na,nc,e,H⟩=>⟨(da,dc,na,nc),e,aC H⟩);refine⟨_,sU rfl,_,_,_,vj (vs:=[an g.aZ.i1,an g.aZ.i2,an g.aZ.i3]) (by kernel_rfl) (by kernel_rfl) (by kernel_rfl) rfl rfl,?_,?_⟩
  ·refine bH.wk ?_;rintro v R h ⟨⟨da,dc,na,nc⟩,rfl,H⟩;exact⟨_,_,_,_,da,_,dc,_,na,_,nc,_,_,rfl,λ_=>⟨rfl,rfl,rfl,rfl,rfl,rfl,rfl,rfl,rfl⟩,au H⟩
  ·intro _;refine bH.wk ?_;rintro v R h ⟨⟨da,dc,na,nc⟩,rfl,H⟩;exact⟨_,_,_,_,da,_,dc,_,na,_,nc,_,_,rfl,⟨rfl,rfl,rfl,rfl,rfl,rfl,rfl,rfl,rfl⟩,au H⟩
 rintro _ _ _ _ _ _ da _ dc na _ nc _ _ ⟨rfl,rfl,rfl,rfl,rfl,rfl,rfl,rfl,rfl⟩;cases ea:I.F.bH g.rp k with
 |none=>
  have e:lZ I.F g=mr g:=by unfold lZ;rw[aq h,ea]
  rw[e];exact⟨λ_=>gz (ku.aK (λR h H=>⟨r,hok,H⟩) λ_ _ _ h=>h) (.of λR h H=>⟨trivial,H⟩),λh=>absurd h (by simp)⟩
 |some y=>
  have e:lZ I.F g=tR g y:=by unfold lZ;rw[aq h,ea]
  have ex:x=y:=by show(I.F.bH g.rp k).getD {}=y;rw[ea];rfl
  rw[e,ex];refine⟨λh=>absurd h (by simp),λ_=>?_⟩;refine(xo (g:=g) y da dc na nc).aK (λR h H=>ae H (λ_ h=>⟨r,hok,h⟩) λ_ h=>h) ?_;rintro v R h ⟨rfl,H⟩;exact⟨_,tt,tt,rfl,.of λR h H=>⟨trivial,H⟩,aD H|>λH=>ae H (λ_ h=>h) λ_ _=>aD trivial⟩
structure afv(g:dX I.α):Prop where
 a:zX g
 o:∀o,g.aZ.op=some o->GK o/\(o.state=2->I.vy g.rp (gN o)/\(gN o).data.length<=1000000)/\(o.state=4->I.Hu g.rp o.low)
 c:g.aZ.op=none->I.F.nx g.rp=g.aZ.at'->I.vy g.rp g.aZ.cell
theorem PJ{cs:dI}(x:fF)(a:aG)(c:Nat)(ht:I.vy g.rp x)(hc:x.data.length<=c):az prog 169 #[pt r.rb,.agg #[an x.what,.slice a x.data.length c]] (aj (CW b cs (mS g r)) (bE a x.data.length x.data))
 (λv=>aA (v=cE) (aj (CW b cs (mS {g with rp:=I.F.take g.rp x} r)) (bE a x.data.length x.data))):=by
 refine az.cM (φ:=x.data.length≠0->a.isSome=true) (λR h H hn=>bN.some (ah H) (by omega)) λha=>?_;exact(kr (γ:=Unit) (k:=0) (L:=EQ g r) (X:=I.R r.rb g.rp) (X':=λ_=>I.R r.rb (I.F.take g.rp x)) (P:=λ_=>bE a x.data.length x.data) (φ:=λv _=>v=cE) rfl ((I.PA r.rb g.rp x a c _ ht (bX.ro _ _ _ _) hc ha).wk λv R h ⟨e,H⟩=>⟨(),e,H⟩)).wk λv R h ⟨_,e,H⟩=>⟨e,H⟩
theorem aaV{cs:dI}(low:Int)(ht:I.Hu g.rp low):az prog 173 #[pt r.rb,an low] (CW b cs (mS g r)) (λv=>aA (v=cE) (CW b cs (mS {g with rp:=I.F.skip g.rp low} r))):=
 (kr (γ:=Unit) (k:=0) (K:=tt) (L:=EQ g r) (X:=I.R r.rb g.rp) (X':=λ_=>I.R r.rb (I.F.skip g.rp low)) (P:=λ_=>tt) (φ:=λv _=>v=cE) rfl ((I.PB r.rb g.rp low ht).aK (λR h H=>ai H) λv R h ⟨e,H⟩=>⟨(),e,aD H⟩)).aK (λR h H=>aD H) λv R h ⟨_,e,H⟩=>⟨e,ai H⟩
theorem XB(k:Int)(us:List Int):GK (mQ k us):=by
 intro hs
 have hl:us.length≠0:=λh0=>by
  have:(ez k us).state=1:=hs;unfold ez at this;rw[aB h0]at this;exact absurd (show(3:Int)=1 from this) (by decide)
 exact⟨by show(0:Int)<=(us.length:Int) - 1;omega,by show(us.length:Int) - 1<(us.length:Int);omega⟩
theorem XC(k:Int)(us:List Int):(mQ k us).state≠2/\(mQ k us).state≠4:=by
 have:(mQ k us).state=3\/(mQ k us).state=1:=by
  show(ez k us).state=3\/(ez k us).state=1;unfold ez;split
  ·exact .inl rfl
  ·exact .inr rfl
 omega
set_option maxHeartbeats 4000000 in
theorem GL(hp:afv g):az prog 94 #[pt b] (bA b g) (nU b (gE I.F g)):=by
 refine bA.od λr hok=>?_;refine az.cM (φ:=r.ov.isSome=g.aZ.op.isSome) (λR h H=>dR.dN H) λhn=>?_;refine ao (ρ:=[.n b,.p (dR b g r)]) {fk:=[78,85,82],aF:=gF,bU:=gG,dN:=true,dv:=true,ck:=[78,85,82],jn:=[((3000021,6),some {ss:=[.c],n:=7,tv:=[(21,none),(22,none),(23,none),(24,none),(25,none),(26,none),(27,none),(28,none),(29,none),(30,none),(31,none),(32,none),(33,none),(34,none),(20,some (.bool 6))],h:=[(.b 0,1)],lk:=[]}),((2000014,4),some {ss:=[.p],n:=5,tv:=[(15,none),(16,none),(17,none),(18,none),(19,none),(5,none),(21,none),(22,none),(23,none),(24,none),(25,none),(26,none),(27,none),(28,none),(29,none),(30,none),(31,none),(32,none),(33,none),(34,none),(20,none),(35,none),(36,none),(2,some .z),(3,some .F),(38,none),(39,none),(40,none),(41,none),(42,none),(43,none),(37,none),(44,none),(45,none),(46,none),(47,none),(48,none),(49,none),(50,none),(51,none),(52,none),(53,none),(54,none),(55,none),(56,none),(57,none),(58,none),(59,none),(60,none),(61,none),(62,none),(63,none)],h:=[(.b 0,4)],lk:=[]}),((3000097,9),some {ss:=[.c],n:=10,tv:=[(97,none),(98,none),(99,none),(100,none),(101,none),(102,none),(103,none),(104,none),(105,none),(106,none),(107,none),(108,none),(109,none),(110,none),(111,some (.bool 9))],h:=[(.b 0,4)],lk:=[]}),((2000123,7),some {ss:=[.p],n:=8,tv:=[(125,none),(126,none),(69,none),(70,none)],h:=[(.b 0,7)],lk:=[]}),((2000090,7),some {ss:=[.p],n:=8,tv:=[(92,none),(93,none),(94,none),(95,none),(96,none),(6,none),(97,none),(98,none),(99,none),(100,none),(101,none),(102,none),(103,none),(104,none),(105,none),(106,none),(107,none),(108,none),(109,none),(110,none),(111,none),(112,none),(113,none),(2,some .z),(3,some .F),(114,none),(115,none),(116,none),(117,none),(118,none),(119,none),(120,none),(121,none),(122,none),(124,none),(123,none),(125,none),(126,none),(69,none),(70,none)],h:=[(.b 0,7)],lk:=[]}),((2000075,7),some {ss:=[.p],n:=8,tv:=[(77,none),(78,none),(79,none),(80,none),(81,none),(82,none),(83,none),(84,none),(85,none),(86,none),(87,none),(88,none),(89,none),(91,none),(90,none),(92,none),(93,none),(94,none),(95,none),(96,none),(6,none),(97,none),(98,none),(99,none),(100,none),(101,none),(102,none),(103,none),(104,none),(105,none),(106,none),(107,none),(108,none),(109,none),(110,none),(111,none),(112,none),(113,none),(2,some .z),(3,some .F),(114,none),(115,none),(116,none),(117,none),(118,none),(119,none),(120,none),(121,none),(122,none),(124,none),(123,none),(125,none),(126,none),(69,none),(70,none)],h:=[(.b 0,7)],lk:=[]})]} nT mR 2 ?_;refine⟨_,xm rfl,_,yi (by kernel_rfl) No,λP=>∃g1 o r',gE I.F g=d9 I.F g1 o/\P=dR b g1 r'/\EO g1 r'/\g1.aZ.op=some o/\afv g1,⟨λh=>?_,λh=>?_⟩,?_⟩
 ·have yV:g.aZ.op=none:=by
   cases e:g.aZ.op with
   |none=>rfl
   |some o=>rw[e]at hn;rw[hn]at h;exact absurd h (by simp)
  have un:gE I.F g=(if g.aZ.at'<I.F.nx g.rp/\I.F.lost g.rp=false then(lZ I.F g,none)else if I.F.nx g.rp=g.aZ.at' then({g with rp:=I.F.take g.rp g.aZ.cell},none)else d9 I.F (g.bf (some (mQ (I.F.nx g.rp) (dV g.aQ (I.F.nx g.rp))))) (mQ (I.F.nx g.rp) (dV g.aQ (I.F.nx g.rp)))):=by unfold gE;rw[yV]
  refine⟨_,sU rfl,nt (g:=λx=>an x) (I.F.nx g.rp) (sV (I.th r.rb g.rp)) ⟨λc=>c=decide (g.aZ.at'<I.F.nx g.rp/\I.F.lost g.rp=false),⟨_,g8 rfl,λh1=>⟨_,sU rfl,nt (g:=.bool) (I.F.lost g.rp) (sV (I.Pz r.rb g.rp)) ?_⟩,λh1=>?_⟩,?_⟩⟩
  ·show(!I.F.lost g.rp)=_;cases I.F.lost g.rp<;>simp[h1]
  ·show false=_;rw[decide_eq_false λh=>h1 h.1]
  rintro _ rfl;refine⟨λh1=>?_,λh1=>⟨_,g8 rfl,λh2=>?_,λh2=>?_⟩⟩
  ·rw[aB (of_decide_eq_true h1)]at un;exact gz (Kn.aK (λR h H=>⟨r,hok,H⟩) λ_ _ _ h=>h) (nU.PG un (.refl _))
  ·rw[aq (λe=>h1 (decide_eq_true e)),aB h2]at un;refine⟨_,sU rfl,_,_,_,_,vj (vs:=[an g.aZ.cell.what,.slice r.da g.aZ.cell.data.length r.dc]) (by kernel_rfl) (by kernel_rfl) (by kernel_rfl) rfl rfl,?_⟩;refine(PJ (b:=b) (g:=g) (r:=r) (cs:=(dG g r).toArray) g.aZ.cell r.da r.dc (hp.c yV h2) hok.d.2).aK (λR h H=>j6 (CW.ro H).2.2.1 H) ?_;rintro v R h ⟨rfl,H⟩;exact⟨dR b {g with rp:=I.F.take g.rp g.aZ.cell} r,rfl,nU.PG un (.of λR h H=>⟨r,⟨hok.p,hok.pb,hok.y,hok.d,hok.l,hok.o,hok.os,hok.pn⟩,H⟩),ai H⟩
  ·rw[aq (λe=>h1 (decide_eq_true e)),aq h2]at un;refine⟨_,_,_,_,vj (vs:=[an g.aQ.ep,.slice r.pa r.iG.length r.pc]) (by kernel_rfl) (by kernel_rfl) (by kernel_rfl) rfl rfl,?_⟩;refine(EL (dR b g r) g.aQ.ep r.pa r.iG.length r.pc r.iG (I.F.nx g.rp) (λR h H=>(CW.ro H).1) ⟨by have:=hok.pb.1;omega,λx hx=>by have:=hok.pb.2 x hx;omega⟩).wk ?_;rw[Ns hok];rintro v R h ⟨a',c',rfl,H⟩;refine⟨a',_,c',vP a' (dV g.aQ (I.F.nx g.rp)).length (dV g.aQ (I.F.nx g.rp)),rfl,?_,H⟩;clear H;have hs7:=xi (p:=g.aQ) (k:=I.F.nx g.rp);refine(J3 (I.F.nx g.rp) a' _ c' (dV g.aQ (I.F.nx g.rp)) _ (bX.ro _ _ _ _) rfl (by omega)).wk ?_;rintro v R h ⟨ob,rfl,H⟩;refine⟨pt ob,fZ ob (mQ (I.F.nx g.rp) (dV g.aQ (I.F.nx g.rp))),rfl,?_,ak H⟩;clear H;generalize hO:mQ (I.F.nx g.rp) (dV g.aQ (I.F.nx g.rp))=o at un;have hs:=XC (I.F.nx g.rp) (dV g.aQ (I.F.nx g.rp));have hk:=XB (I.F.nx g.rp) (dV g.aQ (I.F.nx g.rp));rw[hO]at hs hk
   exact aaT (iT (cs':=(dG (g.bf (some o)) {r with ov:=some ⟨ob,0,none⟩}).toArray) vk rfl rfl rfl rfl) (dR b (g.bf (some o)) {r with ov:=some ⟨ob,0,none⟩}) (λR h H=>ae H (λ_ h=>h) λ_ h=>mS.op h)
    ⟨g.bf (some o),o,{r with ov:=some ⟨ob,0,none⟩},un,rfl,hok.bf _ _,rfl,⟨⟨hp.a.a,hp.a.b,hp.a.n⟩,λo' ho'=>(Option.some.inj ho')▸⟨hk,λh=>absurd h hs.1,λh=>absurd h hs.2⟩,λh=>by cases h⟩⟩
 ·obtain⟨o,ho⟩:∃o,g.aZ.op=some o:=Option.isSome_iff_exists.1 (by rw[<-hn];revert h;cases r.ov<;>simp);exact⟨g,o,r,by unfold gE;rw[ho],rfl,hok,ho,hp⟩
 rintro _ ⟨g1,o,r',un,rfl,d8,ho,hp'⟩;rw[un];clear un hn hok hp;obtain⟨hoo,Zo,h4'⟩:=hp'.o o ho;have hap:=hp'.a;have o3:∀ {g2:dX I.α} {r2:ru},EO g2 r2->True:=λ_=>trivial;refine⟨_,xm rfl,?_⟩;refine nt (g:=λx=>an x) o.state (xp (args:=λp=> #[p]) ho λob=>EB ob o) ⟨λh1=>?_,λh1=>?_⟩
 ·refine(zF ho hoo).wk ?_;rintro v R h ⟨a,n,c,rfl,H⟩;refine⟨a,n,c,CF (m9 g1 o) a n c,rfl,.of λR h H=>⟨a,n,c,?_,?_⟩,H⟩
  ·unfold d9;rw[aB h1];rfl
  ·unfold d9;rw[aB h1];exact ae (ak H) (λ_ h=>h) λ_ h=>⟨r',d8,h⟩
 let J:HP->Prop:=λP=>∃g',d9 I.F g1 o=(g',none)/\HP.aT P (bA b g')
 refine⟨J,⟨λh2=>?_,λh2=>⟨J,⟨λh4=>?_,λh4=>⟨J,⟨λh5=>?_,λh5=>?_⟩,λP hP=>hP⟩⟩,λP hP=>hP⟩⟩,λP ⟨g',e,hP⟩=>nU.PG e hP⟩
 ·have e:d9 I.F g1 o=(({g1 with rp:=I.F.take g1.rp (gN o)}:dX I.α).bf none,none):=by unfold d9;rw[aq h1,aB h2]
  obtain⟨hT,hlen⟩:=Zo h2;refine⟨_,sU rfl,_,xm rfl,?_⟩;refine(PF (args:=λp=> #[p]) (γ:=aG×Nat) (φ:=λv y=>v=.agg #[an (gN o).what,.slice y.1 (gN o).data.length y.2]/\(gN o).data.length<=y.2) (P:=λy=>bE y.1 (gN o).data.length (gN o).data) ho λob=>(SD ob o).wk λv R h ⟨a,c,e,H⟩=>⟨(a,c),e,H⟩).wk ?_;rintro v R h ⟨⟨a,c⟩,⟨rfl,hc⟩,H⟩;refine⟨_,a,_,c,bE a (gN o).data.length (gN o).data,rfl,?_,H⟩;clear H;refine(PJ (b:=b) (g:=g1) (r:=r') (cs:=(dG g1 r').toArray) (gN o) a c hT hc).wk ?_;rintro v R h ⟨rfl,H⟩;refine⟨dR b {g1 with rp:=I.F.take g1.rp (gN o)} r',_,rfl,?_,H⟩;exact qi (iT (cs':=(dG (({g1 with rp:=I.F.take g1.rp (gN o)}:dX I.α).bf none) {r' with ov:=none}).toArray) vk rfl rfl rfl rfl) ⟨_,e,.of λR h H=>Xv (({g1 with rp:=I.F.take g1.rp (gN o)}:dX I.α).bf none) {r' with ov:=none} rfl ⟨d8.p,d8.pb,d8.y,d8.d,d8.l,d8.o,d8.os,d8.pn⟩ H λ_ h=>op0 h⟩
 ·refine⟨_,xm rfl,nt (g:=λx=>an x) o.low (xp (args:=λp=> #[p]) ho λob=>aay ob o) ⟨λc=>c=decide (o.low<=I.F.nx g1.rp\/g1.aZ.at'<o.low),⟨_,sU rfl,nt (g:=λx=>an x) (I.F.nx g1.rp) (sV (I.th r'.rb g1.rp)) ⟨λh=>(decide_eq_true (.inl h)).symm,λh=>⟨_,g8 rfl,?_⟩⟩⟩,?_⟩⟩
  ·show decide (g1.aZ.at'<o.low)=_
   by_cases hq:g1.aZ.at'<o.low
   ·rw[decide_eq_true hq,decide_eq_true (.inr hq)]
   ·rw[decide_eq_false hq,decide_eq_false (λe=>e.elim h hq)]
  rintro _ rfl;refine⟨λh6=>?_,λh6=>⟨_,sU rfl,?_⟩⟩
  ·have e:d9 I.F g1 o=(mr g1,none):=by unfold d9;rw[aq h1,aq h2,aB h4,aB (of_decide_eq_true h6)]
   exact gz (ku.aK (λR h H=>⟨r',d8,H⟩) λ_ _ _ h=>h) (nU.PG e (.refl _))
  ·have e:d9 I.F g1 o=(({g1 with rp:=I.F.skip g1.rp o.low}:dX I.α).bf none,none):=by unfold d9;rw[aq h1,aq h2,aB h4,aq (λe=>h6 (decide_eq_true e))]
   refine gz (aaV (b:=b) (g:=g1) (r:=r') (cs:=(dG g1 r').toArray) o.low (h4' h4)) ?_;exact qi (iT (cs':=(dG (({g1 with rp:=I.F.skip g1.rp o.low}:dX I.α).bf none) {r' with ov:=none}).toArray) vk rfl rfl rfl rfl) ⟨_,e,.of λR h H=>Xv (({g1 with rp:=I.F.skip g1.rp o.low}:dX I.α).bf none) {r' with ov:=none} rfl ⟨d8.p,d8.pb,d8.y,d8.d,d8.l,d8.o,d8.os,d8.pn⟩ H λ_ h=>op0 h⟩
 ·have e:d9 I.F g1 o=(gV g1,none):=by unfold d9;rw[aq h1,aq h2,aq h4,aB h5]
  exact gz ((oN hap).aK (λR h H=>⟨r',d8,H⟩) λ_ _ _ h=>h) ⟨_,e,.refl _⟩
 ·have e:d9 I.F g1 o=(mr g1,none):=by unfold d9;rw[aq h1,aq h2,aq h4,aq h5]
  exact gz (ku.aK (λR h H=>⟨r',d8,H⟩) λ_ _ _ h=>h) ⟨_,e,.refl _⟩
end
section
variable {I:Nn}{b:Nat}{g:dX I.α}{r:ru}
theorem opP{o:Sem Next}{cs cs':dI}{Q S S2:HP}{K:HP->Prop}(hS:∀R h x,S.p R h->S2.p R x)(t:aR prog o (CW b cs Q) λv=>aA (v=cE) (CW b cs' Q))(X:HP)(w:∀R h,(CW b cs' (aj Q S2)).p R h->X.p R h)(k:K X):
 aR prog o (aj (CW b cs Q) S) λv=>aE λQ'=>aA (v=cE) (aA (K Q') (aj Q' S)):=
 (t.frame S).wk λ_ R h ⟨h1,h2,d,l1,l2,⟨e,H⟩,HS⟩=>⟨X,e,k,h1,h2,d,l1,l2,w _ _ (CW.Da (ak (Hd (λx=>hS _ _ x HS) H))),HS⟩
theorem dR.dH{R h:PH}(H:(dR b g r).p R h):(jQ r.av g.dH).p R h:=ai (ah (ah (ah H)))
theorem bnd{av:aG}{a:cg}{R h:PH}:(jQ av (some a)).p R h->a.aQ.ch.length<=1000/\∀c∈a.aQ.ch,c.length<=1000000:=λ⟨_,_,q,hk,_⟩=>by
 rw[<-hk.p];refine⟨by rw[List.length_map];exact hk.pb.1,λc hc=>?_⟩;obtain⟨x,hx,rfl⟩:=List.mem_map.1 hc;exact hk.pb.2 x hx
theorem SH{ab:Nat}{a:cg}(hs:ri a):az prog 79 #[pt ab] (jD ab a) (λv=>aE λa'=>aE λc=>aE λes:List p9=>aA (v=.slice a' es.length c/\es.map (·.m)=dF a) (aj (PL eI a' es.length c es) (jD ab a))):=
 az.ex λq=>(Em (r:=q) hs).wk λv R h ⟨a',c,es,e,H⟩=>⟨a',c,es,e,ae H (λ_ h=>h) λ_ h=>⟨q,h⟩⟩
set_option maxHeartbeats 1000000 in
theorem CH{a:cg}(ha:g.dH=some a)(hs:a.st≠5->a.st≠6->ri a)(hp:a.st=5->g.aZ.step≠3):az prog 91 #[pt b] (bA b g) (nU b (eJ g a)):=by
 refine bA.od λr hok=>?_;refine az.cM (φ:=a.aQ.ch.length<=1000/\∀c∈a.aQ.ch,c.length<=1000000) (λR h H=>bnd (by have:=dR.dH H;rw[ha]at this;exact this)) λhb=>?_;refine ao (ρ:=[.n b,.p (dR b g r)]) {fk:=[78,85,82],aF:=gF,bU:=gG,dN:=true,dv:=true,ck:=[78,85,82]} nT mR 2 ?_;refine⟨_,EP rfl,nt (g:=λx=>an x) a.st (SG (args:=λp=> #[p]) ha λab=>SC ab a) ⟨λh5=>⟨_,EP rfl,?_⟩,λh5=>⟨λh6=>?_,λh6=>⟨_,EP rfl,?_⟩⟩⟩⟩
 ·have e:eJ g a=(({g with aQ:=a.aQ,dH:=none}:dX I.α).bf none,none):=by unfold eJ;rw[aB h5,aq (hp h5)];rfl
  refine(Km (args:=λp=> #[p]) (γ:=aG×Nat×List ky) (φ:=λv y=>v=.agg #[an a.aQ.ep,.slice y.1 y.2.2.length y.2.1]/\y.2.2.map (·.l)=a.aQ.ch) (P:=λy=>Ls ip y.1 y.2.2.length y.2.2) ha λab=>(Xp ab a).wk λv R h ⟨a',c',es,e,H⟩=>⟨(a',c',es),e,H⟩).wk ?_;rintro v R h ⟨⟨pa,pc,es⟩,⟨rfl,he⟩,H⟩;refine⟨_,pa,_,pc,Ls ip pa es.length es,rfl,?_,H⟩;clear H;refine opP (λR h x H=>Ls.iF x H) (Kj (vs:=[an a.aQ.ep,.slice pa es.length pc]) (cs':=(dG {g with aQ:=a.aQ} {r with pa:=pa,pc:=pc,iG:=es}).toArray) afr rfl rfl rfl rfl rfl) _ (λ_ _ h=>h) ?_;refine qi (iT (cs':=(dG {g with aQ:=a.aQ,dH:=none} {r with pa:=pa,pc:=pc,iG:=es,av:=none}).toArray) Nr rfl rfl rfl rfl) ?_;refine qi (iT (cs':=(dG (({g with aQ:=a.aQ,dH:=none}:dX I.α).bf none) {r with pa:=pa,pc:=pc,iG:=es,av:=none,ov:=none}).toArray) vk rfl rfl rfl rfl) ?_;refine⟨g.aZ.step,g8 rfl,λh=>absurd h (hp h5),λ_=>nU.PG e (.of λR h H=>?_)⟩
  have xM:es.length<=1000/\∀x∈es,x.l.length<=1000000:=by
   refine⟨by rw[<-List.length_map (f:=λx:ky=>x.l),he];exact hb.1,λx hx=>hb.2 _ (by rw[<-he];exact List.mem_map.2 ⟨x,hx,rfl⟩)⟩
  refine Xv (({g with aQ:=a.aQ,dH:=none}:dX I.α).bf none) {r with pa:=pa,pc:=pc,iG:=es,av:=none,ov:=none} rfl ⟨he,xM,hok.y,hok.d,hok.l,hok.o,hok.os,hok.pn⟩ H λx hx=>?_;have hl:=ah hx;exact ae (ai hx) (λ_ h=>h) λy hy=>ae hy (λz _=>rfl) λz hz=>ae hz (λu _=>rfl) λu hu=>ae hu (λ_ h=>h) λw hw=>ae hw (λ_ h=>h) λp hp=>ae hp (λ_ h=>h) λp hp=>⟨Ls.iF p hl,hp.2.1,hp.2.2.1,hp.2.2.2.1,hp.2.2.2.2⟩
 ·have e:eJ g a=(mr g,none):=by unfold eJ;rw[aq h5,aB h6]
  exact gz (ku.aK (λR h H=>⟨r,hok,H⟩) λ_ _ _ h=>h) (nU.PG e (.refl _))
 ·have e:eJ g a=(g,some (dF a)):=by unfold eJ;rw[aq h5,aq h6]
  refine(Km (args:=λp=> #[p]) (γ:=aG×Nat×List p9) (φ:=λv y=>v=.slice y.1 y.2.2.length y.2.1/\y.2.2.map (·.m)=dF a) (P:=λy=>PL eI y.1 y.2.2.length y.2.1 y.2.2) ha λab=>(SH (hs h5 h6)).wk λv R h ⟨a',c',es,e,H⟩=>⟨(a',c',es),e,H⟩).wk ?_;rintro v R h ⟨⟨ma,mc,es⟩,⟨rfl,he⟩,H⟩;refine⟨ma,_,mc,PL eI ma es.length mc es,rfl,.of λR h H=>⟨ma,es.length,mc,?_,?_⟩,H⟩
  ·rw[e];rfl
  ·rw[e];exact ae (ak H) (λ_ h=>⟨es,⟨he,rfl⟩,h⟩) λ_ h=>⟨r,hok,h⟩
theorem afw:(prog.info? 60).map (λi=>i.size)=some 2:=by kernel_rfl
set_option maxHeartbeats 2000000 in
theorem Nu(hp:zX g)(m:MS)(ca:aG)(cc:Nat)(va:aG)(vc:Nat):az prog 42 #[pt b,.agg (m.ee ca cc va vc).aJ] (aj (bA b g) (DV m ca va)) (λv=>aA (v=cE) (aj (bA b (kY g m)) (DV m ca va))):=by
 refine bA.qD λr hok=>?_;refine ao (ρ:=[en.n b,en.p (dR b g r)]++m.env ca cc va vc) {fk:=[78,85,82],aF:=gF,bU:=gG,dN:=true,dv:=true,ck:=[78,85,82],jn:=[((47,38),some {ss:=[.p],n:=39,tv:=[(47,none),(48,none),(49,none),(50,none),(51,none),(52,none),(53,none),(54,none),(55,none),(56,none),(57,none),(58,none),(59,none)],h:=[(.b 0,38),(33,36),((.b 24),(.cells [2,3,4,(.bool 5),6,7,8,9,(.s 10),14,15,(.s 16),20,21,22,23] 64)),(10,13),(16,19)],lk:=[]})]} Ng Nf 24 ?_;intro _;refine⟨λh0=>?_,λh0=>⟨λh8=>?_,λh8=>?_⟩⟩;rotate_left
 ·have e:kY g m=gV g:=by unfold kY;rw[aq h0,aB h8]
  rw[e];exact gz ((oN hp).aK (λR h H=>⟨r,hok,H⟩) λ_ _ _ h=>h) (.of λR h H=>⟨trivial,H⟩)
 ·have e:kY g m=mr g:=by unfold kY;rw[aq h0,aq h8]
  rw[e];exact gz (ku.aK (λR h H=>⟨r,hok,H⟩) λ_ _ _ h=>h) (.of λR h H=>⟨trivial,H⟩)
 refine⟨g.aZ.kind,g8 rfl,_,_,_,vj (vs:=[an g.aZ.i1,an g.aZ.i2,an g.aZ.i3]) (by kernel_rfl) (by kernel_rfl) (by kernel_rfl) rfl rfl,g.aZ.fJ,g8 rfl,r.ya,_,r.yc,aom rfl,?_⟩;refine az.cM (φ:=g.aZ.pl.length≠0->r.ya.isSome=true) (λR h H hn=>bN.some (CW.ro H).2.1 (by omega)) λhya=>?_;refine(Nl (lP g m) r.ya r.yc (dR b g r) (EJ λR h H=>(CW.ro H).2.1) hya).wk ?_;rintro v R h ⟨a',n',c',P,⟨rfl,hP⟩,H⟩;refine⟨a',n',c',P,_,rfl,⟨λhz=>?_,λhz=>?_⟩,H⟩
 all_goals clear H
 ·have hk:¬ei (lP g m)=true:=λhk=>hz (aB hk);have e:kY g m=mr g:=by unfold kY;rw[aB h0,aq hk]
  rw[e];exact gz (ku.aK (λR h H=>⟨r,hok,H⟩) λ_ _ _ h=>h) (.of λR h H=>⟨trivial,H⟩)
 ·have hk:ei (lP g m)=true:=Decidable.byContradiction λhk=>absurd ((aq hk).symm.trans hz) (by decide);obtain⟨rfl,hc,hP⟩:=hP hk
  let g':dX I.α:={g with aZ:={g.aZ with step:=1,at':=m.tail,cell:=⟨1,kX (lP g m)⟩}}
  have e:kY g m=g':=by unfold kY;rw[aB h0,aB hk]
  rw[e]
  have hlen:(kX (lP g m)).length<=1000000:=by
   have G7:(lP g m).pl.length<=65506:=by
    unfold ei at hk;simp only[Bool.and_eq_true,decide_eq_true_eq]at hk;exact hk.2
   unfold kX;simp[kh,jP,bF];omega
  let r':ru:={r with da:=a',dc:=c'}
  have d8:EO g' r':=⟨hok.p,hok.pb,hok.y,⟨hlen,hc⟩,hok.l,hok.o,hok.os,hok.pn⟩
  have iW:∀R h,(CW b (dG g' r').toArray (aj (mS g r) (bE a' (kX (lP g m)).length (kX (lP g m))))).p R h->(bA b g').p R h:=λR h H=>Xv g' r' rfl d8 H λx hx=>by
   have hl:=ah hx;exact ae (ai hx) (λ_ h=>h) λy hy=>ae hy (λ_ h=>h) λz hz=>ae hz (λ_ h=>h) λu hu=>ae hu (λ_ h=>h) λw hw=>ae hw (λ_ h=>h) λp hp=>ae hp (λ_ h=>h) λp hp=>⟨hp.1,hp.2.1,hl,hp.2.2.2.1,hp.2.2.2.2⟩
  let J:HP->Prop:=λP=>HP.aT P (bA b g')
  have s1:=λ(g1:dX I.α)=>iT (ty:=87) (Q:=mS g r) (b:=b) (cs:=(dG g1 r).toArray) (k:=14) (x:=an 1) (cs':=(dG {g1 with aZ:={g1.aZ with step:=1}} r).toArray) qr rfl rfl rfl rfl;have s2:=λ(g1:dX I.α)=>iT (ty:=87) (Q:=mS g r) (b:=b) (cs:=(dG g1 r).toArray) (k:=17) (x:=an m.tail) (cs':=(dG {g1 with aZ:={g1.aZ with at':=m.tail}} r).toArray) qr rfl rfl rfl rfl
  let g2:dX I.α:={g with aZ:={g.aZ with step:=1,at':=m.tail}}
  have s3:=Kj (ty:=87) (Q:=mS g r) (b:=b) (cs:=(dG g2 r).toArray) (k:=18) (x:=.agg #[an 1,.slice a' (kX (lP g m)).length c']) (vs:=[an 1,.slice a' (kX (lP g m)).length c']) (cs':=(dG g' r').toArray) afw rfl rfl rfl rfl rfl;have t3:=opP (K:=J) (S:=P) (λR h x H=>hP R h H) s3 (bA b g') iW (.refl _);refine⟨J,⟨qi (s1 g) (qi (s2 _) t3),qi (s1 g) ⟨qi (s2 _) t3,qi (s2 _) t3⟩⟩,λP' hP'=>?_⟩;exact(HP.aT.aj hP' (DV m ca va)).trans (.of λR h H=>⟨trivial,H⟩)
end
theorem SI{κ α:Type}[DecidableEq κ]{enc:κ->Value}{t kt et:TypeId}{m c:Nat}{l:AL κ}{V:Value->α->HP}{f:κ->Option α}(ht:prog.underlying t=some (.map kt et)):
 aR prog (q9 t (.map (some m))) (aH V enc m f l c) (λv=>aE λit=>aA (v=pt it) (aj (HP.one it (.mapIter (some m) c #[] c)) (aH V enc m f l c))):=by
 refine aR.cM (φ:=fC l c) (λR h H=>H.1) λhI=>?_;refine((rU (m:=m) (l:=l) (c:=c) (enc:=enc) ht).frame (o7 V l f)).aK (λR h H=>H.2) ?_;rintro v R h ⟨h1,h2,d,l1,l2,⟨it,e,H⟩,HV⟩;exact⟨it,e,ae (au ⟨h1,h2,d,l1,l2,H,HV⟩) (λ_ h=>h) λy hy=>⟨hI,hy⟩⟩
theorem Nv{l:List (Int×MS)}{k:Int}(h:k∉l.map (·.1)):b9 l k=none:=by
 unfold b9
 rw[List.find?_eq_none.2 λx hx=>by
  simp only[decide_eq_true_eq];rintro rfl;exact h (List.mem_map.2 ⟨x,hx,rfl⟩)]
 rfl
theorem fK(y:Int×MS)(l:List (Int×MS))(k:Int):b9 (y::l) k=if y.1=k then some y.2 else b9 l k:=by
 unfold b9;rw[List.find?_cons]
 by_cases e:y.1=k
 ·rw[aB e,decide_eq_true e];rfl
 ·rw[aq e,decide_eq_false e]
theorem GM{p:MS->Bool}{l:List (Int×MS)}(hn:(l.map (·.1)).Nodup)(k:Int):b9 (l.filter λy=>p y.2) k=(b9 l k).filter p:=by
 induction l with
 |nil=>rfl
 |cons y l ih=>
  rw[List.map_cons,List.nodup_cons]at hn;rw[List.filter_cons,fK]
  by_cases e:y.1=k
  ·rw[aB e]
   by_cases hp:p y.2=true
   ·rw[aB hp,fK,aB e];simp[Option.filter,hp]
   ·rw[aq hp,ih hn.2,Nv (by rw[<-e];exact hn.1)];simp[Option.filter,hp]
  ·rw[aq e,<-ih hn.2];split
   ·rw[fK,aq e]
   ·rfl
theorem SJ{l:List (Int×MS)}{k:Int}(m:MS)(h:b9 l k=none):b9 (l++[(k,m)])=g7 (b9 l) k (some m):=funext λj=>by
 unfold g7
 induction l with
 |nil=>rw[List.nil_append,fK];by_cases e:j=k
       ·rw[aB e,aB e.symm]
       ·rw[aq e,aq (λh=>e h.symm)]
 |cons y l ih=>
  rw[fK]at h;split at h
  ·cases h
  ·rename_i hy;rw[List.cons_append,fK,fK,ih h]
   by_cases e:y.1=j
   ·rw[aB e,aB e,aq (λh=>hy (e.trans h))]
   ·rw[aq e,aq e]
theorem ER(l:List (Int×MS))(k:Int):Cs l k=(b9 l k).isSome:=by
 induction l with
 |nil=>rfl
 |cons y l ih=>
  rw[fK];unfold Cs at ih⊢;rw[List.any_cons,ih]
  by_cases e:y.1=k
  ·rw[aB e,decide_eq_true e];rfl
  ·rw[aq e,decide_eq_false e];rfl
section
variable {I:Nn}{b:Nat}{g:dX I.α}{r:ru}
def CLM(g:dX I.α)(r:ru)(f:Int->Option MS)(al:AL Int)(c:Nat):List HP:=(EQ g r).set 3 (aH Aq iE r.mp f al c)
abbrev kZ(b:Nat)(cs:dI)(g:dX I.α)(r:ru)(f:Int->Option MS)(al:AL Int)(c:Nat):HP:=CW b cs (cw (CLM g r f al c))
variable {cs:dI}{f:Int->Option MS}{al:AL Int}{c it:Nat}{S:Array Nat}
theorem kZ.dN{K:HP}{R h:PH}(H:(aj (CW b cs (mS g r)) K).p R h):∃al c,(aj (kZ b cs g r (b9 g.bq) al c) K).p R h:=by
 obtain⟨h1,h2,d,l1,l2,⟨g1,g2,d',m1,m2,⟨al,c,hM⟩,hK⟩,hR⟩:=CW.jK (L:=EQ g r) (k:=3) rfl H;exact⟨al,c,CW.lX (L:=EQ g r) (k:=3) rfl ⟨h1,h2,d,l1,l2,⟨g1,g2,d',m1,m2,hM,hK⟩,hR⟩⟩
theorem cls{l:List (Int×MS)}{R h:PH}(H:(kZ b cs g r (b9 l) al c).p R h):(CW b cs (mS {g with bq:=l} r)).p R h:=
 ae H (λ_ h=>h) λ_ h=>ae h (λ_ h=>h) λ_ h=>ae h (λ_ h=>h) λ_ h=>ae h (λ_ h=>h) λ_ h=>ae h (λ_ h=>⟨al,c,h⟩) λ_ h=>h
theorem kZ.map{R h:PH}(H:(kZ b cs g r f al c).p R h):(aH Aq iE r.mp f al c).p R h:=ai (ai (CW.jK (L:=CLM g r f al c) (k:=3) (K:=tt) rfl (aD H)))
theorem afx:aR prog (q9 81 (.map (some r.mp))) (kZ b cs g r f al c) (λv=>aE λit=>aA (v=pt it) (aj (HP.one it (.mapIter (some r.mp) c #[] c)) (kZ b cs g r f al c))):=
 (qY (L:=CLM g r f al c) (k:=3) (K:=tt) (γ:=Nat) (X:=aH Aq iE r.mp f al c) (X':=λ_=>aH Aq iE r.mp f al c) (P:=λit=>HP.one it (.mapIter (some r.mp) c #[] c)) (φ:=λv it=>v=pt it) rfl ((SI qX).aK (λR h H=>ai H) λv R h ⟨it,e,H⟩=>⟨it,e,ak H⟩)).aK (λR h H=>aD H) λv R h ⟨it,e,H⟩=>⟨it,e,ak H⟩
theorem ajN{ty:TypeId}(hs:ja al c):aR prog (oD (pt it) ty) (aj (HP.one it (.mapIter (some r.mp) c S c)) (kZ b cs g r f al c)) (λv=>aE λe=>aA (Iv iE al S v e) (aj (HP.one it (.mapIter (some r.mp) c (gR S e) c)) (kZ b cs g r f al c))):=
 (qY (L:=CLM g r f al c) (k:=3) (K:=HP.one it (.mapIter (some r.mp) c S c)) (γ:=Option (Int×Value×Nat)) (X:=aH Aq iE r.mp f al c) (X':=λ_=>aH Aq iE r.mp f al c) (P:=λe=>HP.one it (.mapIter (some r.mp) c (gR S e) c)) (φ:=λv e=>Iv iE al S v e) rfl ((Bj hs).aK (λR h H=>ak H) λv R h ⟨e,he,H⟩=>⟨e,he,ak H⟩)).aK (λR h H=>ak H) λv R h ⟨it,e,H⟩=>⟨it,e,ak H⟩
theorem acY(k:Int)(ty:TypeId):aR prog (xR #[81,3] ty (.map (some r.mp)) (iE k)) (kZ b cs g r f al c) (λv=>aA (v=cE) (kZ b cs g r (g7 f k none) (hU k al) c)):=
 (qY (L:=CLM g r f al c) (k:=3) (K:=tt) (γ:=Unit) (X:=aH Aq iE r.mp f al c) (X':=λ_=>aH Aq iE r.mp (g7 f k none) (hU k al) c) (P:=λ_=>tt) (φ:=λv _=>v=cE) rfl ((aH.OF (r:=r.mp) (l:=al) (c:=c) (f:=f) (V:=Aq) iK qX k #[81,3] ty rfl).aK (λR h H=>ai H) λv R h ⟨e,H⟩=>⟨(),e,aD H⟩)).aK (λR h H=>aD H) λv R h ⟨_,e,H⟩=>⟨e,ai H⟩
theorem aos:xC prog 174:=⟨_,Tryz.func174,by kernel_rfl,by kernel_rfl⟩
theorem afy(x:Nat)(m:MS)(ca:aG)(cc:Nat)(va:aG)(vc:Nat)(y:p9)(S Q:HP)(hS:∀R h,S.p R h->(y.m.cW y.ca).p R h/\(y.m.cI y.va).p R h)(hQ:∀R h,Q.p R h->(m.cW ca).p R h/\(m.cI va).p R h):
 jG prog (.func (.func 174) #[] #[pt x]) #[.agg y.aJ] (aj (aj (dO x (m.ee ca cc va vc)) Q) S) λv=>aA (v=.bool (lB y.m m)) (aj (aj (dO x (m.ee ca cc va vc)) Q) S):=
 .inl ⟨_,_,rfl,aos,(Xt m y.m ca cc va vc y.ca y.cc y.va y.vc x).bv (K:=aj Q S) (.of λR h H=>by
  have hy:=hS R _ (ah H);have hm:=hQ R _ (ah (ai H));have H0:=ae (au H) (λ_ h=>h) λz hz=>aC (bN.join (hm.1) (bN.join (hm.2) hz));exact aC (bN.join hy.1 (aC (bN.join hy.2 (aC H0))))) λv=>.of λR h ⟨h1,h2,d,l1,l2,⟨e,H⟩,HS⟩=>⟨e,by
  have H1:=au (ah (au (ah (au ⟨h1,h2,d,l1,l2,H,HS⟩))));exact aC (ae H1 (λ_ h=>h) λz hz=>ah hz)⟩⟩
end
section
variable {I:Nn}{b:Nat}{g:dX I.α}{r:ru}
structure WOk(g:dX I.α)(l:List MS):Prop where
 s:∀m∈l,m.small
 p:g.bq.length+l.length<=1000000
 o:g.out.length+l.length<=1000000
 n:0<=g.num/\g.num+l.length<=4000000000000000000
theorem aot{cs:dI}{al:AL Int}{cl:Nat}(k:Int)(m:MS)(ca:aG)(cc:Nat)(va:aG)(vc:Nat)(hm:m.small)(hk:b9 g.bq k=none):
 aR prog (kK 81 (.map (some r.mp)) (an k) (.agg (m.ee ca cc va vc).aJ)) (aj (kZ b cs g r (b9 g.bq) al cl) (aj (m.cW ca) (m.cI va)))
  (λv=>aE λy:AL Int×Nat=>aA (v=cE) (aj (kZ b cs g r (b9 (g.bq++[(k,m)])) y.1 y.2) (aj (m.cW ca) (m.cI va)))):=by
 refine qY (L:=CLM g r (b9 g.bq) al cl) (k:=3) (K:=aj (m.cW ca) (m.cI va)) (γ:=AL Int×Nat) (X:=aH Aq iE r.mp (b9 g.bq) al cl) (X':=λy=>aH Aq iE r.mp (b9 (g.bq++[(k,m)])) y.1 y.2) (P:=λ_=>aj (m.cW ca) (m.cI va)) (φ:=λv _=>v=cE) rfl ?_;refine(aH.put (r:=r.mp) (l:=al) (c:=cl) (f:=b9 g.bq) (V:=Aq) iK qX Aq.iF k (.agg (m.ee ca cc va vc).aJ) m (A:=aj (m.cW ca) (m.cI va)) λR h H=>⟨ca,cc,va,vc,⟨rfl,hm⟩,ai H,ah H⟩).wk ?_;rintro v R h ⟨e,h1,h2,d,l1,l2,⟨al',c',H⟩,HS⟩;rw[<-SJ m hk]at H;exact⟨(al',c'),e,h1,h2,d,l1,l2,H,HS⟩
def YM(g:dX I.α)(r:ru)(f:Int->Option MS)(al:AL Int)(c:Nat):List HP:=(CLM g r f al c).set 4 tt
theorem YM.of{cs:dI}{f:Int->Option MS}{al:AL Int}{cl:Nat}{R h:PH}(H:(kZ b cs g r f al cl).p R h):(aj (CW b cs (cw (YM g r f al cl))) (PL eI r.oa r.mm.length r.oc r.mm)).p R h:=
 CW.lX (L:=CLM g r f al cl) (k:=4) rfl (ae (CW.jK (L:=CLM g r f al cl) (k:=4) (K:=tt) rfl (aD H)) (λ_ h=>ak h) λ_ h=>h)
theorem YM.to{cs:dI}{f:Int->Option MS}{al:AL Int}{cl:Nat}{a:aG}{n c:Nat}{es:List p9}{R h:PH}(hn:n=es.length)(H:(CW b cs (aj (cw (YM g r f al cl)) (PL eI a n c es))).p R h):(kZ b cs {g with out:=es.map (·.m)} {r with oa:=a,oc:=c,mm:=es} f al cl).p R h:=by
 subst hn;have H1:=CW.jK (L:=YM g r f al cl) (k:=4) (X:=tt) rfl (ajM H);have H2:=CW.lX (L:=YM g r f al cl) (k:=4) (X:=tt) rfl (ae H1 (λ_ h=>ak h) λ_ h=>h);exact ai H2
theorem SK{m:MS}(h:Cs g.bq m.to=true):uv g m=g:=aB h
theorem XD{m:MS}(h:¬Cs g.bq m.to=true):uv g m={g with num:=g.num+1,bq:=g.bq++[(m.to,{m with fr:=g.node,num:=g.num+1})],out:=g.out++[{m with fr:=g.node,num:=g.num+1}]}:=aq h
theorem XE{cs:dI}{f:Int->Option MS}{al:AL Int}{cl:Nat}(k:Int)(hsh:∀k v,aY k al=some v->∃(m:MS) (ca:aG) (cc:Nat) (va:aG) (vc:Nat),v=.agg (m.ee ca cc va vc).aJ):
 ∃(m:MS) (ca:aG) (cc:Nat) (va:aG) (vc:Nat),aM prog (mM 81 (.map (some r.mp)) (an k) true) (kZ b cs g r f al cl) (.tuple #[.agg (m.ee ca cc va vc).aJ,.bool (aY k al).isSome]):=by
 obtain⟨i,hi,z1⟩:=Option.bind_eq_some_iff.1 VU;have iV:=iO (r:=r.mp) (l:=al) (c:=cl) iK qX hi z1 k true (A:=kZ b cs g r f al cl) λR h H=>aH.at (kZ.map H);cases hf:aY k al with
 |none=>rw[hf]at iV;exact⟨gS,none,0,none,0,iV⟩
 |some v=>
  obtain⟨m,ca,cc,va,vc,rfl⟩:=hsh k v hf;rw[hf]at iV;exact⟨m,ca,cc,va,vc,iV⟩
theorem kZ.shape{cs:dI}{l:List (Int×MS)}{al:AL Int}{cl:Nat}{R h:PH}(H:(kZ b cs g r (b9 l) al cl).p R h):(∀k v,aY k al=some v->∃(m:MS) (ca:aG) (cc:Nat) (va:aG) (vc:Nat),v=.agg (m.ee ca cc va vc).aJ)/\∀k,(aY k al).isSome=Cs l k:=by
 have hM:=kZ.map H;refine⟨λk v hv=>?_,λk=>?_⟩
 ·cases hf:b9 l k with
  |none=>rw[aH.no hM hf]at hv;cases hv
  |some m=>
   obtain⟨v',C6,ca,cc,va,vc,⟨e,_⟩,_⟩:=aH.Dp hM Aq.iF hf h;rw[hv]at C6;obtain rfl:=Option.some.inj C6;exact⟨m,ca,cc,va,vc,e⟩
 ·rw[ER];cases hf:b9 l k with
  |none=>rw[aH.no hM hf];rfl
  |some m=>
   obtain⟨v',C6,_⟩:=aH.Dp hM Aq.iF hf h;rw[C6];rfl
set_option maxHeartbeats 8000000 in
theorem SL(a:aG)(n c:Nat)(es:List p9)(hw:WOk g (es.map (·.m))):az prog 96 #[pt b,.slice a n c] (aj (bA b g) (Ls Ge a n es)) (λv=>aA (v=cE) (aj (bA b (lC g (es.map (·.m)))) (Ls Ge a n es))):=by
 refine bA.qD λr hok=>?_;refine az.cM (φ:=es.length=n/\(n≠0->a.isSome=true)) (λR h H=>⟨(ah H).1,λhn=>bN.some (ah H).2.1 (by omega)⟩) λ⟨hl,hs⟩=>?_;have Pv:=hw.o;have hw3:=hw.p;rw[List.length_map]at Pv hw3;refine(az.ex (A:=λal=>aE λcl=>aj (kZ b (dG g r).toArray g r (b9 g.bq) al cl) (Ls Ge a n es)) λal=>az.ex λcl=>?_).aK (λR h H=>kZ.dN H) λ_ _ _ h=>h;refine az.cM (φ:=fC al cl) (λR h H=>(kZ.map (ai H)).1) λQE=>?_;refine ao (ρ:=[.n b,.p (kZ b (dG g r).toArray g r (b9 g.bq) al cl),.a a,.n n,.n c,.p (Ls Ge a n es)]) {fk:=[78,85,82],hv:=[(0,[(.b 7),(.b 0)]),(2,[(.b 0)])],aF:=gF,aT:=[(18,[3,64])],bU:=gG,dN:=true,dv:=true,ck:=[78,85,82]} [(.ptr 0 0),(.s 2)] [(.b 0,1),(2,5)] 6 ?_;refine⟨r.mp,CE rfl,?_⟩;refine afx.wk ?_;rintro v R h ⟨it,rfl,H⟩
 let still:MS->Bool:=λm=>es.any λx=>lB x.m m
 let J:HP->HP->Nat->Prop:=λPi Pm N=>∃(l:AL Int) (S:Array Nat) (f:Int->Option MS),Pi=HP.one it (.mapIter (some r.mp) cl S cl)/\Pm=kZ b (dG g r).toArray g r f l cl/\fC l cl/\(∀k,f k=b9 g.bq k\/(f k=none/\∃m,b9 g.bq k=some m/\still m=false))/\(∀x∈l,x.2.2∈S->∃m,b9 g.bq x.1=some m/\still m=true)/\kJ l S=N
 refine⟨it,_,_,rfl,⟨λPi Pm=>∃N,J Pi Pm N,λPi Pm=>cY (J Pi Pm),⟨_,al,#[],b9 g.bq,rfl,rfl,QE,λk=>.inl rfl,λx _ hx=>absurd hx (by simp),rfl⟩,?_⟩,H⟩;clear H;intro Pi Pm hJ;have IF:=gr hJ;generalize IG:cY (J Pi Pm)=N at IF;obtain⟨l,S,f,rfl,rfl,hI,hf,hS,hN⟩:=IF;refine(ajN hI.2).wk ?_;rintro v R h ⟨e,he,H⟩;rcases e with _|x;rotate_left
 ·obtain⟨rfl,hx,hxS⟩:=he;have Hm:=kZ.map (ah H);have pW:aY x.1 l=some x.2.1:=i9 x.1 x.2.1 x.2.2 l hI.1 hx
  obtain⟨m,ca,cc,va,vc,hz,hfm,OA⟩:∃m ca cc va vc,x.2.1=.agg (MS.ee m ca cc va vc).aJ/\f x.1=some m/\m.small:=by
   cases YG:f x.1 with
   |none=>rw[aH.no Hm YG]at pW;cases pW
   |some z=>
    obtain⟨v,hv,ca,cc,va,vc,⟨e,OA⟩,_⟩:=aH.Dp Hm Aq.iF YG h;rw[pW]at hv;cases hv;exact⟨z,ca,cc,va,vc,e,rfl,OA⟩
  have hpm:b9 g.bq x.1=some m:=by
   rcases hf x.1 with e|⟨e,_⟩
   ·rw[<-e];exact hfm
   ·rw[e]at hfm;cases hfm
  have hDV:∀R h,(kZ b (dG g r).toArray g r f l cl).p R h->(m.cW ca).p R h/\(m.cI va).p R h:=λR h H=>by
   obtain⟨v,hv,ca',Zs,Mc,Tt,⟨e,_⟩,hD,hV⟩:=aH.Dp (kZ.map H) Aq.iF hfm h;rw[pW,hz]at hv;have e1:=Option.some.inj hv;rw[e]at e1;simp[MR.aJ]at e1;obtain⟨⟨rfl,rfl⟩,rfl,rfl⟩:=e1;exact⟨hD,hV⟩
  refine⟨true,iE x.1,x.2.1,_,rfl,⟨λ_=>?_,λh=>absurd rfl h⟩,H⟩;clear H Hm;have kE:=nA (enc:=iE) (it:=it) (m:=r.mp) (c:=cl) (S:=S) (x:=x) hI.2 hx (A:=aj (HP.one it (.mapIter (some r.mp) cl (gR S (some x)) cl)) (kZ b (dG g r).toArray g r f l cl)) (λR h H=>ai H) (λR h H=>aH.at (kZ.map (ah H)));rw[hz]at kE;refine⟨x.1,m.fr,m.to,m.num,m.bV,m.kind,m.ep,m.at',m.cell.what,ca,m.cell.data.length,cc,m.br,m.bw,va,m.val.length,vc,m.err,m.tail,m.low,m.back,kE,λy=>?_⟩;refine(uk (Ls Ge a n es) (aj (dO y (m.ee ca cc va vc)) (kZ b (dG g r).toArray g r f l cl)) a n c es (λ_ _ h=>h) (by omega) (.func (.func 174) #[] #[pt y]) rfl (λz=>lB z.m m) λz hz=>afy y m ca cc va vc z _ _ (λR h H=>?_) hDV).wk ?_
  ·exact(H.2.2 z hz:_)
  rintro v R h ⟨rfl,H⟩;refine⟨_,rfl,⟨λhst=>?_,λhst=>?_⟩,H⟩
  ·refine⟨r.mp,CE rfl,?_⟩;refine(acY x.1 0).wk ?_;rintro v R h ⟨rfl,H⟩
   have Bq:J (HP.one it (.mapIter (some r.mp) cl (gR S (some x)) cl)) (kZ b (dG g r).toArray g r (g7 f x.1 none) (hU x.1 l) cl) (kJ (hU x.1 l) (S.push x.2.2)):=by
    refine⟨hU x.1 l,S.push x.2.2,g7 f x.1 none,rfl,rfl,hI.OF x.1,λk=>?_,λy hy FG=>?_,rfl⟩
    ·unfold g7
     by_cases e:k=x.1
     ·subst e;exact .inr ⟨aB rfl,m,hpm,show(es.any λx=>lB x.m m)=false from by simpa using hst⟩
     ·rw[aq e];exact hf k
    ·have tg:=(j9 x.1 l).subset hy;rcases jf hI.2 hx tg FG with rfl|h
     ·have:=(gH y.1 (hU y.1 l)).2 (List.mem_map.2 ⟨y,hy,rfl⟩);rw[lJ _ _ _ hI.1,aB rfl]at this;cases this
     ·exact hS y tg h
   refine⟨_,rfl,⟨⟨_,Bq⟩,Nat.lt_of_le_of_lt (gm Bq) ?_⟩,H⟩;show kJ _ _<cY _;rw[IG,<-hN];exact Nat.lt_of_le_of_lt (((j9 x.1 l).filter _).length_le) (jU hx hxS)
  ·have Bq:J (HP.one it (.mapIter (some r.mp) cl (gR S (some x)) cl)) (kZ b (dG g r).toArray g r f l cl) (kJ l (S.push x.2.2)):=by
    refine⟨l,S.push x.2.2,f,rfl,rfl,hI,hf,λy hy FG=>?_,rfl⟩;rcases jf hI.2 hx hy FG with rfl|h
    ·exact⟨m,hpm,show(es.any λx=>lB x.m m)=true from by simpa using hst⟩
    ·exact hS y hy h
   refine⟨⟨_,Bq⟩,Nat.lt_of_le_of_lt (gm Bq) ?_⟩;show kJ _ _<cY _;rw[IG,<-hN];exact jU hx hxS
 ·have Hm:=kZ.map (ah H)
  let PM:=g.bq.filter λy=>still y.2
  have hff:f=b9 PM:=funext λk=>by
   rw[GM hok.pn.2.1];cases hp:b9 g.bq k with
   |none=>
    rcases hf k with e|⟨e,m,hm,_⟩
    ·rw[e,hp];rfl
    ·rw[hp]at hm;cases hm
   |some m=>
    by_cases hst:still m=true
    ·rcases hf k with e|⟨e,m',hm,vz⟩
     ·rw[e,hp];simp[Option.filter,hst]
     ·rw[hp]at hm;cases hm;rw[hst]at vz;cases vz
    ·rcases hf k with e|⟨e,_⟩
     ·rw[hp]at e;obtain⟨v,hv,_⟩:=aH.Dp Hm Aq.iF e h;obtain⟨z,hz⟩:=mB k l v hv;obtain⟨m',hm',vz⟩:=hS _ hz (he.2 _ hz);rw[hp]at hm';cases hm';exact absurd vz hst
     ·rw[e];simp[Option.filter,hst]
  have hsh:=kZ.shape (l:=PM) (hff▸ah H);refine⟨false,cE,cE,_,he.1,⟨λh=>(by cases h),λ_=>?_⟩,H⟩;clear H Hm;subst hff;clear hJ IG hf hS hN he
  let gk:Nat->dX I.α:=λk=>((es.map (·.m)).take k).foldl uv {g with bq:=PM}
  have gs:∀ {k:Nat} {y:p9},es[k]? =some y->gk (k+1)=uv (gk k) y.m:=λ{k y} hy=>by
   show((es.map (·.m)).take (k+1)).foldl uv _=_;have:(es.map (·.m))[k]? =some y.m:=by rw[List.getElem?_map,hy];rfl
   rw[List.take_add_one,this,List.foldl_append];rfl
  have G7:PM.length<=g.bq.length:=List.length_filter_le _ _;refine⟨λi P=>∃(k:Nat) (r':ru) (al:AL Int) (c:Nat),i=k/\k<=n/\P=kZ b (dG (gk k) r').toArray (gk k) r' (b9 (gk k).bq) al c/\EO (gk k) r'/\((∀k v,aY k al=some v->∃(m:MS) (ca:aG) (cc:Nat) (va:aG) (vc:Nat),v=.agg (m.ee ca cc va vc).aJ)/\∀j,(aY j al).isSome=Cs (gk k).bq j)/\(0<=(gk k).num/\(gk k).num<=g.num+k/\(gk k).out.length<=g.out.length+k/\(gk k).bq.length<=g.bq.length+k),λi _=>n - i.toNat,?_,?_⟩
  ·refine⟨0,r,l,cl,rfl,Nat.zero_le _,rfl,⟨hok.p,hok.pb,hok.y,hok.d,hok.l,hok.o,hok.os,?_⟩,hsh,hw.n.1,by show g.num<=_;omega,Nat.le_refl _,G7⟩;exact⟨Nat.le_trans G7 hok.pn.1,List.Sublist.nodup (List.Sublist.map _ (List.filter_sublist)) hok.pn.2.1,λy hy=>hok.pn.2.2 y ((List.mem_filter.1 hy).1)⟩
  rintro _ _ ⟨k,r',al',c',rfl,hk,rfl,d8,⟨ajP,ajQ⟩,hb1,Tk,hb3,hb4⟩;have hwn:=hw.n;rw[List.length_map]at hwn;refine⟨λhlt=>⟨by omega,λ_=>⟨hs (by omega),λ_=>?_⟩⟩,λlH=>.of λR h H=>⟨trivial,ae H (λx hx=>?_) λ_ h=>h⟩⟩
  ·have ki:k<es.length:=by omega
   obtain⟨y,hy⟩:∃y,es[k]? =some y:=⟨es[k],List.getElem?_eq_getElem ki⟩;have KV:=List.mem_of_getElem? hy;have TA:=gs hy;refine⟨y.m.fr,y.m.to,y.m.num,y.m.bV,y.m.kind,y.m.ep,y.m.at',y.m.cell.what,y.ca,y.m.cell.data.length,y.cc,y.m.br,y.m.bw,y.va,y.m.val.length,y.vc,y.m.err,y.m.tail,y.m.low,y.m.back,aik (λ_ _ h=>h) hy,λx=>⟨r'.mp,CE rfl,?_⟩⟩;obtain⟨z,zca,zcc,zva,zvc,iV⟩:=XE (b:=b) (g:=gk k) (r:=r') (cs:=(dG (gk k) r').toArray) (f:=b9 (gk k).bq) (cl:=c') y.m.to ajP;rw[ajQ]at iV;refine⟨z.fr,z.to,z.num,z.bV,z.kind,z.ep,z.at',z.cell.what,zca,z.cell.data.length,zcc,z.br,z.bw,zva,z.val.length,zvc,z.err,z.tail,z.low,z.back,_,iV,λx2=>⟨λhf=>?_,λhf=>?_⟩⟩
   ·rw[SK hf]at TA;refine⟨bh _ (by omega) (by omega),λ_=>⟨⟨k+1,r',al',c',by omega,by omega,by rw[TA],by rw[TA];exact d8,by rw[TA];exact⟨ajP,ajQ⟩,by rw[TA];omega⟩,by dsimp only;omega⟩⟩
   ·rw[XD hf]at TA
    let m1:MS:={y.m with fr:=(gk k).node,num:=(gk k).num+1}
    have hm1:m1.small:=hw.s y.m (List.mem_map.2 ⟨y,KV,rfl⟩);have hfn:b9 (gk k).bq y.m.to=none:=by rw[ER]at hf;simpa using hf
    let g1:dX I.α:={gk k with num:=(gk k).num+1}
    let g2:dX I.α:={g1 with bq:=g1.bq++[(y.m.to,m1)]}
    have tw:=aaR m1 y.ca y.cc y.va y.vc hm1 (Ls Ge a n es) λR h H=>H.2.2 y KV;refine⟨(gk k).num,g8 rfl,bh _ (by omega) (by omega),λ_=>qi (iT (cs':=(dG g1 r').toArray) qr rfl rfl rfl rfl) ⟨(gk k).node,g8 rfl,(gk k).num+1,g8 rfl,r'.mp,CE rfl,?_⟩⟩;refine tw.wk ?_;rintro v R h ⟨ca1,cc1,va1,vc1,rfl,H⟩;refine⟨m1.fr,m1.to,m1.num,m1.bV,m1.kind,m1.ep,m1.at',m1.cell.what,ca1,m1.cell.data.length,cc1,m1.cW ca1,m1.br,m1.bw,va1,m1.val.length,vc1,m1.cI va1,m1.err,m1.tail,m1.low,m1.back,rfl,?_,H⟩;clear H;refine(aot (g:=g1) (r:=r') y.m.to m1 ca1 cc1 va1 vc1 hm1 hfn).wk ?_;rintro v R h ⟨⟨al2,c2⟩,rfl,H⟩;have aoy:=kZ.shape (ai H);refine⟨kZ b (dG g2 r').toArray g1 r' (b9 g2.bq) al2 c2,rfl,⟨r'.oa,r'.mm.length,r'.oc,acX rfl,?_⟩,H⟩;clear H;refine tw.wk ?_;rintro v R h ⟨DI,Ty,DJ,Tz,rfl,H⟩;refine⟨m1.fr,m1.to,m1.num,m1.bV,m1.kind,m1.ep,m1.at',m1.cell.what,DI,m1.cell.data.length,Ty,m1.cW DI,m1.br,m1.bw,DJ,m1.val.length,Tz,m1.cI DJ,m1.err,m1.tail,m1.low,m1.back,rfl,λz=>?_,H⟩;clear H
    let x1:p9:=⟨m1,DI,Ty,DJ,Tz⟩
    have hol:r'.mm.length=(gk k).out.length:=by rw[<-d8.o,List.length_map]
    have he:(r'.mm++[x1]).map (·.m)=(gk k).out++[m1]:=by rw[List.map_append,d8.o];rfl
    refine(ai3 r'.oa r'.mm.length r'.oc r'.mm z x1 (kZ b (dG g2 r').toArray g1 r' (b9 g2.bq) al2 c2) (CW b (dG g2 r').toArray (cw (YM g1 r' (b9 g2.bq) al2 c2))) (λR h H=>YM.of H) (by omega)).wk ?_;rintro v R h ⟨a3,c3,rfl,H⟩;refine⟨a3,r'.mm.length+1,c3,PL eI a3 (r'.mm.length+1) c3 (r'.mm++[x1]),CW b (dG g2 r').toArray (cw (YM g1 r' (b9 g2.bq) al2 c2)),rfl,?_,H⟩;clear H;have hle:r'.mm.length+1=(r'.mm++[x1]).length:=by rw[List.length_append];rfl
    let r3:ru:={r' with oa:=a3,oc:=c3,mm:=r'.mm++[x1]}
    rw[<-he]at TA
    refine aaT (iT (cs':=(dG (gk (k+1)) r3).toArray) Nq rfl rfl rfl (by rw[TA,hle];rfl)) (kZ b (dG (gk (k+1)) r3).toArray (gk (k+1)) r3 (b9 (gk (k+1)).bq) al2 c2) (λR h H=>by
     have:=YM.to hle H;rw[TA]at this⊢;exact this) ⟨bh _ (by omega) (by omega),λ_=>⟨⟨k+1,r3,al2,c2,by omega,by omega,rfl,?_,?_,?_⟩,by dsimp only;omega⟩⟩
    ·rw[TA,he];refine⟨d8.p,d8.pb,d8.y,d8.d,d8.l,he,⟨by show((gk k).out++[m1]).length<=_;rw[List.length_append];simp;omega,λm hm=>?_⟩,?_⟩
     ·rcases List.mem_append.1 hm with hm|hm
      ·exact d8.os.2 m hm
      ·obtain rfl:=List.mem_singleton.1 hm;exact hm1
     ·show((gk k).bq++[(y.m.to,m1)]).length<=_/\(((gk k).bq++[(y.m.to,m1)]).map (·.1)).Nodup/\∀y'∈(gk k).bq++[(y.m.to,m1)],y'.2.small;refine⟨by rw[List.length_append];simp;omega,?_,λy' I6=>?_⟩
      ·rw[List.map_append,List.nodup_append];refine⟨d8.pn.2.1,by simp,λu hu v hv e=>?_⟩;obtain rfl:=List.mem_singleton.1 hv;subst e;obtain⟨q,hq,e⟩:=List.mem_map.1 hu;have:Cs (gk k).bq y.m.to=true:=List.any_eq_true.2 ⟨q,hq,decide_eq_true e⟩;exact hf this
      ·rcases List.mem_append.1 I6 with hm|hm
       ·exact d8.pn.2.2 y' hm
       ·obtain rfl:=List.mem_singleton.1 hm;exact hm1
    ·rw[TA];exact aoy
    ·rw[TA,he];show 0<=(gk k).num+1/\(gk k).num+1<=g.num+((k+1:Nat):Int)/\((gk k).out++[m1]).length<=g.out.length+(k+1)/\((gk k).bq++[(y.m.to,m1)]).length<=g.bq.length+(k+1);simp only[List.length_append,List.length_singleton];omega
  ·obtain rfl:k=n:=by omega
   have e:gk k=lC g (es.map (·.m)):=by
    show((es.map (·.m)).take k).foldl uv _=_;rw[List.take_of_length_le (by rw[List.length_map];omega)];unfold lC;congr 1;show{g with bq:=g.bq.filter λy=>es.any λx=>lB x.m y.2}={g with bq:=g.bq.filter λy=>(es.map (·.m)).any λx=>lB x y.2};simp only[List.any_map];rfl
   rw[<-e];exact⟨r',d8,cls (l:=(gk k).bq) hx⟩
end
end
namespace RX
-- (*cH/aoz.aoA).alh$1:ρ:=[.i unit,.n r,.i aoB,.i as1,.i ajR,.c ali,.i aoC,.i alj,.i as2,.i acZ,.a aaY,.n aaZ,.n aa0,.p aa1,.i XF,.i aa2,.a ajS,.n ajT,.n ajU,.p ajV,.i aqs,.i aoD,.i aqt,.i aoE]
abbrev afz:Hp:=[((.b 1),(.cells [2,3,4,(.bool 5),6,7,8,9,(.s 10),14,15,(.s 16),20,21,22,23] 64)),(10,13),(16,19)]
abbrev Nw:Hp:=[(.b 0,1)]
abbrev Ny:Hp:=[(0,3)]
end RX
section
open RX
section
variable {I:Nn}{b:Nat}{g:dX I.α}{r:ru}
def Ko(g:dX I.α)(u:Int):MS:={gS with to:=u,kind:=3,ep:=g.aQ.ep,at':=g.aZ.at'}
set_option maxHeartbeats 2000000 in
theorem DK:az prog 95 #[pt b] (bA b g) (nU b (ko g)):=by
 refine bA.od λr hok=>?_;refine az.cM (φ:=g.aZ.left.length≠0->r.la.isSome=true) (λR h H hn=>bY.some (mS.own (ah H)) (by omega)) λhs=>?_;have VD:=hok.l;refine ao (ρ:=[.n b,.p (dR b g r)]) {fk:=[78,85,82],aF:=gF,bU:=gG,dN:=true,dv:=true,ck:=[78,85,82]} nT mR 2 ?_;refine⟨_,_,_,Xw rfl,λh0=>?_,λh0=>⟨_,_,_,Xw rfl,?_⟩⟩
 ·have e:ko g=(tR g {},none):=aB (List.eq_nil_of_length_eq_zero (by omega));refine gz ((xo {} none 0 none 0).aK (λR h H=>ae (aD (show(bA b g).p R h from⟨r,hok,H⟩)) (λ_ h=>h) λy _=>Hd (λ_=>bN.nil _ _ _ _) (bN.nil _ _ R y)) λ_ _ _ h=>h) (nU.PG e (.refl _))
 have e:ko g=(g,some (g.aZ.left.map (Ko g))):=aq λh=>h0 (by rw[h];rfl);refine⟨λa n c P i=>∃(k:Nat) (es:List p9),i=k/\k<=g.aZ.left.length/\n=es.length/\es.map (·.m)=(g.aZ.left.take k).map (Ko g)/\HP.aT P (PL eI a n c es),λ_ _ _ _ i=>g.aZ.left.length - i.toNat,⟨0,[],rfl,Nat.zero_le _,rfl,by simp,.of λR h _=>wd _ R h⟩,?_⟩;rintro a _ c P _ ⟨k,es,rfl,hk,rfl,hm,hP⟩
 have Ts:es.length=k:=by
  have:=congrArg List.length hm;simp at this;omega
 refine⟨λhlt=>⟨by omega,λ_=>⟨hs (by omega),λ_=>?_⟩⟩,λlH=>?_⟩
 ·have ki:k<g.aZ.left.length:=by omega
  have hx:g.aZ.left[k]? =some g.aZ.left[k]:=List.getElem?_eq_getElem ki
  have A4:(g.aZ.left.take (k+1)).map (Ko g)=(g.aZ.left.take k).map (Ko g)++[Ko g g.aZ.left[k]]:=by
   rw[List.take_succ_eq_append_getElem ki,List.map_append];rfl
  generalize g.aZ.left[k]=u at*;refine⟨u,ldI (tN (bY.rd 3 1 r.la g.aZ.left.length r.lc (g.aZ.left.map cr)) λR h H=>mS.own (ah H)) hx,_,g8 rfl,_,g8 rfl,λy=>?_⟩;have hz:∀R h,(bE none 0 []).p R h:=λR h=>bN.nil _ _ R h;refine(ai3 a es.length c es y ⟨Ko g u,none,0,none,0⟩ (PL eI a es.length c es) tt (λR h H=>ak (aD H)) (by omega)).bv (K:=tt) ((hP.aj _).trans (.of λR h H=>aD (ae H (λ_ h=>h) λy hy=>ae (aD hy) (λ_ h=>h) λz _=>Hd (hz R) (hz R z)))) λv=>.of λR h H=>?_;obtain⟨a',c',rfl,H2⟩:=ai H;refine⟨a',es.length+1,c',PL eI a' (es.length+1) c' (es++[⟨Ko g u,none,0,none,0⟩]),rfl,⟨bh _ (by omega) (by omega),λ_=>⟨⟨k+1,es++[⟨Ko g u,none,0,none,0⟩],by omega,by omega,by rw[List.length_append];rfl,by rw[List.map_append,hm,A4];rfl,.refl _⟩,by dsimp only;omega⟩⟩,ae H2 (λ_ h=>h) λ_ hy=>ai (ah hy)⟩
 ·have LG:k=g.aZ.left.length:=by omega
  rw[LG,List.take_length]at hm;refine((HP.aT.refl _).gX hP).trans (.of λR h H=>⟨a,es.length,c,by rw[e];rfl,by rw[e];exact ak (ae H (λ_ h=>⟨r,hok,h⟩) λ_ h=>⟨es,⟨hm,rfl⟩,h⟩)⟩)
theorem ajW:xC prog 88:=⟨_,Tryz.func88,by kernel_rfl,by kernel_rfl⟩
theorem SM(x:Nat)(m:MS)(ca:aG)(cc:Nat)(va:aG)(vc:Nat)(u:Int)(K:HP):
 jG prog (.func (.func 88) #[] #[pt x]) #[an u] (aj (aj (dO x (m.ee ca cc va vc)) (DV m ca va)) K) λv=>aA (v=.bool (decide (u=m.fr))) (aj (aj (dO x (m.ee ca cc va vc)) (DV m ca va)) K):=by
 refine .inl ⟨_,_,rfl,ajW,?_⟩
 have base:az prog 88 #[an u,pt x] (aj (dO x (m.ee ca cc va vc)) (DV m ca va)) (λv=>aA (v=.bool (decide (u=m.fr))) (aj (dO x (m.ee ca cc va vc)) (DV m ca va))):=by
  refine ao (ρ:=[en.i u,en.n x]++m.env ca cc va vc) {dN:=true,dv:=true} [0,(.ptr 1 0)] afz 24 ?_;exact .of λR h H=>⟨trivial,H⟩
 exact(base.frame K).wk λv R h ⟨h1,h2,d,l1,l2,⟨e,H⟩,HK⟩=>⟨e,h1,h2,d,l1,l2,H,HK⟩
theorem afA:(prog.info? 23).map (λi=>i.size)=some 1:=by kernel_rfl
set_option maxHeartbeats 2000000 in
theorem GO(hp:zX g)(m:MS)(ca:aG)(cc:Nat)(va:aG)(vc:Nat):az prog 43 #[pt b,.agg (m.ee ca cc va vc).aJ] (aj (bA b g) (DV m ca va)) (λv=>aA (v=cE) (bA b (jN g m))):=by
 refine bA.qD λr hok=>?_;have VD:=hok.l;refine ao (ρ:=[en.n b,en.p (dR b g r)]++m.env ca cc va vc) {fk:=[78,85,82],aF:=gF,bU:=gG,dN:=true,dv:=true,ck:=[78,85,82]} Ng Nf 24 ?_;intro y;refine⟨λh0=>⟨_,_,_,Xw rfl,?_⟩,λh0=>⟨λh8=>?_,λh8=>?_⟩⟩;rotate_left
 ·have e:jN g m=gV g:=by unfold jN;rw[aq h0,aB h8]
  rw[e];exact gz ((oN hp).aK (λR h H=>⟨r,hok,H⟩) λ_ _ _ h=>h) (.of λR h H=>⟨trivial,ai H⟩)
 ·have e:jN g m=mr g:=by unfold jN;rw[aq h0,aq h8]
  rw[e];exact gz (ku.aK (λR h H=>⟨r,hok,H⟩) λ_ _ _ h=>h) (.of λR h H=>⟨trivial,ai H⟩)
 let ES:=g.aZ.left.filter λu=> !decide (u=m.fr)
 let g':dX I.α:={g with aZ:={g.aZ with left:=ES}}
 have e:jN g m=g':=aB h0
 let K:=aj (HP.one b (.cells (dG g r).toArray 87 (0,0))) (aj (I.R r.rb g.rp) (aj (xj r.ov g.aZ.op) (aj (jQ r.av g.dH) (aj (sR r.mp g.bq) (aj (PL eI r.oa r.mm.length r.oc r.mm) (CRr g r))))))
 have t:=BI (aj (aj (dO y (m.ee ca cc va vc)) (DV m ca va)) K) r.la g.aZ.left.length r.lc g.aZ.left VD (.func (.func 88) #[] #[pt y]) rfl (λu=>decide (u=m.fr)) λu=>SM y m ca cc va vc u K;refine t.aK (λR h H=>?_) ?_
 ·exact HP.pick [aj (dO y (m.ee ca cc va vc)) (DV m ca va),HP.one b (.cells (dG g r).toArray 87 (0,0)),I.R r.rb g.rp,xj r.ov g.aZ.op,jQ r.av g.dH,sR r.mp g.bq,PL eI r.oa r.mm.length r.oc r.mm,kv r.la g.aZ.left.length r.lc g.aZ.left,CRr g r] [7,0,1,2,3,4,5,6,8] (by decide) rfl (ak H)
 ·rintro v R h ⟨c',rfl,H⟩
  let r':ru:={r with lc:=c'}
  have tZ:ES.length<=g.aZ.left.length:=List.length_filter_le _ _;have d8:EO g' r':=⟨hok.p,hok.pb,hok.y,hok.d,by show ES.length<=_;omega,hok.o,hok.os,hok.pn⟩;refine⟨r.la,ES.length,c',tt,CW b (dG g r).toArray (mS g' r'),m.fr,m.to,m.num,m.bV,m.kind,m.ep,m.at',m.cell.what,ca,m.cell.data.length,cc,m.cW ca,m.br,m.bw,va,m.val.length,vc,m.cI va,m.err,m.tail,m.low,m.back,rfl,?_,?_⟩
  ·refine aaT (iT (cs':=(dG g' r').toArray) afA rfl rfl rfl rfl) (bA b g') (λR h H=>Xv g' r' rfl d8 H λx hx=>ai hx) ?_;rw[e];exact .of λR h H=>⟨trivial,H⟩
  ·have H1:=HP.pick [kv r.la ES.length c' ES,aj (dO y (m.ee ca cc va vc)) (DV m ca va),HP.one b (.cells (dG g r).toArray 87 (0,0)),I.R r.rb g.rp,xj r.ov g.aZ.op,jQ r.av g.dH,sR r.mp g.bq,PL eI r.oa r.mm.length r.oc r.mm,CRr g r] [1,2,3,4,5,6,7,0,8] (by decide) rfl H;exact aW (ak H1)
end
section
variable {I:Nn}{b:Nat}{g:dX I.α}{r:ru}
theorem CI{l:List MS}{a:aG}{n c:Nat}(hw:WOk g l):az prog 96 #[pt b,.slice a n c] (aj (bA b g) (CF l a n c)) (λv=>aA (v=cE) (aj (bA b (lC g l)) tt)):=by
 refine(az.ex (A:=λes:List p9=>aA (es.map (·.m)=l/\es.length=n) (aj (bA b g) (PL eI a n c es))) λes=>az.pure λhe=>?_).aK (λR h ⟨h1,h2,d,l1,l2,H,⟨es,he,HL⟩⟩=>⟨es,he,h1,h2,d,l1,l2,H,HL⟩) λ_ _ _ h=>h;obtain⟨rfl,rfl⟩:=he;refine(SL a _ c es hw).bv (K:=tt) ?_ λv=>.of λR h H=>⟨(ai H).1,ae (ai H).2 (λ_ h=>h) λ_ _=>trivial⟩;refine λR h d H=>?_;obtain⟨R1,h1,q1,q2,q3,q4,H1⟩:=(HP.aT.aj (PL.eP (K:=Ge) (e:=64) (one:=Gf) _ _ _ _) (bA b g)) R h d (ak H);exact⟨R1,h1,q1,q2,q3,q4,aD (ak H1)⟩
def io(g:dX I.α):Prop:=match g.dH with
 |some a=>(a.st≠5->a.st≠6->ri a)/\(a.st=5->g.aZ.step≠3)
 |none=>if g.aZ.step=0 then True else if g.aZ.step=1 then zX g/\(∀o,g.aZ.op=some o->GK o)else if g.aZ.step=2 then afv g else True
def pz:Nat->dX I.α->Prop
 |0,_=>False
 |n+1,g=>g.busy=true->io g/\(∀g' l,fb I.F g=(g',some l)->WOk g' l)/\(∀g',fb I.F g=(g',none)->pz n g')
theorem ET{n:Nat}(h:g.busy=false):kq I.F (n+1) g=g:=aB h
theorem vm{n:Nat}(h:g.busy=true){g':dX I.α}{l:List MS}(e:fb I.F g=(g',some l)):kq I.F (n+1) g=lC g' l:=by
 show(if g.busy=false then g else _)=_;rw[aq (by rw[h];decide),e]
theorem CJ{n:Nat}(h:g.busy=true){g':dX I.α}(e:fb I.F g=(g',none)):kq I.F (n+1) g=kq I.F n g':=by
 show(if g.busy=false then g else _)=_;rw[aq (by rw[h];decide),e]
set_option maxHeartbeats 4000000 in
theorem EU(N:Nat)(hs:pz N g):az prog 45 #[pt b] (bA b g) (λv=>aA (v=cE) (bA b (kq I.F N g))):=by
 refine bA.od λr hok=>?_;refine az.cM (φ:=r.av.isSome=g.dH.isSome) (λR h H=>afu H) λhav=>?_;refine ao (ρ:=[.n b,.p (dR b g r)]) {fk:=[78,85,82],hv:=[(0,[(.b 0)])],aF:=gF,bU:=gG,dN:=true,dv:=true,ck:=[78,85,82]} nT mR 2 ?_
 let J:HP->Nat->Prop:=λP k=>∃(g':dX I.α) (r':ru),P=dR b g' r'/\EO g' r'/\pz k g'/\kq I.F N g=kq I.F k g'/\r'.av.isSome=g'.dH.isSome
 refine⟨λP=>∃k,J P k,λP=>cY (J P),⟨N,g,r,rfl,hok,hs,rfl,hav⟩,?_⟩;intro P hJ;have IF:=gr hJ;have hle:∀ {P' k},J P' k->k<cY (J P)->cY (J P')<cY (J P):=λh hk=>Nat.lt_of_le_of_lt (gm h) hk;generalize IG:cY (J P)=k at IF hle;obtain⟨g',r',rfl,d8,vz,he,afB⟩:=IF;clear hJ;rw[he];cases k with
 |zero=>exact vz.elim
 |succ k=>
 refine⟨g'.busy,Ki rfl,λhb=>?_,λhb=>?_⟩;rotate_left
 ·rw[ET (by simpa using hb)];exact .of λR h H=>⟨trivial,r',d8,H⟩
 obtain⟨hp,hw,hn⟩:=vz hb
 have iW:∀f:FuncId,az prog f #[pt b] (bA b g') (nU b (fb I.F g'))->az prog f #[pt b] (dR b g' r') (λv=>aE λa=>aE λn=>aE λc=>aE λP9=>aE λok=>aE λP11=>aA (v=.tuple #[.slice a n c,.bool ok]) (aA ((ok=true->az prog 96 #[pt b,.slice a n c] (aj P11 P9) λv=>aE λQ=>aE λQ2=>aA (v=cE) (aA (HP.aT Q (aA True (bA b (kq I.F (k+1) g')))) (aj Q Q2)))/\(¬ok=true->(∃k,J P11 k)/\cY (J P11)<cY (J (dR b g' r')))) (aj P9 P11))):=λf t=>by
  refine t.aK (λR h H=>⟨r',d8,H⟩) ?_;rintro v R h ⟨a,n,c,rfl,h1,h2,d,l1,l2,HG,r2,afC,HC⟩;have ajY:=afu HC;generalize hx:fb I.F g'=x at afC ajY HG HC hw hn⊢;obtain⟨g2,o⟩:=x;refine⟨a,n,c,CF (o.getD []) a n c,o.isSome,dR b g2 r2,rfl,⟨λho=>?_,λho=>?_⟩,h1,h2,d,l1,l2,HG,HC⟩
  ·obtain⟨l,rfl⟩:=Option.isSome_iff_exists.1 ho;exact sI ((CI (hw _ _ rfl)).aK (λR h H=>ae H (λ_ h=>⟨r2,afC,h⟩) λ_ h=>h) λ_ _ _ h=>h) (.of λR h H=>⟨trivial,by rw[vm hb hx];exact H⟩)
  ·obtain rfl:o=none:=by simpa using ho
   have Bq:J (dR b g2 r2) k:=⟨g2,r2,rfl,afC,hn _ rfl,by rw[he,CJ hb hx],ajY⟩;exact⟨⟨k,Bq⟩,by rw[IG];exact hle Bq (Nat.lt_succ_self k)⟩
 refine⟨_,EP rfl,_,Gj (by kernel_rfl) Np,λha=>?_,λha=>?_⟩
 ·obtain⟨a,ea⟩:∃a,g'.dH=some a:=Option.isSome_iff_exists.1 (by rw[<-afB];exact ha);unfold io at hp;rw[ea]at hp;have e:fb I.F g'=eJ g' a:=by unfold fb;rw[ea]
  exact iW _ (e▸CH ea hp.1 hp.2)
 have ea:g'.dH=none:=by
  cases h:g'.dH with
  |none=>rfl
  |some a=>rw[h]at afB;exact absurd afB ha
 unfold io at hp;rw[ea]at hp;dsimp only at hp;refine⟨g'.aZ.step,g8 rfl,λh0=>?_,λh0=>⟨g'.aZ.step,g8 rfl,λh1=>?_,λh1=>⟨g'.aZ.step,g8 rfl,λh2=>?_,λh2=>?_⟩⟩⟩
 ·have e:fb I.F g'=(g',some (An g')):=by unfold fb;rw[ea];exact aB h0
  refine Kl.wk ?_;rintro v R h ⟨a,n,c,rfl,H⟩;refine⟨a,n,c,CF (An g') a n c,rfl,sI ((CI (hw _ _ e)).aK (λR h H=>ae H (λ_ h=>⟨r',d8,h⟩) λ_ h=>h) λ_ _ _ h=>h) (.of λR h H=>⟨trivial,by rw[vm hb e];exact H⟩),H⟩
 ·rw[aq h0,aB h1]at hp;have e:fb I.F g'=il g':=by unfold fb;rw[ea];exact(aq h0).trans (aB h1)
  exact iW _ (e▸CG hp.1 hp.2)
 ·rw[aq h0,aq h1,aB h2]at hp;have e:fb I.F g'=gE I.F g':=by unfold fb;rw[ea];exact((aq h0).trans (aq h1)).trans (aB h2)
  exact iW _ (e▸GL hp)
 ·have e:fb I.F g'=ko g':=by unfold fb;rw[ea];exact((aq h0).trans (aq h1)).trans (aq h2)
  exact iW _ (e▸DK)
end
section
variable {I:Nn}{b:Nat}{g:dX I.α}{r:ru}
structure JOk(j:sK)(dc:Nat):Prop where
 y:j.pl.length<=1000000
 d:j.cell.data.length<=1000000/\j.cell.data.length<=dc
 l:j.left.length<=1000000
 o:j.op=none
set_option maxHeartbeats 2000000 in
theorem CK(N:Nat)(j:sK)(q:ru)(hj:JOk j q.dc)(hq:q.ov=none)(hn:0<=g.fQ/\g.fQ<=1000000000000)(hs:pz N (cK g j)):
 az prog 29 #[pt b,.agg (afo j q).toArray] (aj (bA b g) (aj (bE q.ya j.pl.length j.pl) (aj (bE q.da j.cell.data.length j.cell.data) (kv q.la j.left.length q.lc j.left))))
  (λv=>aA (v=cE) (bA b (kq I.F N (cK g j)))):=by
 refine bA.qD λr hok=>?_;refine(cC (ρ:=[.n b,.p (CW b (dG g r).toArray (aj (mS g r) (kv q.la j.left.length q.lc j.left))),.i j.i1,.i j.i2,.i j.i3,.i j.kind,.i j.step,.i j.fJ,.a q.ya,.n j.pl.length,.n q.yc,.p (bE q.ya j.pl.length j.pl),.i j.at',.i j.cell.what,.a q.da,.n j.cell.data.length,.n q.dc,.p (bE q.da j.cell.data.length j.cell.data),.v (.pointer q.ov),.p tt,.a q.la,.n j.left.length,.n q.lc,.p tt]) mixed Tryz.func29 GH ?_).aK (λR h H=>?_) λ_ _ _ h=>h;rotate_left
 ·have H1:=HP.pick [dR b g r,bE q.ya j.pl.length j.pl,bE q.da j.cell.data.length j.cell.data,kv q.la j.left.length q.lc j.left] [0,3,1,2] (by decide) rfl H;exact ae (aC H1) (λ_ h=>CW.Da h) λ_ h=>ae h (λ_ h=>h) λ_ h=>aD (show(aj (bE q.da j.cell.data.length j.cell.data) (aj tt tt)).p _ _ from ae (aD h) (λ_ h=>h) λ_ h=>aD h)|>λh=>ai h
 unfold EK;refine Iz ?_;intro _
 let g2:dX I.α:={g with fQ:=g.fQ+1,busy:=true}
 let r3:ru:={r with ya:=q.ya,yc:=q.yc,da:=q.da,dc:=q.dc,ov:=q.ov,la:=q.la,lc:=q.lc}
 have aoF:EO (cK g j) r3:=⟨hok.p,hok.pb,hj.y,hj.d,hj.l,hok.o,hok.os,hok.pn⟩;refine⟨g.fQ,g8 rfl,bh _ (by omega) (by omega),λ_=>qi (iT (cs':=(dG {g with fQ:=g.fQ+1} r).toArray) qr rfl rfl rfl rfl) ⟨g.node,g8 rfl,g.dz,g8 rfl,g.fQ+1,g8 rfl,qi (iT (cs':=(dG g2 r).toArray) GI rfl rfl rfl rfl) ?_⟩⟩
 refine opP (S2:=HP.both (bE q.ya j.pl.length j.pl) (bE q.da j.cell.data.length j.cell.data)) (λR h x H=>by
  have h1:=ai H;have h2:=ai (ah H);exact⟨h1,h2⟩)
  (Kj (vs:=[an g.node,an g.dz,an (g.fQ+1),an j.kind,an j.step,an j.fJ,.slice q.ya j.pl.length q.yc,an j.at',an j.cell.what,.slice q.da j.cell.data.length q.dc,.pointer q.ov,.slice q.la j.left.length q.lc]) (cs':=(dG (cK g j) r3).toArray) XA rfl rfl rfl rfl rfl) (bA b (cK g j)) (λR h H=>?_) ?_
 ·refine Xv (cK g j) r3 rfl aoF H λx hx=>?_;have hr:=ah hx;have H1:=HP.pick [kv q.la j.left.length q.lc j.left,I.R r.rb g.rp,xj r.ov g.aZ.op,jQ r.av g.dH,sR r.mp g.bq,PL eI r.oa r.mm.length r.oc r.mm,kv r.la g.aZ.left.length r.lc g.aZ.left,CRr g r] [1,2,3,4,5,0,7] (by decide) rfl (ak (ai hx));refine ae H1 (λ_ h=>h) λy hy=>ae hy (λz _=>?_) λz hz=>ae hz (λ_ h=>h) λu hu=>ae hu (λ_ h=>h) λw hw=>ae hw (λ_ h=>h) λp hp=>ae hp (λ_ h=>h) λp hp=>⟨hp.1,hr.1,hr.2,hp.2.2.2.1,hp.2.2.2.2⟩;show(xj q.ov j.op).p R z;rw[hj.o];exact hq
 ·exact gz (EU N hs) (.of λR h H=>⟨trivial,ai H⟩)
theorem EV(x:eK):(jM x).length=x.path.length+x.aL.length+x.data.length+33:=by
 unfold jM;simp[kh,jP,bF];omega
def gb(x:eK):sK:={DF with kind:=1,fJ:=gD x,pl:=jM x}
set_option maxHeartbeats 2000000 in
theorem At(x:eK)(a:aG)(c:Nat)(S:HP)(hr:bX S a x.data.length (x.data.map eX))(ha:x.data.length≠0->a.isSome=true)(hb:x.path.length<=100000/\x.aL.length<=100000/\x.data.length<=100000)(hn:0<=g.fQ/\g.fQ<=1000000000000)
 (hs:¬(g.busy=true\/g.waits=true)->px x=true->pz 9 (cK g (gb x))):
 az prog 8 #[pt b,x.val a c] (aj (bA b g) S) (λv=>aA (v=an (sL I.F g x).2) (aj (bA b (sL I.F g x).1) S)):=by
 refine bA.qD λr hok=>?_;refine ao (ρ:=[.n b,.p (dR b g r),.i x.kind,.s x.path,.s x.aL,.i x.off,.i x.n,.a a,.n x.data.length,.n c,.p S]) {fk:=[78,85,82],aF:=gF,bU:=gG,dN:=true,dv:=true,ck:=[78,85,82]} [(.ptr 0 0),(.agg afh)] afi 11 ?_;intro _
 have ret:∀ {z:dX I.α} {e:Int},sL I.F g x=(z,e)->z=g->HP.aT (aj (dR b g r) S) (aA (an e=an (sL I.F g x).2) (aj (bA b (sL I.F g x).1) S)):=λ{z e} h hz=>by
  subst hz;rw[h];exact .of λR h H=>⟨rfl,ae H (λ_ h=>⟨r,hok,h⟩) λ_ h=>h⟩
 refine⟨_,Ki rfl,λh1=>ret (aB (.inl h1)) rfl,λh1=>⟨_,Ki rfl,λh2=>ret (aB (.inr h2)) rfl,λh2=>?_⟩⟩;have nw:¬(g.busy=true\/g.waits=true):=λh=>h.elim h1 h2;have un:sL I.F g x=if px x=true then(kq I.F 9 (cK g (gb x)),0)else(g,1):=aq nw
 refine(Nk x a c S hr ha (by omega)).wk ?_;rintro v R h ⟨a1,c1,⟨rfl,Q3⟩,H⟩;have ha1:(jM x).length≠0->a1.isSome=true:=λhn=>bN.some (ai H) (by omega);refine⟨a1,_,c1,bE a1 (jM x).length (jM x),rfl,?_,H⟩;clear H;have hl:=EV x;refine(Cp a1 _ c1 (jM x) (bE a1 (jM x).length (jM x)) (bX.ro _ _ _ _) rfl Q3 ha1 (by omega)).wk ?_;rintro v R h H
 have un2:px x=match jx (jM x)with
  |some y=>J5 x y
  |none=>false:=rfl
 unfold qm at H;revert un2 H;cases jx (jM x)with
 |none=>
  rintro⟨rfl,H⟩ un2;rw[show px x=false from un2]at un;exact⟨_,_,_,_,_,none,0,0,tt,3,rfl,λ_=>⟨λ_=>ret un rfl,λh=>absurd h (by decide)⟩,aW H⟩
 |some y=>
  rintro⟨ya,yc,rfl,H⟩ un2;refine⟨y.kind,y.path,y.aL,y.off,y.n,ya,y.data.length,yc,dS ya y.data.length yc y.data,0,rfl,λ_=>⟨λh=>absurd rfl h,λ_=>?_⟩,H⟩;clear H;refine(Kh x y a ya c yc S (dS ya y.data.length yc y.data) hr (ow _ 1 _ _ _ _)).wk ?_;rintro v R h ⟨rfl,H⟩;refine⟨_,rfl,⟨λh3=>?_,λh3=>?_⟩,H⟩
  ·have h3:px x=false:=un2.trans (by simpa using h3);rw[h3]at un;exact ret un rfl
  clear H;have h3:px x=true:=un2.trans (by simpa using h3);rw[aB h3]at un;refine nt (g:=λx=>an x) (gD x) (Nj x a c S (by omega)) ?_
  let q:ru:={r with ya:=a1,yc:=c1,da:=none,dc:=0,ov:=none,la:=none,lc:=0}
  refine sI (Q2:=tt) ((CK 9 (gb x) q ⟨by show(jM x).length<=_;omega,⟨Nat.zero_le _,Nat.zero_le _⟩,Nat.zero_le _,rfl⟩ rfl hn (hs nw h3)).aK (λR h H=>ae H (λ_ h=>⟨r,hok,h⟩) λy hy=>bN.join hy (bN.join (h:=y) (bN.nil _ _ _ _) (bY.nil _ _ R y))) λv R h ⟨e,H⟩=>⟨e,aD H⟩) ?_;rw[un];exact .of λR h H=>⟨rfl,H⟩
end
theorem Nz(l:List (Int×MS))(k:Int):b9 (iw l k)=g7 (b9 l) k none:=funext λj=>by
 unfold g7
 induction l with
 |nil=>split<;>rfl
 |cons y l ih=>
  unfold iw at ih⊢;rw[List.filter_cons]
  by_cases e:y.1=k
  ·rw[aq (by simp[e]),ih,fK]
   by_cases ej:j=k
   ·rw[aB ej,aB ej]
   ·rw[aq ej,aq ej,aq (λh=>ej (h.symm.trans e))]
  ·rw[aB (by simp[e]),fK,fK,ih]
   by_cases ej:y.1=j
   ·rw[aB ej,aq (λh=>e (ej.trans h)),aB ej]
   ·rw[aq ej,aq ej]
section
variable {I:Nn}{b:Nat}{g:dX I.α}{r:ru}
theorem kZ.look{cs:dI}{l:List (Int×MS)}{al:AL Int}{cl:Nat}(k:Int){R h:PH}(H:(kZ b cs g r (b9 l) al cl).p R h):
 ∃(q:MS) (ca:aG) (cc:Nat) (va:aG) (vc:Nat),aM prog (mM 81 (.map (some r.mp)) (an k) true) (kZ b cs g r (b9 l) al cl) (.tuple #[.agg (q.ee ca cc va vc).aJ,.bool (b9 l k).isSome])/\
  ∀p,b9 l k=some p->q=p/\∀R h,(kZ b cs g r (b9 l) al cl).p R h->(q.cW ca).p R h/\(q.cI va).p R h:=by
 obtain⟨i,hi,z1⟩:=Option.bind_eq_some_iff.1 VU;have iV:=iO (r:=r.mp) (l:=al) (c:=cl) iK qX hi z1 k true (A:=kZ b cs g r (b9 l) al cl) λR h H=>aH.at (kZ.map H);cases hf:b9 l k with
 |none=>
  rw[aH.no (kZ.map H) hf]at iV;exact⟨gS,none,0,none,0,iV,λp hp=>by cases hp⟩
 |some m=>
  obtain⟨v,hv,ca,cc,va,vc,⟨rfl,_⟩,_⟩:=aH.Dp (kZ.map H) Aq.iF hf h;rw[hv]at iV;refine⟨m,ca,cc,va,vc,iV,λp hp=>⟨Option.some.inj hp,λR h H=>?_⟩⟩;obtain⟨v',C6,ca',Zs,Mc,Tt,⟨e,_⟩,hD,hV⟩:=aH.Dp (kZ.map H) Aq.iF hf h;rw[hv]at C6;have e1:=Option.some.inj C6;rw[e]at e1;simp[MR.aJ]at e1;obtain⟨⟨rfl,rfl⟩,rfl,rfl⟩:=e1;exact⟨hD,hV⟩
structure XG(g:dX I.α)(m:MS):Prop where
 a:∀a,g.dH=some a->mO a
 t:g.dH=none->g.aZ.step=0->zX g
 n:g.dH=none->g.aZ.step=3->zX g
 o:g.dH=none->g.aZ.step≠0->g.aZ.step≠3->∃o,g.aZ.op=some o/\0<=o.place/\o.place<=1000000000
 s:∀a',(∀a,g.dH=some a->qW a m a')->pz 9 (fx g m a')
def mw(g:dX I.α)(m:MS):Bool:=match b9 g.bq m.fr with
 |none=>false
 |some q=>dM m q
theorem Kq{m:MS}(h:mw g m=false)(a':cg):zD I.F g m a'=g:=by
 unfold zD;unfold mw at h;cases e:b9 g.bq m.fr with
 |none=>rfl
 |some q=>rw[e]at h;exact aq (by rw[show dM m q=false from h];decide)
theorem yM{m:MS}(h:mw g m=true)(a':cg):zD I.F g m a'=kq I.F 9 (fx {g with bq:=iw g.bq m.fr} m a'):=by
 unfold zD;unfold mw at h;cases e:b9 g.bq m.fr with
 |none=>rw[e]at h;cases h
 |some q=>rw[e]at h;exact aB h
set_option maxHeartbeats 4000000 in
theorem EW(m:MS)(ca:aG)(cc:Nat)(va:aG)(vc:Nat)(hm:m.small)(hT:mw g m=true->XG {g with bq:=iw g.bq m.fr} m):
 az prog 19 #[pt b,.agg (m.ee ca cc va vc).aJ] (aj (bA b g) (DV m ca va)) (λv=>aE λa'=>aA (v=cE/\(mw g m=true->∀a,g.dH=some a->qW a m a')) (bA b (zD I.F g m a'))):=by
 refine bA.qD λr hok=>?_;refine az.cM (φ:=r.av.isSome=g.dH.isSome) (λR h H=>afu (ai H)) λhav=>?_;refine(az.ex (A:=λal=>aE λcl=>aj (kZ b (dG g r).toArray g r (b9 g.bq) al cl) (DV m ca va)) λal=>az.ex λcl=>?_).aK (λR h H=>kZ.dN H) λ_ _ _ h=>h;refine az.cM (λR h H=>kZ.look m.fr (ai H)) λ⟨q,qca,qcc,qva,qvc,iV,hq⟩=>?_;refine ao (ρ:=[en.n b,en.p (kZ b (dG g r).toArray g r (b9 g.bq) al cl)]++m.env ca cc va vc) {fk:=[78,85,82],aF:=gF,bU:=gG,dN:=true,dv:=true,ck:=[78,85,82]} Ng Nf 24 ?_
 have back:mw g m=false->HP.aT (aj (kZ b (dG g r).toArray g r (b9 g.bq) al cl) (aj (m.cW ca) (m.cI va))) (aE λa'=>aA (True/\(mw g m=true->∀a,g.dH=some a->qW a m a')) (bA b (zD I.F g m a'))):=λh=>.of λR y H=>⟨jk g.aQ g.cL 0,⟨trivial,λh'=>by rw[h]at h';cases h'⟩,by
  rw[Kq h];exact⟨r,hok,cls (l:=g.bq) (ai H)⟩⟩
 intro x;refine⟨r.mp,CE rfl,q.fr,q.to,q.num,q.bV,q.kind,q.ep,q.at',q.cell.what,qca,q.cell.data.length,qcc,q.br,q.bw,qva,q.val.length,qvc,q.err,q.tail,q.low,q.back,_,iV,λx2=>⟨λh1=>?_,λh1=>?_⟩⟩
 ·refine back ?_;unfold mw;have:b9 g.bq m.fr=none:=by simpa using h1
  rw[this]
 obtain⟨p,hp⟩:∃p,b9 g.bq m.fr=some p:=Option.isSome_iff_exists.1 (by simpa using h1);obtain⟨rfl,hDV⟩:=hq p hp;have A4:mw g m=dM m q:=by unfold mw;rw[hp]
 refine(Xs m q ca cc va vc qca qcc qva qvc x _ hDV).wk ?_;rintro v R h ⟨rfl,H⟩;refine⟨_,rfl,⟨λh2=>back (A4.trans (by simpa using h2)),λh2=>⟨r.mp,CE rfl,?_⟩⟩,H⟩;clear H;have A4:mw g m=true:=A4.trans (by simpa using h2);have hT:=hT A4;refine(acY m.fr 0).wk ?_;rintro v R h ⟨rfl,H⟩
 let g1:dX I.α:={g with bq:=iw g.bq m.fr}
 have rB:EO g1 r:=⟨hok.p,hok.pb,hok.y,hok.d,hok.l,hok.o,hok.os,Nat.le_trans (List.length_filter_le _ _) hok.pn.1,List.Sublist.nodup (List.Sublist.map _ List.filter_sublist) hok.pn.2.1,λy hy=>hok.pn.2.2 y (List.mem_filter.1 hy).1⟩;refine⟨dR b g1 r,rfl,?_,cls (l:=iw g.bq m.fr) (by rw[Nz];exact H)⟩;clear H
 have iW:∀a',(∀a,g.dH=some a->qW a m a')->∀X:HP,az prog 45 #[pt b] (bA b (fx g1 m a')) λv=>aE λQ'=>aA (v=cE) (aA (HP.aT (aj Q' X) (aE λa'=>aA (True/\(mw g m=true->∀a,g.dH=some a->qW a m a')) (bA b (zD I.F g m a')))) Q'):=λa' Fw X=>
  gz (EU 9 (hT.s a' Fw)) (.of λR h H=>⟨a',⟨trivial,λ_=>Fw⟩,by rw[yM A4];exact ai H⟩)
 refine⟨_,EP rfl,_,Gj (by kernel_rfl) Np,λha=>⟨_,EP rfl,?_⟩,λha=>?_⟩
 ·obtain⟨a,ea⟩:∃a,g.dH=some a:=Option.isSome_iff_exists.1 (by rw[<-hav];exact ha)
  have told:=kr (ty:=87) (b:=b) (cs:=(dG g1 r).toArray) (L:=EQ g1 r) (k:=2) (K:=DV m ca va) (γ:=cg) (X:=jQ r.av (some a)) (X':=λa'=>jQ r.av (some a')) (P:=λ_=>tt) (φ:=λv a'=>v=cE/\qW a m a') (by unfold EQ;rw[show g1.dH=some a from ea];rfl)
   (jQ.qD (args:=λp=> #[p,.agg (m.ee ca cc va vc).aJ]) (K:=DV m ca va) (φ:=λv a'=>v=cE/\qW a m a') (P:=λ_=>tt) λab=>(Xq ab a m ca cc va vc (hT.a a ea) (by have:=hm.2;omega) (m.cW ca)).wk λv R h ⟨g',e,H⟩=>⟨g',e,aD H⟩)
  refine told.wk ?_;rintro v R h ⟨a',⟨rfl,ht⟩,H⟩;refine⟨dR b {g1 with dH:=some a'} r,tt,tt,rfl,?_,ae H (λ_ h=>h) λ_ _=>aD trivial⟩;have e1:fx g1 m a'={g1 with dH:=some a'}:=by unfold fx;rw[show g1.dH=some a from ea]
  exact(iW a' (λa2 h2=>by rw[ea]at h2;cases h2;exact ht) _).aK (λR h H=>by rw[e1];exact⟨r,⟨rB.p,rB.pb,rB.y,rB.d,rB.l,rB.o,rB.os,rB.pn⟩,H⟩) λ_ _ _ h=>h
 have ea:g.dH=none:=by
  cases h:g.dH with
  |none=>rfl
  |some a=>rw[h]at hav;exact absurd hav ha
 have ht0:∀a,g.dH=some a->qW a m (jk g.aQ g.cL 0):=λa h=>by rw[ea]at h;cases h
 have hT':=hT.s _ ht0;refine⟨g1.aZ.step,g8 rfl,λh0=>?_,λh0=>⟨g1.aZ.step,g8 rfl,λh3=>?_,λh3=>⟨_,xm rfl,?_⟩⟩⟩
 ·have e1:fx g1 m (jk g.aQ g.cL 0)=kY g1 m:=by unfold fx;rw[show g1.dH=none from ea];exact aB h0
  refine(Nu (g:=g1) (hT.t ea h0) m ca cc va vc).aK (λR h H=>ae H (λ_ h=>⟨r,rB,h⟩) λ_ h=>h) ?_;rintro v R h ⟨rfl,H⟩;exact⟨bA b (kY g1 m),m.cW ca,m.cI va,rfl,e1▸iW _ ht0 _,H⟩
 ·have e1:fx g1 m (jk g.aQ g.cL 0)=jN g1 m:=by unfold fx;rw[show g1.dH=none from ea];exact(aq h0).trans (aB h3)
  refine(GO (g:=g1) (hT.n ea h3) m ca cc va vc).aK (λR h H=>ae H (λ_ h=>⟨r,rB,h⟩) λ_ h=>h) ?_;rintro v R h ⟨rfl,H⟩;exact⟨bA b (jN g1 m),tt,tt,rfl,e1▸iW _ ht0 _,ae (aD H) (λ_ h=>h) λ_ h=>aD h⟩
 ·obtain⟨o,ho,Pd⟩:=hT.o ea h0 h3;have e1:fx g1 m (jk g.aQ g.cL 0)=g1.bf (some (ia o m)):=by unfold fx;rw[show g1.dH=none from ea];exact((aq h0).trans (aq h3)).trans (by rw[ho];rfl)
  have told:=kr (ty:=87) (b:=b) (cs:=(dG g1 r).toArray) (L:=EQ g1 r) (k:=1) (K:=DV m ca va) (γ:=Unit) (X:=xj r.ov (some o)) (X':=λ_=>xj r.ov (some (ia o m))) (P:=λ_=>DV m ca va) (φ:=λv _=>v=cE) (by unfold EQ;rw[ho];rfl)
   (xj.qD (args:=λp=> #[p,.agg (m.ee ca cc va vc).aJ]) (K:=DV m ca va) (γ:=Unit) (o':=λ_=>ia o m) (φ:=λv _=>v=cE) (P:=λ_=>DV m ca va) λob=>(WV ob o m ca cc va vc Pd (by have:=hm.1;omega)).wk λv R h ⟨e,H⟩=>⟨(),e,H⟩)
  refine told.wk ?_;rintro v R h ⟨_,rfl,H⟩;refine⟨dR b (g1.bf (some (ia o m))) r,m.cW ca,m.cI va,rfl,?_,H⟩;exact(iW _ ht0 _).aK (λR h H=>by rw[e1];exact⟨r,⟨rB.p,rB.pb,rB.y,rB.d,rB.l,rB.o,rB.os,rB.pn⟩,H⟩) λ_ _ _ h=>h
end
theorem XH:prog.info? 3=some (prog.info? 3).get!:=by kernel_rfl
theorem aa3{ty:TypeId}(m:Nat)(h0:0<m)(hb:m<=1000000000)(A:HP):
 aR prog (Q0 #[23,3] ty (.slice none 0 0) (an (m:Int))) A
  (λv=>aE λx=>aE λc=>aA (v=.slice (some ⟨x,0,none⟩) m c) (aj (kv (some ⟨x,0,none⟩) m c (List.replicate m 0)) A)):=λw R h F s a=>by
 obtain⟨i,hi,h1,h2,h3⟩:=info_parts jS;have hr:=Lib.run_append_nil_zeros (P:=prog) w 23 3 ty 3 i (an 0) .i64 .i64 Ba OR hi h1 m h0 (by omega) (by omega) (by rw[h3];omega);have s0:Sat w.drew R h F:=s.drew _;obtain⟨s1,d1⟩:=s0.alloc (.cells (Builtin.zeroCells (an 0).cells m++Builtin.zeroCells (an 0).cells (grownCap w m 0 3 - m)) 3 (0,0));have Q3:=grownCap_ge w m 0 3;have vO:Same w (w.drew.alloc (.cells (Builtin.zeroCells (an 0).cells m++Builtin.zeroCells (an 0).cells (grownCap w m 0 3 - m)) 3 (0,0))):=Same.trans (b:=w.drew) ⟨rfl,rfl,rfl,Nat.le_refl _⟩ (Same.alloc w.drew _);refine⟨_,_,_,by unfold Q0;rw[Sem.run_bind,hr];rfl,rfl,vO,R,_,PH.le.refl _,s1,w.heap.size,_,rfl,_,_,d1,PH.dC _ _,PH.cP d1,⟨by simp,.inr ⟨_,_,rfl,PH.cX _ _,Q3,grownCap_le_maxLen _ _ _ _ (by unfold maxLen;omega),?_,?_⟩⟩,a⟩
 ·rw[show(an 0).cells= #[an 0]from rfl,Array.size_append,Ad,Ad];omega
 ·rw[show(an 0).cells= #[an 0]from rfl,Array.toList_append,Nat.mul_one,List.take_left' (Vn _ _),Vo,List.map_replicate];rfl
theorem XI(m:Nat)(hb:m<=1000000000):
 az prog 117 #[.slice none 0 0,an (m:Int)] tt (λv=>aE λa=>aE λc=>aA (v=.slice a 0 c) (kv a 0 c [])):=by
 refine ao (ρ:=[.a none,.n 0,.n 0,.p tt,.i m]) {dN:=true} [(.s 0),4] Ny 5 ?_;refine⟨λh=>absurd h (by omega),λ_=>⟨bh _ (by omega) (by omega),λ_=>⟨bh _ (by omega) (by omega),λ_=>⟨λhm=>?_,λhm=>?_⟩⟩⟩⟩
 ·refine⟨none,0,0,?_,?_⟩
  ·rw[jc];exact gp Ba XH tt none 0 0 none (some 0) none (Nat.le_refl _) (Nat.le_refl _) (Nat.le_refl _) (λh=>by cases h)
  ·rw[IU (by decide),show((m:Int) - ((0:Nat) - (0:Nat):Int))=(m:Int) by omega];refine(aa3 m (by omega) hb tt).wk ?_;rintro v R h ⟨x,c,rfl,H⟩;have hle:=bY.le (ai H);refine⟨some ⟨x,0,none⟩,m,c,kv (some ⟨x,0,none⟩) m c (List.replicate m 0),tt,rfl,⟨some ⟨x,0,none⟩,0,c,?_,?_⟩,H⟩
   ·rw[jc]
    have h2:aM prog (i6 23 (.slice (some ⟨x,0,none⟩) m c) (iv none) (iv (some 0)) (iv none)) (kv (some ⟨x,0,none⟩) m c (List.replicate m 0)) (.slice (some ⟨x,0,none⟩) 0 c):=by
     simpa[addr_add]using gp Ba XH (kv (some ⟨x,0,none⟩) m c (List.replicate m 0)) (some ⟨x,0,none⟩) m c none (some 0) none (Nat.le_refl _) (Nat.zero_le _) (Nat.le_refl _) (λh=>by cases h)
    exact h2
   ·refine .of λR h H=>⟨some ⟨x,0,none⟩,c,rfl,?_⟩;obtain⟨hl,h'⟩:=ah H;rcases h' with⟨e,_⟩|⟨g,cur,e,hg,q1,q2,q3,q4⟩
    ·cases e
    ·exact⟨by simp,.inr ⟨g,cur,e,hg,Nat.zero_le _,q2,q3,by simp⟩⟩
 ·exact .of λR h H=>⟨none,0,rfl,bY.nil _ _ R h⟩
def kA(es:List ky):List Int:=(es.map (·.l)).flatten
set_option maxHeartbeats 1000000 in
theorem NA(S:HP)(a:aG)(n c:Nat)(es:List ky)(hS:∀R h,S.p R h->(Ls ip a n es).p R h)(hb:(kA es).length<=1000000/\es.length<=1000000)(hne:∀x∈es,x.l≠[]):
 az prog 69 #[.slice a n c] S (λv=>aE λa'=>aE λc'=>aA (v=.slice a' (kA es).length c') (aj (kv a' (kA es).length c' (kA es)) S)):=by
 refine az.cM (φ:=es.length=n/\(n≠0->a.isSome=true)/\∀x∈es,x.a.isSome=true) (λR h H=>⟨(hS R h H).1,λhn=>Ls.isSome (hS R h H) hn,λx hx=>bN.some (Ls.mem (hS R h H) hx) (by have:=List.length_pos_iff.2 (hne x hx);omega)⟩) λ⟨hl,ha,hs⟩=>?_;subst hl;obtain⟨hb,Tk⟩:=hb
 have tk:∀k,k<es.length->kA (es.take (k+1))=kA (es.take k)++((es[k]?.map (·.l)).getD []):=λk hk=>by
  unfold kA;rw[List.take_succ_eq_append_getElem hk,List.map_append,List.flatten_append,List.getElem?_eq_getElem hk];simp
 have le:∀k,(kA (es.take k)).length<=(kA es).length:=λk=>by
  conv=>rhs;rw[<-List.take_append_drop k es]
  unfold kA;rw[List.map_append,List.flatten_append,List.length_append];omega
 refine ao (ρ:=[.a a,.n es.length,.n c,.p S]) {hv:=[(2,[(.a 6)])]} [(.s 0)] Ny 4 ?_;refine⟨λx i=>∃k:Nat,i=k/\k<=es.length/\x=((kA (es.take k)).length:Int),λ_ i=>es.length - i.toNat,⟨0,rfl,Nat.zero_le _,rfl⟩,?_⟩;rintro _ _ ⟨k,rfl,hk,rfl⟩;refine⟨λhlt=>⟨by omega,λ_=>⟨ha (by omega),λ_=>?_⟩⟩,λlH=>?_⟩
 ·have ki:k<es.length:=by omega
  have hx:es[k]? =some es[k]:=List.getElem?_eq_getElem ki;have t1:=tk k ki;have t2:=le (k+1);rw[hx]at t1;generalize es[k]=x at hx t1;have t3:(kA (es.take (k+1))).length=(kA (es.take k)).length+x.l.length:=by rw[t1,List.length_append];rfl
  exact⟨x.a,x.l.length,x.c,ldC hS hx,bh _ (show(-9223372036854775808:Int)<=_ by omega) (show _<=(9223372036854775807:Int) by omega),λ_=>⟨λh=>absurd h (by omega),λ_=>⟨bh _ (by omega) (by omega),λ_=>⟨⟨k+1,by omega,by omega,by rw[t3];omega⟩,by dsimp only;omega⟩⟩⟩⟩
 ·obtain rfl:k=es.length:=by omega
  rw[List.take_length];refine(XI (kA es).length (by omega)).wk ?_;rintro v R h ⟨a1,c1,rfl,H⟩;refine⟨a1,0,c1,kv a1 0 c1 [],rfl,?_,H⟩;clear H;refine⟨λa n c i p=>∃k:Nat,i=k/\k<=es.length/\n=(kA (es.take k)).length/\HP.aT p (kv a n c (kA (es.take k))),λ_ _ _ i _=>es.length - i.toNat,⟨0,rfl,Nat.zero_le _,rfl,.refl _⟩,?_⟩;rintro a2 _ c2 _ p ⟨k,rfl,hk,rfl,hp⟩;refine⟨λhlt=>⟨by omega,λ_=>⟨ha (by omega),λ_=>?_⟩⟩,λlH=>?_⟩
  ·have ki:k<es.length:=by omega
   have hx:es[k]? =some es[k]:=List.getElem?_eq_getElem ki;have t1:=tk k ki;have t2:=le (k+1);rw[hx]at t1;generalize es[k]=x at hx t1;have t3:(kA (es.take (k+1))).length=(kA (es.take k)).length+x.l.length:=by rw[t1,List.length_append];rfl
   refine⟨x.a,x.l.length,x.c,ldC hS hx,?_⟩;refine(IW a2 (kA (es.take k)).length c2 (kA (es.take k)) S x.a x.l.length x.c x.l (EJ λR h H=>Ls.mem (hS R h H) (List.mem_of_getElem? hx)) rfl (hs x (List.mem_of_getElem? hx)) (by omega)).bv ((HP.aT.aj hp S).trans (.of λ_ _=>aD)) λv=>.of λR h H=>?_;obtain⟨a',c',rfl,H'⟩:=ai H;refine⟨a',_,c',kv a' ((kA (es.take k)).length+x.l.length) c' (kA (es.take k)++x.l),rfl,⟨bh _ (by omega) (by omega),λ_=>⟨⟨k+1,by omega,by omega,by rw[t3],by rw[t1];exact .refl _⟩,by dsimp only;omega⟩⟩,H'⟩
  ·obtain rfl:k=es.length:=by omega
   rw[List.take_length]at hp⊢;exact((HP.aT.refl S).gX hp).trans (.of λR h H=>⟨a2,c2,rfl,ak H⟩)
theorem Kr(a:aG)(n c:Nat)(l:List Int)(hb:n<=1000000)(hd:∀i x y,l[i]? =some x->l[i+1]? =some y->x≠y):
 az prog 71 #[.slice a n c] (kv a n c l) (λv=>aA (v=.slice a n c) (kv a n c l)):=by
 refine az.cM (φ:=l.length=n/\(n≠0->a.isSome=true)) (λR h H=>⟨by have:=H.1;simpa using this,λhn=>bY.some H (by omega)⟩) λ⟨hl,ha⟩=>?_;refine ao (ρ:=[.a a,.n n,.n c,.p (kv a n c l)]) {hv:=[(2,[(.a 0)])],dN:=true,dv:=true} [(.s 0)] Ny 4 ?_;refine⟨λ_=>.of λR h H=>⟨trivial,H⟩,λh2=>?_⟩;refine⟨λi _ _ _ P=>∃k:Nat,i=k/\1<=k/\k<=n,λi _ _ _ _=>n - i.toNat,⟨1,rfl,Nat.le_refl _,by omega⟩,?_⟩;rintro _ a' n' c' P ⟨k,rfl,h1,hk⟩;refine⟨λhlt=>⟨by omega,λ_=>⟨ha (by omega),λ_=>?_⟩⟩,λ_=>.of λR h H=>⟨trivial,H⟩⟩;have e1:l[k]? =some (l[k]'(by omega)):=List.getElem?_eq_getElem _;have e0:l[k - 1]? =some (l[k - 1]'(by omega)):=List.getElem?_eq_getElem _;have hne:=hd (k - 1) _ _ e0 (by rw[show k - 1+1=k by omega];exact e1);generalize l[k]'(by omega)=y at*;generalize l[k - 1]'(by omega)=x at*;have rd:=bY.rd 3 1 a n c (l.map cr);have r2:=ldI rd e0;rw[show((k - 1:Nat):Int).toNat=((k:Int) - 1).toNat by omega]at r2;exact⟨y,ldI rd e1,bh _ (by omega) (by omega),λ_=>⟨by omega,λ_=>⟨by omega,λ_=>⟨x,r2,λh=>absurd h.symm hne,λ_=>⟨bh _ (by omega) (by omega),λ_=>⟨⟨k+1,by omega,by omega,by omega⟩,by dsimp only;omega⟩⟩⟩⟩⟩⟩
def mT(p:rx):List Int:=p.ch.flatten.mergeSort λx y=>decide (x<=y)
theorem Ks{l:List Int}(h:(l.mergeSort λx y=>decide (x<=y))=l\/True)(hn:l.Nodup):∀i x y,l[i]? =some x->l[i+1]? =some y->x≠y:=λi x y h1 h2 e=>by
 obtain⟨q1,rfl⟩:=List.getElem?_eq_some_iff.1 h1;obtain⟨q2,rfl⟩:=List.getElem?_eq_some_iff.1 h2;have:=(List.getElem_inj hn).1 e;omega
theorem GP(S:HP)(ep:Int)(a:aG)(n c:Nat)(es:List ky)(hS:∀R h,S.p R h->(Ls ip a n es).p R h)(hr:dw ⟨ep,es.map (·.l)⟩=true):
 az prog 33 #[.agg #[an ep,.slice a n c]] S (λv=>aE λa'=>aE λc'=>aA (v=.slice a' (mT ⟨ep,es.map (·.l)⟩).length c') (aj (kv a' (mT ⟨ep,es.map (·.l)⟩).length c' (mT ⟨ep,es.map (·.l)⟩)) S)):=by
 have hR:=nH hr;have hl:(kA es).length<=7:=CD hR.nd hR.rg;refine ao (ρ:=[.i ep,.a a,.n n,.n c,.p S]) {fk:=[78,85,82],aF:=gF,bU:=gG,dN:=true,dv:=true,ck:=[78,85,82]} [(.agg [0,(.s 1)])] Ni 5 ?_;intro _;refine(NA S a n c es hS ⟨by omega,by have:=hR.L8;rw[List.length_map]at this;omega⟩ λx hx=>hR.ne x.l (List.mem_map.2 ⟨x,hx,rfl⟩)).wk ?_;rintro v R h ⟨a1,c1,rfl,H⟩;refine⟨a1,_,c1,kv a1 (kA es).length c1 (kA es),S,rfl,?_,H⟩;clear H;refine(uZ (enc:=cr) (λ_=>rfl) (λblk off cap zs w hH hb hz=>Tryz.slices_Sort_int blk off cap zs w hH hb hz) (λp cap w=>Tryz.slices_Sort_int_none p cap w) a1 c1 (kA es) (by omega)).wk ?_;rintro v R h ⟨rfl,H⟩;have hm:(mT ⟨ep,es.map (·.l)⟩).length=(kA es).length:=List.length_mergeSort _;refine⟨kv a1 (kA es).length c1 (mT ⟨ep,es.map λx:ky=>x.l⟩),rfl,?_,H⟩;clear H;have iZ:(mT ⟨ep,es.map (·.l)⟩).Nodup:=(List.mergeSort_perm _ _).nodup_iff.2 hR.nd;refine(Kr a1 (kA es).length c1 (mT ⟨ep,es.map (·.l)⟩) (by omega) (Ks (.inr trivial) iZ)).wk ?_;rintro v R h ⟨rfl,H⟩;exact⟨a1,_,c1,kv a1 (kA es).length c1 (mT ⟨ep,es.map (·.l)⟩),tt,rfl,.of λR h H=>⟨a1,c1,by rw[hm],by rw[hm];exact ak H⟩,aD H⟩
theorem PL.bU{α:Type}{K:PK α}{f:FuncId}{args:dI}{a:aG}{n c:Nat}{l:List α}{k:Nat}{x:α}(hk:l[k]? =some x){S:HP}{γ:Type}{φ:Value->γ->Prop}{y:γ->α}{Q:γ->HP}(he:∀z,K.aJ (y z)=K.aJ x)
 (t:az prog f args (aj (K.bV x) S) (λv=>aE λz=>aA (φ v z) (aj (K.bV (y z)) (Q z)))):
 az prog f args (aj (PL K a n c l) S) (λv=>aE λz=>aA (φ v z) (aj (PL K a n c (l.set k (y z))) (Q z))):=by
 refine(t.frame (rW K a n c l k)).aK (λR h H=>?_) λv R h ⟨h1,h2,d,l1,l2,⟨z,e,H⟩,HU⟩=>⟨z,e,?_⟩
 ·have H1:=au (ae H (λ_ h=>PL.jK hk h) λ_ h=>h);exact aC (HP.pick [K.bV x,rW K a n c l k,S] [0,2,1] (by decide) rfl H1)
 ·have H1:=au ⟨h1,h2,d,l1,l2,H,HU⟩;have H2:=HP.pick [K.bV (y z),Q z,rW K a n c l k] [2,0,1] (by decide) rfl H1;exact ae (aC H2) (λ_ h=>PL.join hk (he z) h) λ_ h=>h
theorem PW.part{ty:TypeId}{b:Nat}{cs:dI}{L:List HP}{k:Nat}{X:HP}(hk:L[k]? =some X){R h:PH}(H:(PW ty b cs (cw L)).p R h):X.p R h:=ai (ai (CW.jK (K:=tt) hk (aD H)))
variable {b:Nat}
theorem aoG{α:Type}{K:PK α}{t:TypeId}{i:TypeInfo}{z:Value}(ht:prog.underlying t=some (.slice K.e))(hi:prog.info? K.e=some i)(hz:i.zero=some z)(hzs:z.cells.size=i.size)(hs:i.size=K.n)(hby:i.bytes<=1000)
 {tw:TypeId} {cs:dI} {L:List HP} {j:Nat} {a:aG} {n c:Nat} {l:List α} (hj:L[j]? =some (PL K a n c l)) (x:Nat) (y:α) (Q:HP) (hb:n<=1000000000):
 aR prog (o4 t t (.slice a n c) (.slice (some ⟨x,0,none⟩) 1 1)) (aj (PW tw b cs (cw L)) (aj (HP.one x (.cells (K.aJ y).toArray K.e (0,0))) (aj (K.bV y) Q)))
  (λv=>aE λa'=>aE λc'=>aA (v=.slice a' (n+1) c') (aj (PL K a' (n+1) c' (l++[y])) (aj (PW tw b cs (cw (L.set j tt))) (aj (HP.one x (.cells (K.aJ y).toArray K.e (0,0))) Q)))):=by
 have st:=Vb (K:=K) t t ht hi hz hzs hs hby a n c l x y Q hb;refine(qY (ty:=tw) (b:=b) (cs:=cs) (L:=L) (k:=j) (K:=aj (HP.one x (.cells (K.aJ y).toArray K.e (0,0))) (aj (K.bV y) Q)) (γ:=aG×Nat) (X:=PL K a n c l) (X':=λ_=>tt) (P:=λq=>aj (PL K q.1 (n+1) q.2 (l++[y])) (aj (HP.one x (.cells (K.aJ y).toArray K.e (0,0))) Q)) (φ:=λv q=>v=.slice q.1 (n+1) q.2) hj (st.wk λv R h ⟨a',c',e,H⟩=>⟨(a',c'),e,aW H⟩)).wk ?_;rintro v R h ⟨⟨a',c'⟩,e,H⟩;refine⟨a',c',e,?_⟩;have H1:=ae H (λ_ h=>h) λ_ h=>ak h;exact HP.pick [PW tw b cs (cw (L.set j tt)),aj (HP.one x (.cells (K.aJ y).toArray K.e (0,0))) Q,PL K a' (n+1) c' (l++[y])] [2,0,1] (by decide) rfl H1
theorem aoH{tw:TypeId}{cs:dI}{L:List HP}{j:Nat}{X:HP}(hj:j<L.length){R h:PH}(H:(PW tw b cs (aj (cw (L.set j tt)) X)).p R h):(PW tw b cs (cw (L.set j X))).p R h:=by
 have hk:(L.set j tt)[j]? =some tt:=by rw[List.getElem?_set_self hj]
 have H1:=CW.jK (L:=L.set j tt) (k:=j) (X:=tt) hk (ajM H);have H2:=CW.lX (L:=L.set j tt) (k:=j) (X:=tt) hk (ae H1 (λ_ h=>ak h) λ_ h=>h);rw[List.set_set]at H2;exact ai H2
theorem ajZ{ty:TypeId}{o:Sem Next}{cs cs':dI}{Q S:HP}{K:HP->Prop}(t:aR prog o (PW ty b cs Q) λv=>aA (v=cE) (PW ty b cs' Q))(X:HP)(w:∀R h,(PW ty b cs' (aj Q S)).p R h->X.p R h)(k:K X):aR prog o (aj (PW ty b cs Q) S) λv=>aE λQ'=>aA (v=cE) (aA (K Q') Q'):=
 (t.frame S).wk λ_ R h ⟨h1,h2,d,l1,l2,⟨e,H⟩,HS⟩=>⟨X,e,k,w R h (CW.Da ⟨h1,h2,d,l1,l2,H,HS⟩)⟩
end
namespace RX
def nV:=(({aF:=[72,68,67,226,259,231,27,261]}:jo).aF)
abbrev vo:Hp:=[(.b 0,1)]
abbrev XJ:Hp:=[(.b 0,1),(9,12)]
abbrev CL:List W:=[(.ptr 0 0)]
abbrev afD:List A:=[5,(.str 6),(.str 7),8,9,(.s 10)]
abbrev XK:List W:=[(.ptr 0 0),2,(.agg [3,4,5,6,7,8,(.s 9)])]
abbrev aa4:Hp:=[(.b 0,1),(10,13)]
end RX
section
open RX
structure KeM where
 at':Int
 id:rl
 c:eK
structure TB where
 m:KeM
 a:aG
 n:Nat
def TB.aJ(x:TB):List Value:=[an x.m.at',an x.m.id.1,an x.m.id.2.1,an x.m.id.2.2,an x.m.c.kind,sE x.m.c.path,sE x.m.c.aL,an x.m.c.off,an x.m.c.n,.slice x.a x.m.c.data.length x.n]
def kKe:o5 TB:=⟨10,by decide,TB.aJ,λ_=>rfl,λx=>bE x.a x.m.c.data.length x.m.c.data,λ_ _ _ _ H=>H⟩
theorem aa5:∀x,∀u∈kKe.aJ x,u.oneCell'=true:=λx u hu=>by
 simp only[kKe,TB.aJ,List.mem_cons,List.not_mem_nil,or_false]at hu;rcases hu with h|h|h|h|h|h|h|h|h|h<;>(subst h;rfl)
abbrev Kt:PK TB:=Zt kKe 324 aa5
structure fA where
 nx:Int
 T:Option (List Nd)
 f:rl->Option fH
 up:Int
 at':Int
 la:Int
 kp:List KeM
structure KY where
 tp:Option (Nat×TS)
 am:Nat
 ka:aG
 kc:Nat
 rC:List TB
def TrR:Option (Nat×TS)->HP
 |none=>tt
 |some x=>aU x.1 x.2
def KY.tv(r:KY):aG:=r.tp.map λx=>⟨x.1,0,none⟩
def zY(q:fA)(r:KY):List Value:=[an q.nx,.pointer r.tv,.map (some r.am),an q.up,an q.at',an q.la,.slice r.ka r.rC.length r.kc]
def vp(X:HP)(r:KY):List HP:=[TrR r.tp,X,PL Kt r.ka r.rC.length r.kc r.rC]
structure GQ(q:fA)(r:KY):Prop where
 t:r.tp.map (λx=>x.2.aS)=q.T
 k:r.rC.map (·.m)=q.kp
 kb:q.kp.length<=1000000/\∀x∈q.kp,x.c.data.length<=1000000
abbrev RqX(b:Nat)(q:fA)(r:KY)(X:HP):HP:=PW 128 b (zY q r).toArray (cw (vp X r))
abbrev ju(b:Nat)(q:fA)(r:KY):HP:=RqX b q r (lT r.am q.f)
abbrev Au(b:Nat)(q:fA)(r:KY)(l:AL rl)(c:Nat):HP:=RqX b q r (aH tS Cq r.am q.f l c)
def fV(b:Nat)(q:fA):HP:=aE λr=>aA (GQ q r) (ju b q r)
theorem fV.od{f:FuncId}{args:dI}{b:Nat}{q:fA}{B:Value->HP}(t:∀r,GQ q r->az prog f args (ju b q r) B):az prog f args (fV b q) B:=az.ex λr=>az.pure λh=>t r h
section
variable {b:Nat}{q:fA}{r:KY}
theorem Au.back{l:AL rl}{c:Nat}{R h:PH}(H:(Au b q r l c).p R h):(ju b q r).p R h:=
 ae H (λ_ h=>h) λ_ h=>ae h (λ_ h=>h) λ_ h=>ae h (λ_ h=>⟨l,c,h⟩) λ_ h=>h
theorem rqM{f:FuncId}{args:dI}{S:HP}{B:Value->HP}(t:∀l c,az prog f args (aj (Au b q r l c) S) B):az prog f args (aj (ju b q r) S) B:=by
 refine(az.ex (A:=λl:AL rl=>aE λc:Nat=>aj (Au b q r l c) S) λl=>az.ex λc=>t l c).aK (λR h H=>?_) λ_ _ _ h=>h;obtain⟨h1,h2,d,l1,l2,⟨h3,h4,d2,l3,l4,⟨l,c,HX⟩,HS⟩,HU⟩:=CW.jK (k:=1) (X:=lT r.am q.f) rfl H;exact⟨l,c,CW.lX (L:=vp (lT r.am q.f) r) (k:=1) (X:=lT r.am q.f) rfl ⟨h1,h2,d,l1,l2,⟨h3,h4,d2,l3,l4,HX,HS⟩,HU⟩⟩
theorem Au.map{l:AL rl}{c:Nat}{R h:PH}(H:(Au b q r l c).p R h):(aH tS Cq r.am q.f l c).p R h:=PW.part (k:=1) rfl H
theorem XL:prog.underlying 123=some (.pointer 187):=by kernel_rfl
theorem PN{ty:TypeId}{cs:dI}{Q:HP}{k:Nat}{v:aG}(hk:cs[k]? =some (.pointer v)):aM prog (bO 123 (.pointer (some ⟨b,k,none⟩))) (PW ty b cs Q) (eD (.pointer v)):=xl XL (by kernel_rfl) (by kernel_rfl) hk
theorem XM{ty:TypeId}{cs:dI}{Q:HP}{k:Nat}{m:Nat}(hk:cs[k]? =some (.map (some m))):aM prog (bO 125 (.pointer (some ⟨b,k,none⟩))) (PW ty b cs Q) (.map (some m)):=xl Xh (by kernel_rfl) (by kernel_rfl) hk
theorem XN:prog.underlying 126=some (.slice 324):=by kernel_rfl
theorem ac1{ty:TypeId}{cs:dI}{Q:HP}{k:Nat}{a:aG}{n c:Nat}(hk:cs[k]? =some (.slice a n c)):aM prog (bO 126 (.pointer (some ⟨b,k,none⟩))) (PW ty b cs Q) (.slice a n c):=xl XN (by kernel_rfl) (by kernel_rfl) hk
theorem XO:(prog.info? 123).map (λi=>i.size)=some 1:=by kernel_rfl
theorem NB:(prog.info? 126).map (λi=>i.size)=some 1:=by kernel_rfl
theorem aa7(h:r.tp=none):r.tv=none:=by unfold KY.tv;rw[h];rfl
theorem xq{tb:Nat}{t:TS}(h:r.tp=some (tb,t)):r.tv=some ⟨tb,0,none⟩:=by unfold KY.tv;rw[h];rfl
theorem SN:az prog 36 #[pt b] (fV b q) (λv=>aA (v=an q.nx) (fV b q)):=by
 refine fV.od λr hk=>?_;refine ao (ρ:=[.n b,.p (ju b q r)]) {fk:=[123],aF:=nV,dN:=true,dv:=true,ck:=[123]} CL vo 2 ?_;exact⟨_,g8 rfl,.of λR h H=>⟨rfl,r,hk,H⟩⟩
theorem GS:az prog 32 #[pt b] (fV b q) (λv=>aA (v=.tuple #[an q.up,an q.at']) (fV b q)):=by
 refine fV.od λr hk=>?_;refine ao (ρ:=[.n b,.p (ju b q r)]) {fk:=[123],aF:=nV,dN:=true,dv:=true,ck:=[123]} CL vo 2 ?_;exact⟨_,g8 rfl,_,g8 rfl,.of λR h H=>⟨rfl,r,hk,H⟩⟩
theorem nW(X:HP):az prog 67 #[pt b] (RqX b q r X) (λv=>aA (v=.bool r.tp.isNone) (RqX b q r X)):=by
 refine ao (ρ:=[.n b,.p (RqX b q r X)]) {fk:=[123],aF:=nV,dN:=true,dv:=true,ck:=[123]} CL vo 2 ?_;refine⟨_,PN rfl,_,yi (by kernel_rfl) XL,.of λR h H=>⟨?_,H⟩⟩;cases e:r.tp with
 |none=>rw[aa7 e];rfl
 |some x=>rw[xq (tb:=x.1) (t:=x.2) e];rfl
theorem GQ.PG(hk:GQ q r):r.tp.isNone=q.T.isNone:=by rw[<-hk.t];cases r.tp<;>rfl
theorem SO:az prog 67 #[pt b] (fV b q) (λv=>aA (v=.bool q.T.isNone) (fV b q)):=
 fV.od λr hk=>(nW _).wk λv R h ⟨e,H⟩=>⟨by rw[e,hk.PG],r,hk,H⟩
def sW(q:fA)(low:Int):fA:=if low<=q.nx then q else{q with nx:=low,la:=low,T:=none,kp:=[]}
theorem SP(low:Int):az prog 173 #[pt b,an low] (fV b q) (λv=>aA (v=cE) (fV b (sW q low))):=by
 refine fV.od λr hk=>?_;refine ao (ρ:=[.n b,.p (ju b q r),.i low]) {fk:=[123],aF:=nV,dN:=true,dv:=true,ck:=[123]} [(.ptr 0 0),2] vo 3 ?_;refine⟨_,g8 rfl,λh0=>?_,λh0=>?_⟩
 ·rw[show sW q low=q from aB h0];exact .of λR h H=>⟨trivial,r,hk,H⟩
 rw[show sW q low={q with nx:=low,la:=low,T:=none,kp:=[]}from aq h0]
 refine qi (iT (cs':=(zY {q with nx:=low} r).toArray) qr rfl rfl rfl rfl) (qi (iT (cs':=(zY {q with nx:=low,la:=low} r).toArray) qr rfl rfl rfl rfl)
  (qi (iT (cs':=(zY {q with nx:=low,la:=low} {r with tp:=none}).toArray) XO rfl rfl rfl rfl) (qi (iT (cs':=(zY {q with nx:=low,la:=low} {r with tp:=none,ka:=none,kc:=0,rC:=[]}).toArray) NB rfl rfl rfl rfl)
  (.of λR h H=>⟨trivial,{r with tp:=none,ka:=none,kc:=0,rC:=[]},⟨rfl,rfl,Nat.zero_le _,λx hx=>by cases hx⟩,ae H (λ_ h=>h) λ_ h=>ae h (λ_ _=>trivial) λ_ h=>ae h (λ_ h=>h) λ_ _=>wd _ _ _⟩))))
theorem ac2{l:AL rl}{c:Nat}(k:rl):aM prog (mM 125 (.map (some r.am)) (Cq k) true) (Au b q r l c) (.tuple #[(aY k l).getD aff,.bool (aY k l).isSome]):=by
 obtain⟨i,hi,hz,_⟩:=Xi;exact iO (c:=c) (l:=l) idK Xh hi hz k true λR h H=>aH.at (Au.map H)
set_option maxHeartbeats 1000000 in
theorem Ku(k:rl):az prog 230 #[pt b,Cq k] (fV b q)
 (λv=>aE λda:aG=>aE λdc:Nat=>aE λna:aG=>aE λnc:Nat=>aA (v=.tuple #[xh (sQ q.f k) da dc na nc,.bool (q.f k).isSome]) (aj (dS da (sQ q.f k).data.length dc (sQ q.f k).data) (aj (sv na (sQ q.f k).bp.length nc (sQ q.f k).bp) (fV b q)))):=by
 refine fV.od λr hk=>?_;refine(rqM (S:=tt) λl c=>?_).aK (λR h H=>aD H) λ_ _ _ h=>h;refine az.cM (φ:=Xk q.f l k) (λR h H=>Pw k (Au.map (ai H))) λhA=>?_;refine az.aK (A:=Au b q r l c) ?_ (λR h H=>ai H) λ_ _ _ h=>h;have back:∀ {R h},(Au b q r l c).p R h->(fV b q).p R h:=λH=>⟨r,hk,Au.back H⟩;refine ao (ρ:=[.n b,.p (Au b q r l c),.i k.1,.i k.2.1,.i k.2.2]) {fk:=[123],aF:=nV,dN:=true,dv:=true,ck:=[123]} [(.ptr 0 0),(.agg [2,3,4])] vo 5 ?_;intro _ _;refine⟨r.am,XM rfl,?_⟩;have iV:=ac2 (b:=b) (q:=q) (r:=r) (l:=l) (c:=c) k;rcases hA with⟨hf,ha⟩|⟨x,da,dc,na,nc,hf,ha,hd,hn⟩
 ·rw[ha]at iV;refine⟨0,0,0,0,none,0,0,none,0,0,false,iV,λ_=>⟨λ_=>.of λR h H=>⟨none,0,none,0,?_,?_⟩,λh=>(by cases h)⟩⟩
  ·unfold sQ;rw[hf];rfl
  ·unfold sQ;rw[hf];exact Hd (λ_=>bY.nil _ _ R _) (Hd (λ_=>bY.nil _ _ R _) (back H))
 ·rw[ha]at iV;have e:sQ q.f k=x:=by unfold sQ;rw[hf];rfl
  rw[e];refine⟨x.err,x.kind,x.size,x.bo,da,x.data.length,dc,na,x.bp.length,nc,true,iV,λ_=>⟨λh=>absurd rfl h,λ_=>?_⟩⟩;refine(Xg _ da x.data.length dc x.data (EJ λR h H=>(acV hf ha (Au.map H)).1) rfl (by omega)).wk ?_;rintro v R h ⟨a',c',rfl,H⟩;refine⟨a',_,c',dS a' x.data.length c' x.data,rfl,?_,H⟩;clear H;refine(afe _ na x.bp.length nc x.bp (EJ λR h H=>(acV hf ha (Au.map H)).2) rfl (by omega)).wk ?_;rintro v R h ⟨a2,c2,rfl,H⟩;refine⟨a2,_,c2,sv a2 x.bp.length c2 x.bp,rfl,.of λR h H=>⟨a',c',a2,c2,?_,?_⟩,H⟩
  ·rw[hf];rfl
  ·have:=HP.pick [Au b q r l c,_,_] [1,2,0] (by decide) rfl H;exact ae this (λ_ h=>h) λy hy=>ae hy (λ_ h=>h) λz hz=>back hz
theorem GQ.some(hk:GQ q r){T:List Nd}(e:q.T=.some T):∃tb t,r.tp=.some (tb,t)/\t.aS=T:=by
 have h:=hk.t;rw[e]at h;obtain⟨x,h1,h2⟩:=Option.map_eq_some_iff.1 h;exact⟨x.1,x.2,h1,h2⟩
theorem GQ.none(hk:GQ q r)(e:q.T=.none):r.tp=.none:=by
 have h:=hk.t;rw[e]at h;exact Option.map_eq_none_iff.1 h
theorem ND{B:Nat}(hB:B<=100000)(wf:∀T,q.T=some T->ey B T):az prog 35 #[pt b] (fV b q)
 (λv=>aE λa=>aE λc=>aA (v=.slice a (q.T.getD []).length c) (aj (qR a (q.T.getD []).length (q.T.getD [])) (fV b q))):=by
 refine fV.od λr hk=>?_;refine ao (ρ:=[.n b,.p (ju b q r)]) {fk:=[123],aF:=nV,dN:=true,dv:=true,ck:=[123]} CL vo 2 ?_;refine(nW _).wk ?_;rintro v R h ⟨rfl,H⟩;refine⟨_,rfl,?_,H⟩;clear H;cases e:q.T with
 |none=>
  rw[hk.none e];exact⟨λ_=>.of λR h H=>⟨none,0,rfl,Hd (λ_=>⟨[],rfl,rfl,bN.nil _ _ _ _,λx hx=>by cases hx⟩) ⟨r,hk,H⟩⟩,λh=>absurd rfl h⟩
 |some T=>
  obtain⟨tb,t,et,rfl⟩:=hk.some e;refine⟨λh=>(by rw[et]at h;cases h),λ_=>⟨_,PN rfl,?_⟩⟩;rw[xq et];have nd:=Ew (b:=tb) (t:=t) hB (wf _ e);refine(qq (ty:=128) (b:=b) (cs:=(zY q r).toArray) (L:=vp (lT r.am q.f) r) (k:=0) (X:=aU tb t) (γ:=aG×Nat) (φ:=λv y=>v=.slice y.1 t.aS.length y.2) (P:=λy=>qR y.1 t.aS.length t.aS) (by unfold vp;rw[et];rfl) (nd.wk λv R h ⟨a,c,e,H⟩=>⟨(a,c),e,H⟩)).wk ?_;rintro v R h ⟨⟨a,c⟩,rfl,H⟩;exact⟨a,_,c,qR a t.aS.length t.aS,rfl,.of λR h H=>⟨a,c,rfl,ae (ak H) (λ_ h=>h) λ_ h=>⟨r,hk,h⟩⟩,H⟩
theorem SQ{B:Nat}(hB:B<=100000)(wf:∀T,q.T=some T->ey B T):az prog 31 #[pt b] (fV b q)
 (λv=>aE λa=>aE λc=>aA (v=.tuple #[.slice a ((q.T.map (jw q.nx)).getD []).length c,an (if q.T.isSome=true then 0 else 5)]) (aj (dS a ((q.T.map (jw q.nx)).getD []).length c ((q.T.map (jw q.nx)).getD [])) (fV b q))):=by
 refine fV.od λr hk=>?_;refine ao (ρ:=[.n b,.p (ju b q r)]) {fk:=[123],aF:=nV,dN:=true,dv:=true,ck:=[123]} CL vo 2 ?_;refine(nW _).wk ?_;rintro v R h ⟨rfl,H⟩;refine⟨_,rfl,?_,H⟩;clear H;cases e:q.T with
 |none=>
  rw[hk.none e];exact⟨λ_=>.of λR h H=>⟨none,0,rfl,Hd (λ_=>bY.nil _ _ _ _) ⟨r,hk,H⟩⟩,λh=>absurd rfl h⟩
 |some T=>
  obtain⟨tb,t,et,rfl⟩:=hk.some e;refine⟨λh=>(by rw[et]at h;cases h),λ_=>⟨_,g8 rfl,_,PN rfl,?_⟩⟩;rw[xq et];have nd:=RV (b:=tb) (t:=t) hB (wf _ e) q.nx;refine(qq (ty:=128) (b:=b) (cs:=(zY q r).toArray) (L:=vp (lT r.am q.f) r) (k:=0) (X:=aU tb t) (γ:=aG×Nat) (φ:=λv y=>v=.slice y.1 (jw q.nx t.aS).length y.2) (P:=λy=>dS y.1 (jw q.nx t.aS).length y.2 (jw q.nx t.aS)) (by unfold vp;rw[et];rfl) (nd.wk λv R h ⟨a,c,e,H⟩=>⟨(a,c),e,ak H⟩)).wk ?_;rintro v R h ⟨⟨a,c⟩,rfl,H⟩;exact⟨a,_,c,dS a (jw q.nx t.aS).length c (jw q.nx t.aS),rfl,.of λR h H=>⟨a,c,rfl,ae (ak H) (λ_ h=>h) λ_ h=>⟨r,hk,h⟩⟩,H⟩
end
def TD(q:fA)(k:rl)(c:eK):fA:=match q.T with
 |none=>q
 |some T=>{q with T:=some (zx T c.kind c.path c.aL c.off c.n c.data).1,f:=sO q.f k (zx T c.kind c.path c.aL c.off c.n c.data).2}
def oO(q:fA)(at':Int)(x:cj):fA:=match jx x.pl with
 |none=>q
 |some c=>match q.T with
  |none=>{q with kp:=q.kp++[⟨at',(x.cl,x.bi,x.nu),c⟩]}
  |some _=>TD q (x.cl,x.bi,x.nu) c
def xr(u:Int)(q:fA)(k:KeM):fA:=if u<=k.at' then TD q k.id k.c else q
noncomputable def nX(q:fA)(at':Int)(l:ax):fA:=match yJ jZ l with
 |none=>q
 |some (u,T)=>if at'<u then q else
  let q1:=if q.up<u then{q with up:=u,at':=at'}else q
  if q.T.isSome=true\/u<q.la then q1 else{q.kp.foldl (xr u) {q1 with T:=some T}with kp:=[]}
noncomputable def iz(q:fA)(x:fF):fA:=
 let q1:={q with nx:=q.nx+1}
 if x.what≠1 then q1 else match w7 x.data with
 |none=>q1
 |some l=>if l.kind=1 then oO q1 q.nx l else if l.kind=2 then nX q1 q.nx l.pl else q1
def WfQ(q:fA):Prop:=∀T,q.T=some T->∃B,B<=100000/\ey B T
def Kv(u:Int):List KeM->fA->Prop
 |[],_=>True
 |k::l,q=>(u<=k.at'->WfQ q)/\Kv u l (xr u q k)
section
variable {b:Nat}{q:fA}{r:KY}
set_option maxHeartbeats 1000000 in
theorem aa8{B:Nat}{tb:Nat}{t:TS}(et:r.tp=some (tb,t))(hB:B<=100000)(wf:ey B t.aS)(k:rl)(c:kR)(S:HP)(d:ax)(hd:JM c S d):
 az prog 260 #[pt b,Cq k,c.val] (aj (ju b q r) S) (λv=>aE λt':TS=>aA (v=cE/\t'.aS=(mN t.aS c d).1) (aj (ju b {q with f:=sO q.f k (mN t.aS c d).2} {r with tp:=some (tb,t')}) S)):=by
 refine rqM λl cl=>?_;refine az.cM (φ:=Xk q.f l k) (λR h H=>Pw k (Au.map (ai H))) λhA=>?_;refine ao (ρ:=[.n b,.p (Au b q r l cl),.i k.1,.i k.2.1,.i k.2.2,.i c.kind,.s c.path,.s c.aL,.i c.off,.i c.n,.a c.da,.n c.dl,.n c.dc,.p S]) {fk:=[123],aF:=nV,dN:=true,dv:=true,ck:=[123],jn:=[((9,16),some {ss:=[.n,.i,.i,.i,.i,.a,.n,.n,.a,.n,.n,.p,.p,.p,.p],n:=31,tv:=[(9,none),(10,none),(11,none),(12,none),(13,none),(14,none),(6,some (.ptr 16 0))],h:=[((.b 16),(.cells [17,18,19,20,(.s 21),(.s 24)] 47)),(21,27),(24,28),(.b 0,29),(10,30),((.b 15),(.cells [5,(.str 6),(.str 7),8,9,(.s 10)] 39)),((.b 14),(.cells [2,3,4] 44))],lk:=[]})]} [(.ptr 0 0),(.agg [2,3,4]),(.agg afD)] aa4 14 ?_;intro _ _
 have hdo:=kr (ty:=128) (b:=b) (cs:=(zY q r).toArray) (L:=vp (aH tS Cq r.am q.f l cl) r) (k:=0) (K:=S) (X:=aU tb t) (γ:=TS×aG×Nat×aG×Nat) (X':=λy=>aU tb y.1) (P:=λy=>aj (bE y.2.1 (mN t.aS c d).2.data.length (mN t.aS c d).2.data) (aj (zU y.2.2.2.1 (mN t.aS c d).2.bp.length (mN t.aS c d).2.bp) S))
  (φ:=λv y=>v=xh (mN t.aS c d).2 y.2.1 y.2.2.1 y.2.2.2.1 y.2.2.2.2/\y.1.aS=(mN t.aS c d).1) (by unfold vp;rw[et];rfl) ((doR hB wf c S d hd).wk λv R h ⟨t',ht,da,dc,na,nc,e,H⟩=>⟨(t',da,dc,na,nc),⟨e,ht⟩,HP.pick [bE da _ (mN t.aS c d).2.data,zU na _ (mN t.aS c d).2.bp,aU tb t',S] [2,0,1,3] (by decide) rfl H⟩)
 refine⟨λm e kd sz lk da dl dc na nl nc P1 P2 P3 P4=>∃t':TS,t'.aS=(mN t.aS c d).1/\e=(mN t.aS c d).2.err/\kd=(mN t.aS c d).2.kind/\sz=(mN t.aS c d).2.size/\lk=(mN t.aS c d).2.bo/\dl=(mN t.aS c d).2.data.length/\nl=(mN t.aS c d).2.bp.length/\P1=bE da (mN t.aS c d).2.data.length (mN t.aS c d).2.data/\P2=zU na (mN t.aS c d).2.bp.length (mN t.aS c d).2.bp/\P3=Au b q {r with tp:=some (tb,t')} l cl/\P4=S,?_,?_⟩
 ·have hv:eD (.pointer r.tv)=pt tb:=by rw[xq et];rfl
  have hc:∀t':TS,(zY q {r with tp:=some (tb,t')}).toArray=(zY q r).toArray:=λt'=>by
   have:({r with tp:=some (tb,t')}:KY).tv=r.tv:=by rw[xq et];rfl
   unfold zY;rw[this]
  refine⟨_,PN rfl,?_,?_⟩
  ·rw[hv];refine hdo.wk ?_;rintro v R h ⟨⟨t',da,dc,na,nc⟩,⟨rfl,ht⟩,H⟩;refine⟨_,_,_,_,da,_,dc,bE da _ (mN t.aS c d).2.data,na,_,nc,zU na _ (mN t.aS c d).2.bp,Au b q {r with tp:=some (tb,t')} l cl,S,rfl,λm=>⟨t',ht,rfl,rfl,rfl,rfl,rfl,rfl,rfl,rfl,rfl,rfl⟩,?_⟩;unfold Au RqX;rw[hc];exact HP.pick [PW 128 b (zY q r).toArray (cw (vp (aH tS Cq r.am q.f l cl) {r with tp:=some (tb,t')})),bE da _ (mN t.aS c d).2.data,zU na _ (mN t.aS c d).2.bp,S] [1,2,0,3] (by decide) rfl H
  ·intro m;rw[hv];refine hdo.wk ?_;rintro v R h ⟨⟨t',da,dc,na,nc⟩,⟨rfl,ht⟩,H⟩;refine⟨_,_,_,_,da,_,dc,bE da _ (mN t.aS c d).2.data,na,_,nc,zU na _ (mN t.aS c d).2.bp,Au b q {r with tp:=some (tb,t')} l cl,S,rfl,⟨t',ht,rfl,rfl,rfl,rfl,rfl,rfl,rfl,rfl,rfl,rfl⟩,?_⟩;unfold Au RqX;rw[hc];exact HP.pick [PW 128 b (zY q r).toArray (cw (vp (aH tS Cq r.am q.f l cl) {r with tp:=some (tb,t')})),bE da _ (mN t.aS c d).2.data,zU na _ (mN t.aS c d).2.bp,S] [1,2,0,3] (by decide) rfl H
 rintro m _ _ _ _ da _ dc na _ nc _ _ _ _ ⟨t',ht,rfl,rfl,rfl,rfl,rfl,rfl,rfl,rfl,rfl,rfl⟩;have St:=aaQ wf c.kind c.path c.aL c.off c.n d;have iV:=ac2 (b:=b) (q:=q) (r:={r with tp:=some (tb,t')}) (l:=l) (c:=cl) k;refine⟨r.am,XM rfl,?_⟩;rcases hA with⟨hf,ha⟩|⟨x,kV,n9,na',nc',hf,ha,C7,hn⟩
 ·rw[ha]at iV;refine⟨0,0,0,0,none,0,0,none,0,0,false,iV,λ_=>⟨λ_=>⟨r.am,XM rfl,?_⟩,λh=>(by cases h)⟩⟩
  let A:=aj (bE da (mN t.aS c d).2.data.length (mN t.aS c d).2.data) (zU na (mN t.aS c d).2.bp.length (mN t.aS c d).2.bp)
  have pt:=aH.put (r:=r.am) (l:=l) (c:=cl) (f:=q.f) idK Xh tS.iF k (xh (mN t.aS c d).2 da dc na nc) (mN t.aS c d).2 (A:=A) λR h H=>⟨da,dc,na,nc,⟨rfl,by have:(mN t.aS c d).2.data.length<=512:=St.1;omega,by have:(mN t.aS c d).2.bp.length<=B:=St.2;omega⟩,ai H,ah H⟩;have op:=qY (ty:=128) (b:=b) (cs:=(zY q {r with tp:=some (tb,t')}).toArray) (L:=vp (aH tS Cq r.am q.f l cl) {r with tp:=some (tb,t')}) (k:=1) (K:=A) (γ:=Unit) (X:=aH tS Cq r.am q.f l cl) (X':=λ_=>lT r.am (g7 q.f k (some (mN t.aS c d).2))) (P:=λ_=>A) (φ:=λv _=>v=cE) rfl (pt.wk λv R h ⟨e,H⟩=>⟨(),e,H⟩);refine op.wk ?_;rintro v R h ⟨_,rfl,H⟩;have e:sO q.f k (mN t.aS c d).2=g7 q.f k (some (mN t.aS c d).2):=by unfold sO;rw[hf]
  rw[e];exact⟨ju b {q with f:=g7 q.f k (some (mN t.aS c d).2)} {r with tp:=some (tb,t')},rfl,.of λR h H=>⟨t',⟨trivial,ht⟩,H⟩,H⟩
 ·rw[ha]at iV;have e:sO q.f k (mN t.aS c d).2=q.f:=by unfold sO;rw[hf]
  rw[e];exact⟨x.err,x.kind,x.size,x.bo,kV,x.data.length,n9,na',x.bp.length,nc',true,iV,λ_=>⟨λh=>absurd rfl h,λ_=>.of λR h H=>⟨t',⟨trivial,ht⟩,ae H (λ_ h=>Au.back h) λ_ h=>h⟩⟩⟩
theorem Kw(hk:GQ q r)(wf:WfQ q)(hT:q.T.isSome=true)(k:rl)(x:eK)(a:aG)(c:Nat)(S:HP)(hr:bX S a x.data.length (x.data.map eX))(ha:x.data.length≠0->a.isSome=true):
 az prog 260 #[pt b,Cq k,(x.m a c).val] (aj (ju b q r) S) (λv=>aE λy:Option (Nat×TS)=>aA (v=cE/\GQ (TD q k x) {r with tp:=y}) (aj (ju b (TD q k x) {r with tp:=y}) S)):=by
 obtain⟨T,e⟩:=Option.isSome_iff_exists.1 hT;obtain⟨tb,t,et,rfl⟩:=hk.some e;obtain⟨B,hB,w⟩:=wf _ e;refine(aa8 et hB w k (x.m a c) S x.data ⟨hr,rfl,ha⟩).wk ?_;rintro v R h ⟨t',⟨rfl,ht⟩,H⟩;have ed:TD q k x={q with T:=some (zx t.aS x.kind x.path x.aL x.off x.n x.data).1,f:=sO q.f k (zx t.aS x.kind x.path x.aL x.off x.n x.data).2}:=by unfold TD;rw[e]
 rw[ed];exact⟨some (tb,t'),⟨rfl,congrArg some ht,hk.k,hk.kb⟩,H⟩
def NE(b:Nat)(q:fA)(S:HP)(v:Value):HP:=aE λr:KY=>aA (v=cE/\GQ q r) (aj (ju b q r) S)
theorem aj0:(prog.info? 324).map (λi=>(i.zero.map (λz=>z.cells.size),i.zero.isSome,i.size,decide (i.bytes<=1000)))=some (some 10,true,10,true):=by kernel_rfl
theorem aa9:∃i z,prog.info? 324=some i/\i.zero=some z/\z.cells.size=i.size/\i.size=10/\i.bytes<=1000:=by
 obtain⟨Um,hi,hz⟩:=Option.map_eq_some_iff.1 aj0;simp only[Prod.mk.injEq,Option.map_eq_some_iff]at hz;obtain⟨⟨z,YH,To⟩,_,Tp,Zm⟩:=hz;exact⟨Um,z,hi,YH,by rw[To,Tp],Tp,of_decide_eq_true Zm⟩
set_option maxHeartbeats 1000000 in
theorem DL(hk:GQ q r)(wf:WfQ q)(ki:q.kp.length<1000000)(at':Int)(x:cj)(a:aG)(c:Nat)(S:HP)(hr:bX S a x.pl.length (x.pl.map eX))(hc:x.pl.length<=c)(ha:x.pl.length≠0->a.isSome=true)(hb:x.pl.length<=1000000)(hd:∀y,jx x.pl=some y->y.data.length<=1000000):
 az prog 232 #[pt b,an at',x.val a c] (aj (ju b q r) S) (NE b (oO q at' x) S):=by
 refine ao (ρ:=[.n b,.p (ju b q r),.i at',.i x.kind,.i x.cl,.i x.bi,.i x.nu,.i x.st,.i x.bk,.a a,.n x.pl.length,.n c,.p S]) {fk:=[123],aF:=nV,dN:=true,dv:=true,ck:=[123]} XK XJ 13 ?_;intro _
 have dec:az prog 27 #[.slice a x.pl.length c] S (λv=>match jx x.pl with
  |none=>aA (v=.tuple #[.agg #[.int .i64 0,sE [],sE [],.int .i64 0,.int .i64 0,.slice none 0 0],.int .i64 3]) S
  |some y=>aE λa=>aE λc=>aA (v=.tuple #[y.val a c,.int .i64 0]/\(y.data.length≠0->a.isSome=true)) (aj (bE a y.data.length y.data) S)):=by
  refine(Cp a x.pl.length c x.pl S hr rfl hc ha (by omega)).post λv=>λR h d H=>?_;unfold qm at H;cases hq:jx x.pl with
  |none=>rw[hq]at H;exact⟨R,h,PH.le.refl _,d,PH.le.refl _,λ_ _ e=>.inl e,H⟩
  |some y=>
   rw[hq]at H;obtain⟨a1,c1,e,H⟩:=H;have hs:y.data.length≠0->a1.isSome=true:=λhn=>bY.some (ai H) (by omega);obtain⟨R1,h1,q1,q2,q3,q4,H1⟩:=(HP.aT.aj (bY.eP _ _ _ _ _ _) S) R h d H;exact⟨R1,h1,q1,q2,q3,q4,a1,c1,⟨e,hs⟩,H1⟩
 refine dec.wk ?_;intro v R h H;cases hq:jx x.pl with
 |none=>
  rw[hq]at H;obtain⟨rfl,H⟩:=H;have e:oO q at' x=q:=by unfold oO;rw[hq]
  rw[e];exact⟨0,[],[],0,0,none,0,0,tt,3,rfl,λ_=>⟨λ_=>.of λR h H=>⟨r,⟨rfl,hk⟩,H⟩,λh=>absurd h (by decide)⟩,aW H⟩
 |some y=>
  rw[hq]at H;obtain⟨da,dc,⟨rfl,U0⟩,H⟩:=H;have hy:=hd y hq;refine⟨y.kind,y.path,y.aL,y.off,y.n,da,y.data.length,dc,bE da y.data.length y.data,0,rfl,λ_=>⟨λh=>absurd rfl h,λ_=>?_⟩,H⟩;clear H;refine(nW _).wk ?_;rintro v R h ⟨rfl,H⟩;refine⟨_,rfl,⟨λhl=>⟨_,_,_,ac1 rfl,λz=>?_⟩,λhl=>?_⟩,H⟩
  ·have eT:q.T=none:=by rw[hk.PG]at hl;exact Option.isNone_iff_eq_none.1 hl
   let ke:TB:=⟨⟨at',(x.cl,x.bi,x.nu),y⟩,da,dc⟩
   have e:oO q at' x={q with kp:=q.kp++[ke.m]}:=by unfold oO;rw[hq,eT]
   rw[e];obtain⟨i,zz,hi,h1,h2,h3,h4⟩:=aa9;have Ac:r.rC.length=q.kp.length:=by rw[<-hk.k,List.length_map]
   have op:=aoG (K:=Kt) (t:=126) XN hi h1 h2 h3 h4 (tw:=128) (b:=b) (cs:=(zY q r).toArray) (L:=vp (lT r.am q.f) r) (j:=2) (a:=r.ka) (n:=r.rC.length) (c:=r.kc) (l:=r.rC) rfl z ke (bE da y.data.length y.data) (by omega);refine op.aK (λR h H=>?_) ?_
   ·have hro:(bE da y.data.length y.data).p R h:=ah (ah H);exact HP.pick [bE da y.data.length y.data,ju b q r,HP.one z (.cells (TB.aJ ke).toArray 324 (0,0)),bE da y.data.length y.data] [1,2,0,3] (by decide) rfl (bN.join hro H)
   rintro v R h ⟨a',c',rfl,H⟩
   let r':KY:={r with ka:=a',kc:=c',rC:=r.rC++[ke]}
   have tZ:r'.rC.length=r.rC.length+1:=by show(r.rC++[ke]).length=_;simp
   refine⟨a',r.rC.length+1,c',PL Kt a' (r.rC.length+1) c' (r.rC++[ke]),PW 128 b (zY q r).toArray (cw ((vp (lT r.am q.f) r).set 2 tt)),rfl,?_,H⟩;clear H;refine ajZ (cs':=(zY q r').toArray) (iT NB rfl rfl rfl (by unfold zY;rw[tZ];rfl)) (ju b {q with kp:=q.kp++[ke.m]} r') (λR h H=>?_) (.of λR h H=>⟨r',⟨rfl,hk.t,?_,?_⟩,H⟩)
   ·have H1:=aoH (L:=vp (lT r.am q.f) r) (j:=2) (show 2<3 by decide) H;rw[<-tZ]at H1;exact H1
   ·show(r.rC++[ke]).map (·.m)=_;rw[List.map_append,hk.k];rfl
   ·refine⟨by simp;omega,λw hw=>?_⟩;rcases List.mem_append.1 hw with h|h
    ·exact hk.kb.2 w h
    ·obtain rfl:=List.mem_singleton.1 h;exact hy
  ·have eT:q.T.isSome=true:=by
    rw[hk.PG]at hl;cases h:q.T with
    |none=>rw[h]at hl;exact absurd rfl hl
    |some T=>rfl
   have e:oO q at' x=TD q (x.cl,x.bi,x.nu) y:=by
    obtain⟨T,hT⟩:=Option.isSome_iff_exists.1 eT;unfold oO;rw[hq,hT]
   rw[e];refine(Kw hk wf eT (x.cl,x.bi,x.nu) y da dc _ (bX.ro _ _ _ _) U0).wk ?_;rintro v R h ⟨tp,⟨rfl,A7⟩,H⟩;exact⟨_,_,rfl,.of λR h H=>⟨{r with tp:=tp},⟨rfl,A7⟩,H⟩,H⟩
theorem afE{k:Nat}{x:TB}(hx:r.rC[k]? =some x){X:HP}:aM prog (bO 324 (.pointer (r.ka.map λy=>(y.add (k*10)).add 0))) (RqX b q r X) (.agg (TB.aJ x).toArray):=by
 obtain⟨d,hd⟩:=Option.isSome_iff_exists.1 (show(prog.underlying 324).isSome=true by kernel_rfl);refine pN (vs:=TB.aJ x) hd (by kernel_rfl) (tN (PL.rd (K:=Kt) r.ka r.rC.length r.kc r.rC) λR h H=>PW.part (k:=2) rfl H) (k:=k*10) (off:=0) (show iA prog 324=10 by kernel_rfl) (show 0<10 by decide) λj v hj=>?_;have hlt:j<10:=(List.getElem?_eq_some_iff.1 hj).1;rw[Nat.add_zero,gQ Kt.aJ 10 Kt.len r.rC k j x hx hlt];exact hj
set_option maxHeartbeats 1000000 in
theorem DM(hk:GQ q r)(at':Int)(x:cj)(a:aG)(c:Nat)(S:HP)(hr:bX S a x.pl.length (x.pl.map eX))(hc:x.pl.length<=c)(ha:x.pl.length≠0->a.isSome=true)(hb:x.pl.length<=1000000)(hs:∀u T,yJ jZ x.pl=some (u,T)->∀p:fA,p.T=some T->Kv u q.kp p):
 az prog 233 #[pt b,an at',x.val a c] (aj (ju b q r) S) (NE b (nX q at' x.pl) S):=by
 refine az.cM (φ:=r.rC.length≠0->r.ka.isSome=true) (λR h H hn=>QO (PW.part (k:=2) rfl (ai H)) hn) λhs0=>?_;refine ao (ρ:=[.n b,.p (ju b q r),.i at',.i x.kind,.i x.cl,.i x.bi,.i x.nu,.i x.st,.i x.bk,.a a,.n x.pl.length,.n c,.p S]) {fk:=[123],hv:=[(0,[(.b 0)])],aF:=nV,dN:=true,dv:=true,ck:=[123]} XK XJ 13 ?_;intro _;refine(Sw jZ (λ_ _ h1 h2=>Xc h1 h2) a x.pl.length c x.pl S hr rfl hc ha hb).wk ?_;intro v R h H;have same:nX q at' x.pl=q->HP.aT (aj (ju b q r) S) (NE b (nX q at' x.pl) S (cE)):=λe=>.of λR h H=>⟨r,⟨rfl,by rw[e];exact hk⟩,by rw[e];exact H⟩;unfold yK at H;cases hq:yJ jZ x.pl with
 |none=>
  rw[hq]at H;obtain⟨rfl,H⟩:=H;refine⟨0,.pointer none,tt,3,rfl,⟨λ_=>same ?_,λh=>absurd h (by decide)⟩,aW H⟩;unfold nX;rw[hq]
 |some z=>
  obtain⟨u,T1⟩:=z;rw[hq]at H;obtain⟨b2,t2,⟨rfl,b8⟩,H⟩:=H;refine⟨u,pt b2,aU b2 t2,0,rfl,⟨λh=>absurd rfl h,λ_=>⟨λh1=>same ?_,λh1=>⟨q.up,g8 rfl,λh2=>?_,λh2=>?_⟩⟩⟩,ak H⟩
  ·unfold nX;rw[hq];exact aB h1
  all_goals obtain⟨q2,Ky⟩:∃q2:fA,q2=if q.up<u then{q with up:=u,at':=at'}else q:=⟨_,rfl⟩
  all_goals have e1:q.T.isSome=true\/u<q.la->nX q at' x.pl=q2:=λh=>by unfold nX;rw[hq];dsimp only;rw[aq h1,aB h,Ky]
  all_goals have e2:¬(q.T.isSome=true\/u<q.la)->nX q at' x.pl={q.kp.foldl (xr u) {q2 with T:=some T1}with kp:=[]}:=λh=>by unfold nX;rw[hq];dsimp only;rw[aq h1,aq h,Ky]
  all_goals have Ed:GQ q2 r:=by rw[Ky];split<;>exact⟨hk.t,hk.k,hk.kb⟩
  all_goals have hf:q2.kp=q.kp/\q2.la=q.la:=by rw[Ky];split<;>exact⟨rfl,rfl⟩
  focus refine qi (iT (cs':=(zY {q with up:=u} r).toArray) qr rfl rfl rfl rfl) (qi (iT (cs':=(zY {q with up:=u,at':=at'} r).toArray) qr rfl rfl rfl rfl) ?_)
  focus rw[aB h2]at Ky
  focus rw[show PW 128 b (zY {q with up:=u,at':=at'} r).toArray (cw (vp (lT r.am q.f) r))=ju b q2 r by rw[Ky]]
  rotate_left
  focus rw[aq h2]at Ky
  focus rw[show ju b q r=ju b q2 r by rw[Ky]]
  all_goals
   refine(nW _).wk ?_;rintro v R h ⟨rfl,H⟩;refine⟨_,rfl,⟨λh3=>?_,λh3=>⟨q2.la,g8 rfl,λh4=>?_,λh4=>?_⟩⟩,H⟩
   ·rw[hk.PG]at h3
    rw[e1 (.inl (by cases e:q.T with
     |none=>rw[e]at h3;exact absurd rfl h3
     |some T=>rfl))]
    exact .of λR h H=>⟨r,⟨rfl,Ed⟩,H⟩
   ·rw[e1 (.inr (by rw[<-hf.2];exact h4))];exact .of λR h H=>⟨r,⟨rfl,Ed⟩,H⟩
   clear H;have eT:q.T=none:=by rw[hk.PG]at h3;exact Option.isNone_iff_eq_none.1 h3
   rw[e2 (by rintro(h|h);rw[eT]at h;cases h;exact h4 (by rw[hf.2];exact h))];have etp:=hk.none eT;have Tk:=hk.kb;have ki:r.rC.length=q.kp.length:=by rw[<-hk.k,List.length_map]
   refine ajZ (cs':=(zY q2 {r with tp:=some (b2,t2)}).toArray) (iT XO rfl rfl rfl rfl) (ju b {q2 with T:=some T1} {r with tp:=some (b2,t2)}) (λR h H=>ae H (λ_ h=>h) λy hy=>HP.pick [aU b2 t2,TrR r.tp,lT r.am q2.f,PL Kt r.ka r.rC.length r.kc r.rC] [0,2,3] (by decide) rfl (ak hy)) ?_
   refine⟨r.ka,_,_,ac1 rfl,λi P=>∃(k:Nat) (q':fA) (y:Option (Nat×TS)),i=k/\k<=r.rC.length/\P=ju b q' {r with tp:=y}/\GQ q' {r with tp:=y}/\q'=(q.kp.take k).foldl (xr u) {q2 with T:=some T1}/\q'.T.isSome=true/\Kv u (q.kp.drop k) q',λi _=>r.rC.length - i.toNat,
    ⟨0,_,some (b2,t2),rfl,Nat.zero_le _,rfl,⟨congrArg some b8,Ed.k,Ed.kb⟩,rfl,rfl,hs u T1 hq _ rfl⟩,?_⟩
   rintro _ _ ⟨k,q',y,rfl,Ac,rfl,A7,hfo,hT',hsf⟩;refine⟨λhlt=>⟨by omega,λ_=>⟨hs0 (by have hlt:(k:Int)<r.rC.length:=hlt;omega),λ_=>?_⟩⟩,λlH=>?_⟩
   ·have hlt:(k:Int)<r.rC.length:=hlt;obtain⟨z,hz⟩:∃z,r.rC[k]? =some z:=⟨_,List.getElem?_eq_getElem (show k<r.rC.length by omega)⟩;have hzm:q.kp[k]? =some z.m:=by rw[<-hk.k,List.getElem?_map,hz];rfl
    have hkq:k<q.kp.length:=by omega
    obtain⟨_,hzg⟩:=List.getElem?_eq_some_iff.1 hzm;have ht:q.kp.take (k+1)=q.kp.take k++[z.m]:=by rw[List.take_succ_eq_append_getElem hkq,hzg]
    have hd:q.kp.drop k=z.m::q.kp.drop (k+1):=by rw[List.drop_eq_getElem_cons hkq,hzg]
    rw[hd]at hsf;have hn:xr u q' z.m=(q.kp.take (k+1)).foldl (xr u) {q2 with T:=some T1}:=by rw[ht,List.foldl_append,<-hfo];rfl
    have nxt:∀(q3:fA) (y':Option (Nat×TS)),xr u q' z.m=q3->GQ q3 {r with tp:=y'}->q3.T.isSome=true->∀P,P=ju b q3 {r with tp:=y'}->(∃(k':Nat) (q':fA) (y:Option (Nat×TS)),((k:Int)+1)=k'/\k'<=r.rC.length/\P=ju b q' {r with tp:=y}/\GQ q' {r with tp:=y}/\q'=(q.kp.take k').foldl (xr u) {q2 with T:=some T1}/\q'.T.isSome=true/\Kv u (q.kp.drop k') q'):=
     λq3 y' e3 ON hT3 P hP=>⟨k+1,q3,y',by omega,by omega,hP,ON,by rw[<-e3,hn],hT3,e3▸hsf.2⟩
    refine⟨_,_,_,_,_,_,_,_,_,_,_,_,afE (r:={r with tp:=y}) (x:=z) hz,λblk=>⟨λh5=>?_,λh5=>⟨bh _ (by omega) (by omega),λ_=>⟨nxt q' y (aq h5) A7 hT' _ rfl,by dsimp only;omega⟩⟩⟩⟩;have e3:xr u q' z.m=TD q' z.m.id z.m.c:=aB h5;have hro:∀ {R h},(ju b q' {r with tp:=y}).p R h->(bE z.a z.m.c.data.length z.m.c.data).p R h:=λH=>ai (PL.jK (K:=Kt) hz (PW.part (k:=2) rfl H));refine az.cM (φ:=z.m.c.data.length≠0->z.a.isSome=true) (λR h H hn=>bN.some (hro H) (by omega)) λhza=>?_;refine(Kw A7 (hsf.1 h5) hT' z.m.id z.m.c z.a z.n (bE z.a z.m.c.data.length z.m.c.data) (bX.ro _ _ _ _) hza).aK (λR h H=>ak (bN.join (hro H) H)) ?_;rintro v R h ⟨y',⟨rfl,ON⟩,H⟩
    have hT3:(TD q' z.m.id z.m.c).T.isSome=true:=by
     unfold TD;cases e:q'.T with
     |none=>rw[e]at hT';cases hT'
     |some T=>rfl
    exact⟨_,rfl,⟨bh _ (by omega) (by omega),λ_=>⟨nxt _ y' e3 ON hT3 _ rfl,by dsimp only;omega⟩⟩,ai H⟩
   ·have lH:¬(k:Int)<r.rC.length:=lH;obtain rfl:k=r.rC.length:=by omega
    rw[List.take_of_length_le (by omega)]at hfo;rw[<-hfo];exact qi (iT (cs':=(zY {q' with kp:=[]} {r with tp:=y,ka:=none,kc:=0,rC:=[]}).toArray) NB rfl rfl rfl rfl) (.of λR h H=>⟨{r with tp:=y,ka:=none,kc:=0,rC:=[]},⟨rfl,A7.t,rfl,Nat.zero_le _,λx hx=>by cases hx⟩,ae H (λ_ h=>ae h (λ_ h=>h) λ_ h=>ae h (λ_ h=>h) λ_ h=>ae h (λ_ h=>h) λ_ _=>wd _ _ _) λ_ h=>h⟩)
end
structure NF(q:fA)(x:fF):Prop where
 nx: -1<=q.nx/\q.nx<=1000000000
 wf:WfQ q
 kl:q.kp.length<1000000
 dl:∀l,w7 x.data=some l->l.kind=1->∀y,jx l.pl=some y->y.data.length<=1000000
 ks:∀l,w7 x.data=some l->l.kind=2->∀u T,yJ jZ l.pl=some (u,T)->∀p:fA,p.T=some T->Kv u q.kp p
section
variable {b:Nat}{q:fA}{r:KY}
theorem sX{l:ax}{x:cj}(h:w7 l=some x):x.pl.length<=65506:=by
 have:ei x=true:=by
  unfold w7 at h;split at h
  ·cases h
  ·split at h
   ·cases h
   ·split at h
    ·cases h
    ·split at h
     ·rename_i h1;cases h;exact h1
     ·cases h
 unfold ei at this;simp only[Bool.and_eq_true,decide_eq_true_eq]at this;exact this.2
set_option maxHeartbeats 1000000 in
theorem SR(x:fF)(ht:NF q x)(a:aG)(c:Nat)(S:HP)(hr:bX S a x.data.length (x.data.map eX))(hc:x.data.length<=c)(ha:x.data.length≠0->a.isSome=true):
 az prog 169 #[pt b,.agg #[an x.what,.slice a x.data.length c]] (aj (fV b q) S) (λv=>aA (v=cE) (aj (fV b (iz q x)) S)):=by
 refine(az.ex (A:=λr=>aA (GQ q r) (aj (ju b q r) S)) λr=>az.pure λhk=>?_).aK (λR h ⟨h1,h2,d,l1,l2,⟨r,e,H⟩,HS⟩=>⟨r,e,h1,h2,d,l1,l2,H,HS⟩) λ_ _ _ h=>h;have ZO:=ht.nx;refine ao (ρ:=[.n b,.p (ju b q r),.i x.what,.a a,.n x.data.length,.n c,.p S]) {fk:=[123],aF:=nV,dN:=true,dv:=true,ck:=[123]} [(.ptr 0 0),(.agg [2,(.s 3)])] [(.b 0,1),(3,6)] 7 ?_;intro _
 let q1:fA:={q with nx:=q.nx+1}
 have Ha:GQ q1 r:=⟨hk.t,hk.k,hk.kb⟩;refine⟨q.nx,g8 rfl,q.nx,g8 rfl,bh _ (by omega) (by omega),λ_=>qi (iT (cs':=(zY q1 r).toArray) qr rfl rfl rfl rfl) ?_⟩;have up:iz q x=q1->HP.aT (aj (ju b q1 r) S) (aA True (aj (fV b (iz q x)) S)):=λe=>.of λR h H=>⟨trivial,by rw[e];exact ae H (λ_ h=>⟨r,Ha,h⟩) λ_ h=>h⟩;refine⟨λh=>up ?_,λh=>?_⟩
 ·unfold iz;exact aB h
 have hw:¬x.what≠1:=λn=>n h;refine(M0 a x.data.length c x.data S hr rfl hc ha).wk ?_;intro v R h H;unfold w8 at H;cases hq:w7 x.data with
 |none=>
  rw[hq]at H;obtain⟨rfl,H⟩:=H;refine⟨0,0,0,0,0,0,none,0,0,tt,3,rfl,λ_=>⟨λ_=>up ?_,λh=>absurd h (by decide)⟩,aW H⟩;unfold iz;dsimp only;rw[aq hw,hq]
 |some l=>
  rw[hq]at H;obtain⟨pa,pc,rfl,H⟩:=H;have hpa:l.pl.length≠0->pa.isSome=true:=λhn=>bY.some (ai H) (by omega);have hpc:=bY.le (ai H);have G7:=sX hq;have e:iz q x=if l.kind=1 then oO q1 q.nx l else if l.kind=2 then nX q1 q.nx l.pl else q1:=by unfold iz;dsimp only;rw[aq hw,hq]
  refine⟨l.kind,l.cl,l.bi,l.nu,l.st,l.bk,pa,l.pl.length,pc,dS pa l.pl.length pc l.pl,0,rfl,λ_=>⟨λh=>absurd rfl h,λ_=>⟨λh1=>?_,λh1=>⟨λh2=>?_,λh2=>up ?_⟩⟩⟩,H⟩
  ·clear H;refine(DL (q:=q1) Ha ht.wf ht.kl q.nx l pa pc (dS pa l.pl.length pc l.pl) (ow _ _ _ _ _ _) hpc hpa (by omega) (ht.dl l hq h1)).wk ?_;rintro v R h ⟨r',⟨rfl,A7⟩,H⟩;rw[aB h1]at e;exact⟨_,_,rfl,.of λR h H=>⟨trivial,by rw[e];exact ae H (λ_ h=>⟨r',A7,h⟩) λ_ h=>h⟩,H⟩
  ·clear H;refine(DM (q:=q1) Ha q.nx l pa pc (dS pa l.pl.length pc l.pl) (ow _ _ _ _ _ _) hpc hpa (by omega) (ht.ks l hq h2)).wk ?_;rintro v R h ⟨r',⟨rfl,A7⟩,H⟩;rw[aq h1,aB h2]at e;exact⟨_,_,rfl,.of λR h H=>⟨trivial,by rw[e];exact ae H (λ_ h=>⟨r',A7,h⟩) λ_ h=>h⟩,H⟩
  ·rw[e,aq h1,aq h2]
end
noncomputable def FQ:RF fA:=⟨fA.nx,λq=>q.T.isNone,iz,sW,λq k=>q.f k⟩
def fu:fA:=⟨0,some sH,λ_=>none,-1,-1,0,[]⟩
noncomputable abbrev iN:Nn where
 α:=fA
 F:=FQ
 R:=fV
 vy:=NF
 Hu:=λ_ _=>True
 th b q:=SN
 Pz b q:=SO
 PA b q x a c S ht hr hc ha:=SR x ht a c S hr hc ha
 PB b q low _:=SP low
 Xu b q k:=by
  refine(Ku k).post λv=>λR h d ⟨da,dc,na,nc,e,H⟩=>?_;obtain⟨R1,h1,q1,q2,q3,q4,H1⟩:=((bY.eP 5 1 da _ dc ((sQ q.f k).data.map eX)).gX ((bY.eP 9 1 na _ nc ((sQ q.f k).bp.map sE)).gX (HP.aT.refl (fV b q)))) R h d H;exact⟨R1,h1,q1,q2,q3,q4,da,dc,na,nc,e,H1⟩
theorem yN:az prog 25 #[] tt (λv=>aE λrb=>aA (v=pt rb) (iN.R rb fu)):=
 Xj.wk λv R h ⟨b,s,⟨e,h1,h2,h3,h4,h5,h6⟩,H⟩=>⟨b,e,⟨some (s.tb,s.t),s.am,none,0,[]⟩,⟨congrArg some h5,rfl,Nat.zero_le _,λx hx=>by cases hx⟩,by
  have ec:(zY fu ⟨some (s.tb,s.t),s.am,none,0,[]⟩).toArray= #[an s.nx,pt s.tb,.map (some s.am),an s.up,an s.at',an s.la,.slice none 0 0]:=by rw[h1,h2,h3,h4];rfl
  unfold ju RqX;rw[ec,show fu.f=s.f from h6.symm];exact ae H (λ_ h=>h) λ_ h=>ae h (λ_ h=>h) λ_ h=>ae h (λ_ h=>h) λ_ _=>wd _ _ _⟩
abbrev eA:=dX iN.α
section
variable {b:Nat}{g:eA}
theorem EX:az prog 15 #[pt b] (bA b g) (λv=>aA (v=an (FQ.nx g.rp)) (bA b g)):=by
 refine bA.od λr hok=>?_;refine ao (ρ:=[.n b,.p (dR b g r)]) {fk:=[78,85,82],aF:=[36,35,24],dN:=true,dv:=true,ck:=[78,85,82]} [(.ptr 0 0)] Nw 2 ?_;refine⟨_,sU rfl,?_⟩;refine(sV (iN.th r.rb g.rp)).wk ?_;rintro v R h ⟨rfl,H⟩;exact⟨_,rfl,.of λR h H=>⟨rfl,r,hok,H⟩,H⟩
theorem vq{B:Nat}(hB:B<=100000)(wf:∀T,fA.T g.rp=some T->ey B T):az prog 14 #[pt b] (bA b g)
 (λv=>aE λa=>aE λc=>aA (v=.slice a ((fA.T g.rp).getD []).length c) (aj (qR a ((fA.T g.rp).getD []).length ((fA.T g.rp).getD [])) (bA b g))):=by
 refine bA.od λr hok=>?_;refine ao (ρ:=[.n b,.p (dR b g r)]) {fk:=[78,85,82],aF:=[36,35,24],dN:=true,dv:=true,ck:=[78,85,82]} [(.ptr 0 0)] Nw 2 ?_;refine⟨_,sU rfl,?_⟩;refine(GJ (γ:=aG×Nat) (φ:=λv y=>v=.slice y.1 ((fA.T g.rp).getD []).length y.2) (P:=λy=>qR y.1 ((fA.T g.rp).getD []).length ((fA.T g.rp).getD [])) ((ND (b:=r.rb) (q:=g.rp) hB wf).aK (λ_ _ h=>h) λv R h ⟨a,c,e,H⟩=>⟨(a,c),e,H⟩)).wk ?_;rintro v R h ⟨⟨a,c⟩,rfl,H⟩;exact⟨a,_,c,qR a ((fA.T g.rp).getD []).length ((fA.T g.rp).getD []),rfl,.of λR h H=>⟨a,c,rfl,ae (ak H) (λ_ h=>h) λ_ h=>⟨r,hok,h⟩⟩,H⟩
theorem EY:az prog 16 #[pt b] (bA b g)
 (λv=>aE λa=>aE λc=>aE λes:List ky=>aA (v=.agg #[an g.aQ.ep,.slice a es.length c]/\es.map (·.l)=g.aQ.ch) (aj (Ls ip a es.length es) (bA b g))):=by
 refine bA.od λr hok=>?_;refine ao (ρ:=[.n b,.p (dR b g r)]) {fk:=[78,85,82],aF:=[36,35,24],dN:=true,dv:=true,ck:=[78,85,82]} [(.ptr 0 0)] Nw 2 ?_;intro _;refine⟨_,_,_,_,vj (vs:=[an g.aQ.ep,.slice r.pa r.iG.length r.pc]) (by kernel_rfl) (by kernel_rfl) (by kernel_rfl) rfl rfl,?_⟩;have hpb:=hok.pb;refine(EN (dR b g r) g.aQ.ep r.pa r.iG.length r.pc r.iG (λR h H=>(CW.ro H).1) (by omega) (λx h=>by have:=hpb.2 x h;omega)).wk ?_;rintro v R h ⟨a',c',cZ,⟨rfl,he⟩,H⟩;have tZ:cZ.length=r.iG.length:=(ai H).1;exact⟨g.aQ.ep,a',r.iG.length,c',Ls ip a' r.iG.length cZ,rfl,.of λR h H=>⟨a',c',cZ,⟨by rw[tZ],by rw[he,hok.p]⟩,ae (ak H) (λ_ h=>by rw[tZ];exact h) λ_ h=>⟨r,hok,h⟩⟩,H⟩
def oP(q:fA)(T:List Nd):sK:={DF with kind:=2,pl:=jw q.nx T}
noncomputable def pB(g:eA):eA×Int:=if g.busy=true\/g.waits=true then(g,7)else match fA.T g.rp with
 |none=>(g,5)
 |some T=>(kq FQ 9 (cK g (oP g.rp T)),0)
def zG(q:fA)(p:rx):sK:={DF with step:=3,at':=q.up,left:=mT p}
noncomputable def mJ(g:eA):eA×Int:=if g.busy=true\/g.waits=true then(g,7)else if fA.at' g.rp<0 then(g,5)else(kq FQ 9 (cK g (zG g.rp g.aQ)),0)
theorem ac3{q:ru}{j:sK}{S:HP}(hj:JOk j q.dc)(hq:q.ov=none)(hn:0<=g.fQ/\g.fQ<=1000000000000)(hs:pz 9 (cK g j)){r:ru}(hok:EO g r)(hS:∀R h,S.p R h->(aj (bE q.ya j.pl.length j.pl) (aj (bE q.da j.cell.data.length j.cell.data) (kv q.la j.left.length q.lc j.left))).p R h){A:HP}{e:Int}{x:eA×Int}(he:x=(kq FQ 9 (cK g j),e))(hA:HP.aT (bA b x.1) A):
 az prog 29 #[pt b,.agg (afo j q).toArray] (aj (dR b g r) S) (λv=>aE λQ=>aE λQ2=>aA (v=cE) (aA (HP.aT Q A) (aj Q Q2))):=
 sI (Q2:=tt) ((CK 9 j q hj hq hn hs).aK (λR h H=>ae H (λ_ h=>⟨r,hok,h⟩) λy hy=>hS _ _ hy) λv R h ⟨e,H⟩=>⟨e,aD H⟩) (by rw[he]at hA;exact hA)
set_option maxHeartbeats 1000000 in
theorem SS{B:Nat}(hB:B<=100000)(wf:∀T,fA.T g.rp=some T->ey B T/\(jw (fA.nx g.rp) T).length<=1000000)(hn:0<=g.fQ/\g.fQ<=1000000000000)
 (hs:¬(g.busy=true\/g.waits=true)->∀T,fA.T g.rp=some T->pz 9 (cK g (oP g.rp T))):
 az prog 11 #[pt b] (bA b g) (λv=>aA (v=an (pB g).2) (bA b (pB g).1)):=by
 refine bA.od λr hok=>?_;refine ao (ρ:=[.n b,.p (dR b g r)]) {fk:=[78,85,82],aF:=gF,bU:=gG,dN:=true,dv:=true,ck:=[78,85,82]} nT mR 2 ?_
 have ret:∀ {e:Int},pB g=(g,e)->HP.aT (dR b g r) (aA (an e=an (pB g).2) (bA b (pB g).1)):=λ{e} h=>by
  rw[h];exact .of λR h H=>⟨rfl,r,hok,H⟩
 refine⟨_,Ki rfl,λh1=>ret (aB (.inl h1)),λh1=>⟨_,Ki rfl,λh2=>ret (aB (.inr h2)),λh2=>⟨_,sU rfl,?_⟩⟩⟩;have nw:¬(g.busy=true\/g.waits=true):=λh=>h.elim h1 h2;obtain⟨l,hl⟩:∃l,l=(Option.map (jw (fA.nx g.rp)) (fA.T g.rp)).getD []:=⟨_,rfl⟩
 have sn:az prog 31 #[pt r.rb] (iN.R r.rb g.rp) (λv=>aE λy:aG×Nat=>aA (v=.tuple #[.slice y.1 l.length y.2,an (if(fA.T g.rp).isSome=true then 0 else 5)]) (aj (bE y.1 l.length l) (iN.R r.rb g.rp))):=by
  refine(SQ (b:=r.rb) (q:=g.rp) hB λT e=>(wf T e).1).post λv=>λR h d ⟨a,c,e,H⟩=>?_;obtain⟨R1,h1,q1,q2,q3,q4,H1⟩:=(HP.aT.aj (bY.eP _ _ _ _ _ _) (fV r.rb g.rp)) R h d H;rw[hl];exact⟨R1,h1,q1,q2,q3,q4,(a,c),e,H1⟩
 refine(GJ sn).wk ?_;rintro v R h ⟨⟨a,c⟩,rfl,H⟩;refine⟨a,_,c,bE a l.length l,_,rfl,?_,H⟩;clear H;cases e:fA.T g.rp with
 |none=>exact⟨λ_=>ret (by unfold pB;rw[aq nw,e]),λh=>absurd h (by decide)⟩
 |some T=>
  have un:pB g=(kq FQ 9 (cK g (oP g.rp T)),0):=by unfold pB;rw[aq nw,e]
  rw[e]at hl;have hT:=wf T e;subst hl;refine⟨λh=>absurd rfl h,λ_=>?_⟩;exact ac3 (q:={r with ya:=a,yc:=c,da:=none,dc:=0,ov:=none,la:=none,lc:=0}) (j:=oP g.rp T) ⟨hT.2,⟨Nat.zero_le _,Nat.zero_le _⟩,Nat.zero_le _,rfl⟩ rfl hn (hs nw T e) hok (λR h H=>bN.join H (bN.join (bN.nil _ _ _ h) (bY.nil _ _ R h))) un (.of λR h H=>⟨by rw[un],H⟩)
set_option maxHeartbeats 1000000 in
theorem SU(hp:dw g.aQ=true)(hn:0<=g.fQ/\g.fQ<=1000000000000)
 (hs:¬(g.busy=true\/g.waits=true)->0<=fA.at' g.rp->pz 9 (cK g (zG g.rp g.aQ))):
 az prog 12 #[pt b] (bA b g) (λv=>aA (v=an (mJ g).2) (bA b (mJ g).1)):=by
 refine bA.od λr hok=>?_;refine ao (ρ:=[.n b,.p (dR b g r)]) {fk:=[78,85,82],aF:=gF,bU:=gG,dN:=true,dv:=true,ck:=[78,85,82]} nT mR 2 ?_
 have ret:∀ {e:Int},mJ g=(g,e)->HP.aT (dR b g r) (aA (an e=an (mJ g).2) (bA b (mJ g).1)):=λ{e} h=>by
  rw[h];exact .of λR h H=>⟨rfl,r,hok,H⟩
 refine⟨_,Ki rfl,λh1=>ret (aB (.inl h1)),λh1=>⟨_,Ki rfl,λh2=>ret (aB (.inr h2)),λh2=>⟨_,sU rfl,?_⟩⟩⟩;have nw:¬(g.busy=true\/g.waits=true):=λh=>h.elim h1 h2;refine(sV (GS (b:=r.rb) (q:=g.rp))).wk ?_;rintro v R h ⟨rfl,H⟩;refine⟨_,_,rfl,⟨λh3=>ret (by unfold mJ;rw[aq nw];exact aB h3),λh3=>?_⟩,H⟩;clear H;have un:mJ g=(kq FQ 9 (cK g (zG g.rp g.aQ)),0):=by unfold mJ;rw[aq nw];exact aq h3
 refine⟨_,_,_,_,vj (vs:=[an g.aQ.ep,.slice r.pa r.iG.length r.pc]) (by kernel_rfl) (by kernel_rfl) (by kernel_rfl) rfl rfl,?_⟩;have G7:(⟨g.aQ.ep,r.iG.map λx=>x.l⟩:rx)=g.aQ:=by rw[hok.p]
 refine(GP (dR b g r) g.aQ.ep r.pa r.iG.length r.pc r.iG (λR h H=>(CW.ro H).1) (by rw[G7];exact hp)).wk ?_;rw[G7];rintro v R h ⟨a,c,rfl,H⟩;refine⟨a,_,c,kv a (mT g.aQ).length c (mT g.aQ),rfl,?_,H⟩;clear H
 have hl:(mT g.aQ).length<=1000000:=by
  unfold mT;rw[List.length_mergeSort];have:=CD (u:=7) (nH hp).nd (nH hp).rg;omega
 exact ac3 (q:={r with ya:=none,yc:=0,da:=none,dc:=0,ov:=none,la:=a,lc:=c}) (j:=zG g.rp g.aQ) ⟨Nat.zero_le _,⟨Nat.zero_le _,Nat.zero_le _⟩,hl,rfl⟩ rfl hn (hs nw (by omega)) hok (λR h H=>bN.join (bN.nil _ _ _ h) (bN.join (bN.nil _ _ _ h) H)) un (.of λR h H=>⟨by rw[un],H⟩)
end
section
variable {I:Nn}
theorem sR.new{m:Nat}{R h:PH}(H:(HP.one m (.map #[] 0)).p R h):(sR m []).p R h:=gI.new Aq iE m H
set_option maxHeartbeats 2000000 in
theorem CN(s0:I.α)(hN:az prog 25 #[] tt (λv=>aE λrb=>aA (v=pt rb) (I.R rb s0)))(node dz cL ep:Int)(a:aG)(n c:Nat)(es:List ky)(S:HP)(hS:∀R h,S.p R h->(Ls ip a n es).p R h)(hb:0<=dz/\dz<=1000000)(hn:es.length<=1000)(hx:∀x∈es,x.l.length<=1000000):
 az prog 7 #[an node,an dz,an cL,.agg #[an ep,.slice a n c]] S (λv=>aE λb=>aA (v=pt b) (aj (bA b (iM node dz cL ⟨ep,es.map (·.l)⟩ s0)) S)):=by
 refine az.cM (φ:=es.length=n) (λR h H=>(hS R h H).1) λhl=>?_;subst hl;refine ao (ρ:=[.i node,.i dz,.i cL,.i ep,.a a,.n es.length,.n c,.p S]) {fk:=[78,85,82],aF:=gF,bU:=gG,dN:=true,dv:=true,ck:=[78,85,82]} [0,1,2,(.agg [3,(.s 4)])] [(4,7)] 8 ?_;intro _;refine(EN S ep a es.length c es hS (by omega) (λx h=>by have:=hx x h;omega)).wk ?_;rintro v R h ⟨a',c',cZ,⟨rfl,he⟩,H⟩;have tZ:cZ.length=es.length:=(ai H).1;refine⟨ep,a',es.length,c',Ls ip a' es.length cZ,rfl,?_,H⟩;clear H;refine hN.wk ?_;rintro v R h ⟨rb,rfl,H⟩;refine⟨pt rb,I.R rb s0,rfl,λx y=>.of λR h H=>⟨y,rfl,?_⟩,H⟩
 have hw:IntKind.i64.wrap (dz*2^min (Int.toNat 32) IntKind.i64.bits)=dz*4294967296:=by
  have e:(2:Int)^min (Int.toNat 32) IntKind.i64.bits=4294967296:=by decide
  rw[e];exact eZ ⟨by show(-9223372036854775808:Int)<=_;omega,by show _<=(9223372036854775807:Int);omega⟩
 rw[hw]at H
 let g:dX I.α:=iM node dz cL ⟨ep,es.map (·.l)⟩ s0
 let r:ru:=⟨a',c',cZ,rb,none,0,none,0,none,none,0,none,x,none,0,[],none,0,none,0⟩
 have hok:EO g r:=⟨he,⟨by show cZ.length<=1000;omega,λz hz=>?_⟩,Nat.zero_le _,⟨Nat.zero_le _,Nat.zero_le _⟩,Nat.zero_le _,rfl,⟨Nat.zero_le _,λm hm=>(by cases hm)⟩,⟨Nat.zero_le _,List.nodup_nil,λy hy=>(by cases hy)⟩⟩
 ·have hls:(Ls ip a' es.length cZ).p R h:=ai (ah (ah H));have H1:=HP.pick [S,_,Ls ip a' es.length cZ,I.R rb s0,HP.one x (.map #[] 0)] [1,3,4,0] (by decide) rfl H
  have H2:(aj (aj (HP.one y (.cells (dG g r).toArray 87 (0,0))) (aj (I.R rb s0) (HP.one x (.map #[] 0)))) S).p R h:=by
   have e:(dG g r).toArray= #[an node,an dz,an cL,an ep,.slice a' cZ.length c',pt rb,an 0,an 0,an (dz*4294967296),.bool false,an 0,an 0,an 0,an 0,an 0,an 0,.slice none 0 0,an 0,an 0,.slice none 0 0,.pointer none,.slice none 0 0,.pointer none,an 0,.map (some x),.slice none 0 0,.bool false,an 0,an 0,an 0,an 0,an 0,an 0,an 0,.slice none 0 0,.slice none 0 0]:=rfl;rw[e,tZ];exact aC (ae H1 (λ_ h=>h) λz hz=>aC hz)
  refine ae H2 (λz hz=>⟨r,hok,ae hz (λ_ h=>h) λu hu=>?_⟩) λ_ h=>h;refine ae hu (λ_ h=>h) λw hw=>Hd (λ_=>rfl) (Hd (λ_=>rfl) ?_);refine⟨w,PH.cV,PH.eC _,PH.le.refl _,PH.dB _,sR.new hw,?_⟩;refine Hd (λ_=>wd _ _ _) ?_;exact⟨PH.cV,_,PH.eL _,PH.dB _,PH.le.refl _,bY.nil _ _ _ _,by show(Ls ip a' cZ.length cZ).p R _;rw[tZ];exact Ls.iF _ hls,bN.nil _ _ _ _,bN.nil _ _ _ _,bN.nil _ _ _ _,bN.nil _ _ _ _⟩
 ·have:z.l∈es.map (·.l):=by rw[<-he];exact List.mem_map.2 ⟨z,hz,rfl⟩
  obtain⟨w,hw,e⟩:=List.mem_map.1 this;rw[<-e];exact hx w hw
end
end
namespace RX
-- cH/aoM.New:ρ:=[]
abbrev ac4:Hp:=[((.b 0),(.cells [(.ptr 1 0)] 31)),(.b 1,2),((.b 3),(.cells [4,5,6,(.bool 7),8,9,10,11,(.s 12),16,17,(.s 18),22,23,24,25] 64)),(12,15),(18,21),((.b 26),(.cells [(.ptr 27 0)] 152)),((.b 27),(.cells [28,29,30,(.bool 31),32,33,34,35,(.s 36),40,41,(.s 42),46,47,48,49] 64)),(36,39),(42,45)]
abbrev ac5:List A:=[2,3,4,(.bool 5),6,7,8,9,(.s 10),14,15,(.s 16),20,21,22,23]
abbrev XP:Hp:=[(.b 0,1)]
end RX
section
open RX
def bl8(f:Nat->Int):List Value:=[an (f 0),an (f 1),an (f 2),an (f 3),an (f 4),an (f 5),an (f 6),an (f 7)]
def SV(e n:Int)(f:Nat->Int):List Value:=[an e,an n]++bl8 f
def YN(b:Nat)(e n:Int)(f:Nat->Int):HP:=HP.one b (.cells (SV e n f).toArray 110 (0,0))
theorem PO(f:Nat->Int){k:Nat}(h:k<8)(x:Int):(bl8 f).set k (an x)=bl8 (λj=>if j=k then x else f j):=by
 have:k=0\/k=1\/k=2\/k=3\/k=4\/k=5\/k=6\/k=7:=by omega
 rcases this with rfl|rfl|rfl|rfl|rfl|rfl|rfl|rfl<;>rfl
section
variable {b:Nat}{e n:Int}{f:Nat->Int}
theorem zZ{k:Nat}{x:Int}(hk:(SV e n f)[k]? =some (an x)):aM prog (bO 3 (.pointer (some ⟨b,k,none⟩))) (YN b e n f) (an x):=by
 have:=Zu rV Dj Oz (b:=b) (k:=k) (cs:=(SV e n f).toArray) (e:=110) (v:=an x) hk (Q:=tt);exact aM.aT (.of λR h H=>aD H) this
theorem SW{k:Nat}(hk:k<10){x:Int}{e' n':Int}{f':Nat->Int}(uN:(SV e n f).set k (an x)=SV e' n' f'):
 aR prog (cv 3 (.pointer (some ⟨b,k,none⟩)) (an x)) (YN b e n f) (λv=>aA (v=cE) (YN b e' n' f')):=by
 obtain⟨i,hi,_,hz,_⟩:=info_parts jS;refine(Zv (e:=110) (b:=b) (k:=k) (cs:=(SV e n f).toArray) (cs':=(SV e' n' f').toArray) hi hz rfl rfl (by simp[SV,bl8];omega) (by rw[<-uN];simp) tt).aK (λR h H=>aD H) λv R h ⟨e,H⟩=>⟨e,ai H⟩
end
theorem XQ:prog.underlying 108=some (.array 8 3):=by kernel_rfl
theorem XR:(prog.info? 3).isSome=true:=by kernel_rfl
section
variable (b:Nat)(e n:Int)
end
theorem ac6:prog.underlying 150=some (.map 3 1):=by kernel_rfl
def jF(bu bm br:Nat):AL Int:=[(9,KW 124 bu bm br,0),(8,KW 126 bu bm br,1)]
abbrev xt(bu ub:Nat):HP:=HP.one bu (.cells #[pt ub] 31)
theorem PP{mp:Nat}{l:AL Int}{c:Nat}(k:Int)(v:Value)(K:HP):aR prog (kK 150 (.map (some mp)) (an k) v) (aj (HP.one mp (aX iE l c)) K) (λx=>aA (x=cE) (aj (HP.one mp (aX iE (iq k v c l) (mY k l c))) K)):=
 ((o6 (r:=mp) (l:=l) (c:=c) iK ac6 k v).frame K).wk (λx R h ⟨h1,h2,d,l1,l2,⟨e,H⟩,HK⟩=>⟨e,h1,h2,d,l1,l2,H,HK⟩)
theorem SX(ub:Nat)(U:HP)(m:MR)(Dm Vm:HP)(rb:Nat)(Rc:HP):
 az prog 74 #[pt ub,.agg m.aJ,pt rb] (aj U (aj Dm (aj Vm Rc)))
 (λv=>aE λmp=>aE λbu=>aE λbm=>aE λbr=>aA (v=.map (some mp)) (aj (HP.one mp (aX iE (jF bu bm br) 2)) (aj (xt bu ub) (aj U (aj (dO bm m) (aj Dm (aj Vm (aj (kS br rb) Rc)))))))):=by
 refine be (ρ:=[.n ub,.p U,.i m.fr,.i m.to,.i m.num,.c m.bV,.i m.kind,.i m.ep,.i m.at',.i m.what,.a m.ca,.n m.cn,.n m.cc,.p Dm,.i m.br,.i m.bw,.a m.va,.n m.vn,.n m.vc,.p Vm,.i m.err,.i m.tail,.i m.low,.i m.back,.n rb,.p Rc]) {} [(.ptr 0 0),(.agg ac5),(.ptr 24 0)] [(.b 0,1),(10,13),(16,19),(.b 24,25)] 26 ?_;intro bu bm br mp
 let K:HP:=aj (xt bu ub) (aj U (aj (dO bm m) (aj Dm (aj Vm (aj (kS br rb) Rc)))))
 rw[eN (by decide)];refine uH ?_;refine(PP (mp:=mp) (l:=[]) (c:=0) 9 _ K).wk ?_;rintro v R h ⟨rfl,H⟩;refine⟨_,rfl,?_,H⟩;clear H;rw[eN (by decide)];refine uH ?_;refine(PP 8 _ K).wk ?_;rintro v R h ⟨rfl,H⟩;refine⟨_,rfl,.of λR h H=>⟨mp,bu,bm,br,rfl,?_⟩,H⟩;exact H
section
variable (ub bu bm br rb:Nat)(e n:Int)(m:MS)(ca:aG)(cc:Nat)(va:aG)(vc:Nat)
end
theorem afF:(prog.info? 1).map (λi=>(i.zero,i.size,i.bytes))=some (some .nilFunc,1,8):=by kernel_rfl
theorem aj1:xC prog 124:=⟨_,Tryz.func124,by kernel_rfl,by kernel_rfl⟩
structure NH where
 e:Int
 n:Int
 f:Nat->Int
abbrev pC(b:Nat)(s:NH):HP:=YN b s.e s.n s.f
theorem zH(b:Nat)(e n:Int)(f:Nat->Int):az prog 46 #[pt b] (YN b e n f) (λv=>aA (v=cE) (YN b e n λ_=> -1)):=by
 refine ao (ρ:=[.n b,.p (YN b e n f)]) {hv:=[(0,[(.b 0)])],dN:=true,dv:=true} [(.ptr 0 0)] XP 2 ?_
 try simp only[p7,ne_eq,Nat.reduceEqDiff,not_false_eq_true]
 refine⟨λi P=>∃k:Nat,i=k/\k<=8/\P=YN b e n (λj=>if j<k then -1 else f j),λi _=>8 - i.toNat,⟨0,rfl,by decide,by simp⟩,?_⟩;rintro _ _ ⟨k,rfl,hk,rfl⟩;refine⟨λhlt=>⟨.pointer (some ⟨b,2+k,none⟩),Bx XQ XR Oz rfl (by omega),?_⟩,λlH=>.of λR h H=>⟨trivial,?_⟩⟩
 ·refine(SW (b:=b) (e:=e) (n:=n) (k:=2+k) (x:= -1) (e':=e) (n':=n) (f':=λj=>if j<k+1 then -1 else f j) (by omega) (by
   unfold SV;rw[List.set_append_right _ _ (by simp)];simp only[List.length_cons,List.length_nil,Nat.zero_add,Nat.add_sub_cancel_left];rw[PO _ (by omega)];congr 2;funext j
   by_cases e1:j=k
   ·rw[aB e1,aB (by omega)]
   ·rw[aq e1]
    by_cases e2:j<k
    ·rw[aB e2,aB (by omega)]
    ·rw[aq e2,aq (by omega)])).wk ?_
  rintro v R h ⟨rfl,H⟩;exact⟨_,rfl,⟨bh _ (by omega) (by omega),λ_=>⟨⟨k+1,by omega,by omega,rfl⟩,by dsimp only;omega⟩⟩,H⟩
 ·obtain rfl:k=8:=by omega
  have e1:YN b e n (λj=>if j<8 then -1 else f j)=YN b e n λ_=> -1:=rfl;rw[<-e1];exact H
theorem XS:az prog 20 #[] tt (λv=>aE λb=>aA (v=pt b) (pC b ⟨-1,0,λ_=> -1⟩)):=by
 refine ao (ρ:=[]) {dN:=true,dv:=true} [] [] 0 ?_;intro b;refine(zH b (-1) 0 λ_=>0).aK (λR h H=>H) ?_;rintro v R h ⟨rfl,H⟩;exact⟨-1,0,-1,-1,-1,-1,-1,-1,-1,-1,rfl,.of λR h H=>⟨b,rfl,H⟩,H⟩
def fw(s:NH)(ep at':Int):Int×NH:=
 if ep<s.e then(8,s)else if ep<0\/at'<0\/4294967296<at' then(1,s)else if s.e<ep then(0,⟨ep,at',λ_=> -1⟩)else(0,{s with n:=max s.n at'})
def fj(s:NH)(ep st:Int):(Int×Int×Int)×NH:=
 if s.e<0\/ep≠s.e then((0,0,8),s)else if st<0\/8<=st then((0,0,1),s)else if 4294967296<s.n then((0,0,2),s)
 else((s.n,s.f st.toNat,0),{s with n:=s.n+1,f:=λj=>if j=st.toNat then s.n else s.f j})
section
variable (b:Nat)(s:NH)
theorem NI(ep at':Int):az prog 125 #[pt b,an ep,an at'] (pC b s) (λv=>aA (v=an (fw s ep at').1) (pC b (fw s ep at').2)):=by
 refine ao (ρ:=[.n b,.p (pC b s),.i ep,.i at']) {dN:=true,dv:=true} [(.ptr 0 0),2,3] XP 4 ?_;refine⟨s.e,zZ rfl,λh1=>.of λR h H=>?_,λh1=>?_⟩
 ·rw[show fw s ep at'=(8,s)from aB h1];exact⟨rfl,H⟩
 have bad:(ep<0\/at'<0\/4294967296<at')->fw s ep at'=(1,s):=λh=>by unfold fw;rw[aq h1,aB h]
 refine⟨λh2=>.of λR h H=>?_,λh2=>⟨λh3=>.of λR h H=>?_,λh3=>⟨λh4=>.of λR h H=>?_,λh4=>⟨s.e,zZ rfl,λh5=>?_,λh5=>?_⟩⟩⟩⟩
 ·rw[bad (.inl h2)];exact⟨rfl,H⟩
 ·rw[bad (.inr (.inl h3))];exact⟨rfl,H⟩
 ·rw[bad (.inr (.inr h4))];exact⟨rfl,H⟩
 ·rw[show fw s ep at'=(0,⟨ep,at',λ_=> -1⟩)from by unfold fw;rw[aq h1,aq (by omega),aB h5]];exact qi (SW (b:=b) (e:=s.e) (n:=s.n) (f:=s.f) (k:=0) (e':=ep) (n':=s.n) (f':=s.f) (by omega) rfl) (qi (SW (b:=b) (e:=ep) (n:=s.n) (f:=s.f) (k:=1) (e':=ep) (n':=at') (f':=s.f) (by omega) rfl) (gz (zH b ep at' s.f) (.of λR h H=>⟨rfl,H⟩)))
 ·rw[show fw s ep at'=(0,{s with n:=max s.n at'})from by unfold fw;rw[aq h1,aq (by omega),aq h5]];exact⟨s.n,zZ rfl,qi (SW (b:=b) (e:=s.e) (n:=s.n) (f:=s.f) (k:=1) (e':=s.e) (n':=max s.n at') (f':=s.f) (by omega) rfl) (.of λR h H=>⟨rfl,H⟩)⟩
theorem NJ(ep st:Int)(hn:0<=s.n):az prog 127 #[pt b,an ep,an st] (pC b s) (λv=>aA (v=.tuple #[an (fj s ep st).1.1,an (fj s ep st).1.2.1,an (fj s ep st).1.2.2]) (pC b (fj s ep st).2)):=by
 refine ao (ρ:=[.n b,.p (pC b s),.i ep,.i st]) {dN:=true,dv:=true} [(.ptr 0 0),2,3] XP 4 ?_
 try simp only[p7,ne_eq,Nat.reduceEqDiff,not_false_eq_true]
 have un:∀ {x y},fj s ep st=(x,y)->∀ {R h},(pC b y).p R h->(aA (Value.tuple #[an x.1,an x.2.1,an x.2.2]=.tuple #[an (fj s ep st).1.1,an (fj s ep st).1.2.1,an (fj s ep st).1.2.2]) (pC b (fj s ep st).2)).p R h:=λe R h H=>by rw[e];exact⟨rfl,H⟩
 refine⟨s.e,zZ rfl,λh1=>.of λR h H=>un (aB (.inl h1)) H,λh1=>⟨s.e,zZ rfl,λh2=>.of λR h H=>un (aB (.inr h2)) H,λh2=>?_⟩⟩;have n1:¬(s.e<0\/ep≠s.e):=λh=>h.elim h1 (λh=>h h2);refine⟨λh3=>.of λR h H=>un ((aq n1).trans (aB (.inl h3))) H,λh3=>⟨λh4=>.of λR h H=>un ((aq n1).trans (aB (.inr h4))) H,λh4=>?_⟩⟩;have n2:¬(st<0\/8<=st):=λh=>h.elim h3 h4;refine⟨s.n,zZ rfl,λh5=>.of λR h H=>un (((aq n1).trans (aq n2)).trans (aB h5)) H,λh5=>?_⟩;obtain⟨k,rfl⟩:∃k:Nat,st=k:=⟨st.toNat,by omega⟩;have hk:k<8:=by omega
 have hg:(SV s.e s.n s.f)[2+k]? =some (an (s.f k)):=by
  have:k=0\/k=1\/k=2\/k=3\/k=4\/k=5\/k=6\/k=7:=by omega
  rcases this with rfl|rfl|rfl|rfl|rfl|rfl|rfl|rfl<;>rfl
 have uN:(SV s.e s.n s.f).set (2+k) (an s.n)=SV s.e s.n (λj=>if j=k then s.n else s.f j):=by
  unfold SV;rw[List.set_append_right _ _ (by simp)];simp only[List.length_cons,List.length_nil,Nat.zero_add,Nat.add_sub_cancel_left];rw[PO _ hk]
 refine⟨s.n,zZ rfl,.pointer (some ⟨b,2+k,none⟩),Bx XQ XR Oz rfl hk,s.f k,zZ hg,.pointer (some ⟨b,2+k,none⟩),Bx XQ XR Oz rfl hk,qi (SW (by omega) uN) ⟨s.n,zZ rfl,bh _ (by omega) (by omega),λ_=>qi (SW (b:=b) (e:=s.e) (n:=s.n) (k:=1) (e':=s.e) (n':=s.n+1) (by omega) rfl) (.of λR h H=>un (((aq n1).trans (aq n2)).trans (aq h5)) H)⟩⟩
end
def iU(s:NH)(m:MS):Option MS×NH:=
 if m.bV=true then(none,s)else if m.kind=9 then(some {cN m with err:=(fw s m.ep m.at').1,tail:=if(fw s m.ep m.at').1=0 then(fw s m.ep m.at').2.n else 0,back:=(fw s m.ep m.at').2.e},(fw s m.ep m.at').2)
 else if m.kind=8 then(some {cN m with err:=(fj s m.ep m.at').1.2.2,tail:=(fj s m.ep m.at').1.1,back:=(fj s m.ep m.at').1.2.1},(fj s m.ep m.at').2)else(none,s)
section
variable (ub bu bm br rb:Nat)(s:NH)(m:MS)(ca:aG)(cc:Nat)(va:aG)(vc:Nat)
abbrev SY(U:HP)(r:MS):HP:=aj (xt bu ub) (aj U (aj (dO bm (m.ee ca cc va vc)) (aj (m.cW ca) (aj (m.cI va) (aj (kS br rb) (aj (dO rb (r.ee none 0 none 0)) (aj (r.cW none) (r.cI none))))))))
theorem NK(hk:m.kind=9)(hr:m.bV=false):az prog 124 #[pt bu,pt bm,pt br] (SY ub bu bm br rb m ca cc va vc (pC ub s) (cN m))
 (λv=>aA (v=cE) (SY ub bu bm br rb m ca cc va vc (pC ub (iU s m).2) ((iU s m).1.getD gS))):=by
 have e:iU s m=(some {cN m with err:=(fw s m.ep m.at').1,tail:=if(fw s m.ep m.at').1=0 then(fw s m.ep m.at').2.n else 0,back:=(fw s m.ep m.at').2.e},(fw s m.ep m.at').2):=by unfold iU;rw[aq (by rw[hr];decide),aB hk]
 rw[e];refine be (ρ:=.n bu:: .n ub:: .p (pC ub s):: .n bm:: .i m.fr:: .i m.to:: .i m.num:: .c m.bV:: .i m.kind:: .i m.ep:: .i m.at':: .i m.cell.what:: .a ca:: .n m.cell.data.length:: .n cc:: .p (m.cW ca):: .i m.br:: .i m.bw:: .a va::[.n m.val.length,.n vc,.p (m.cI va),.i m.err,.i m.tail,.i m.low,.i m.back,.n br,.n rb,.i m.to,.i m.fr,.i m.num,.c true,.i m.kind,.i m.ep,.i m.at',.i 0,.a none,.n 0,.n 0,.p ((cN m).cW none),.i 0,.i 0,.a none,.n 0,.n 0,.p ((cN m).cI none),.i 0,.i 0,.i 0,.i 0]) {} [(.ptr 0 0),(.ptr 3 0),(.ptr 26 0)] ac4 50 ?_;refine(NI ub s m.ep m.at').wk ?_;rintro v R h ⟨rfl,H⟩;refine⟨_,pC ub (fw s m.ep m.at').2,rfl,⟨λh0=>⟨_,zZ rfl,_,zZ rfl,.of λR h H=>⟨trivial,?_⟩⟩,λh0=>⟨_,zZ rfl,.of λR h H=>⟨trivial,?_⟩⟩⟩,H⟩
 ·simp only[aB h0];exact H
 ·simp only[aq h0];exact H
theorem NL(hk:m.kind=8)(hr:m.bV=false)(hn:0<=s.n):az prog 126 #[pt bu,pt bm,pt br] (SY ub bu bm br rb m ca cc va vc (pC ub s) (cN m))
 (λv=>aA (v=cE) (SY ub bu bm br rb m ca cc va vc (pC ub (iU s m).2) ((iU s m).1.getD gS))):=by
 have e:iU s m=(some {cN m with err:=(fj s m.ep m.at').1.2.2,tail:=(fj s m.ep m.at').1.1,back:=(fj s m.ep m.at').1.2.1},(fj s m.ep m.at').2):=by unfold iU;rw[aq (by rw[hr];decide),aq (by omega),aB hk]
 rw[e];refine be (ρ:=.n bu:: .n ub:: .p (pC ub s):: .n bm:: .i m.fr:: .i m.to:: .i m.num:: .c m.bV:: .i m.kind:: .i m.ep:: .i m.at':: .i m.cell.what:: .a ca:: .n m.cell.data.length:: .n cc:: .p (m.cW ca):: .i m.br:: .i m.bw:: .a va::[.n m.val.length,.n vc,.p (m.cI va),.i m.err,.i m.tail,.i m.low,.i m.back,.n br,.n rb,.i m.to,.i m.fr,.i m.num,.c true,.i m.kind,.i m.ep,.i m.at',.i 0,.a none,.n 0,.n 0,.p ((cN m).cW none),.i 0,.i 0,.a none,.n 0,.n 0,.p ((cN m).cI none),.i 0,.i 0,.i 0,.i 0]) {} [(.ptr 0 0),(.ptr 3 0),(.ptr 26 0)] ac4 50 ?_;refine(NJ ub s m.ep m.at' hn).wk ?_;rintro v R h ⟨rfl,H⟩;exact⟨_,_,_,pC ub (fj s m.ep m.at').2,rfl,.of λR h H=>⟨trivial,H⟩,H⟩
end
theorem aj2:xC prog 126:=⟨_,Tryz.func126,by kernel_rfl,by kernel_rfl⟩
set_option maxHeartbeats 1000000 in
theorem Kz(ub:Nat)(s:NH)(m:MS)(ca:aG)(cc:Nat)(va:aG)(vc:Nat)(hr:m.bV=false)(g:FuncId)(fgo:xC prog g)(hk:∀bu bm br,aY m.kind (jF bu bm br)=some (KW g bu bm br))(rE:((iU s m).1.getD gS).cell.data=[]/\((iU s m).1.getD gS).val=[])
 (hg:∀bu bm br rb,az prog g #[pt bu,pt bm,pt br] (SY ub bu bm br rb m ca cc va vc (pC ub s) (cN m)) (λv=>aA (v=cE) (SY ub bu bm br rb m ca cc va vc (pC ub (iU s m).2) ((iU s m).1.getD gS)))):
 az prog 37 #[pt ub,.agg (m.ee ca cc va vc).aJ] (aj (pC ub s) (aj (m.cW ca) (m.cI va)))
 (λv=>aA (v=.tuple #[.agg (((iU s m).1.getD gS).ee none 0 none 0).aJ,.bool true]) (aj (pC ub (iU s m).2) (aj (m.cW ca) (m.cI va)))):=by
 refine be (ρ:=[.n ub,.p (pC ub s),.i m.fr,.i m.to,.i m.num,.c m.bV,.i m.kind,.i m.ep,.i m.at',.i m.cell.what,.a ca,.n m.cell.data.length,.n cc,.p (m.cW ca),.i m.br,.i m.bw,.a va,.n m.val.length,.n vc,.p (m.cI va),.i m.err,.i m.tail,.i m.low,.i m.back]) {aF:=[73],vt:=[(.b 0),(.b 48)]} [(.ptr 0 0),(.agg ac5)] [(.b 0,1),(10,13),(16,19)] 24 ?_;intro x y;refine(JU (m.ee ca cc va vc) 0 (m.cW ca) (m.cI va)).wk ?_;rintro v R h ⟨rfl,H⟩;refine⟨m.to,m.fr,m.num,true,m.kind,m.ep,m.at',0,none,0,0,tt,0,0,none,0,0,tt,0,0,0,0,rfl,λrb=>?_,aW (aW H)⟩;clear H;refine(SX ub (pC ub s) (m.ee ca cc va vc) (m.cW ca) (m.cI va) rb _).wk ?_;rintro v R h ⟨mp,bu,bm,br,rfl,H⟩;have hD:=ai (ah (ah (ah (ah H))));have hV:=ai (ah (ah (ah (ah (ah H)))))
 let P0:HP:=cw [HP.one mp (aX iE (jF bu bm br) 2),xt bu ub,dO bm (m.ee ca cc va vc),m.cW ca,m.cI va,kS br rb]
 have hP0:∀y,(cw [HP.one mp (aX iE (jF bu bm br) 2),xt bu ub,dO bm (m.ee ca cc va vc),kS br rb]).p R y->P0.p R y:=λy hy=>
  HP.pick [m.cW ca,m.cI va,HP.one mp (aX iE (jF bu bm br) 2),xt bu ub,dO bm (m.ee ca cc va vc),kS br rb] [2,3,4,0,1,5] (by decide) rfl (bN.join hD (bN.join hV hy))
 have H2:=HP.pick [HP.one mp (aX iE (jF bu bm br) 2),xt bu ub,pC ub s,dO bm (m.ee ca cc va vc),m.cW ca,m.cI va,kS br rb,dO rb (Ch (m.ee ca cc va vc) 0),tt,tt] [0,1,3,6,2,4,5,7,8,9] (by decide) rfl H;have H3:=ae (gq (l:=[HP.one mp (aX iE (jF bu bm br) 2),xt bu ub,dO bm (m.ee ca cc va vc),kS br rb]) (m:=[pC ub s,m.cW ca,m.cI va,dO rb (Ch (m.ee ca cc va vc) 0),tt,tt]).1 H2) hP0 λ_ h=>h;refine⟨mp,P0,pC ub s,m.cW ca,m.cI va,m.to,m.fr,m.num,true,m.kind,m.ep,m.at',0,none,0,0,tt,0,0,none,0,0,tt,0,0,0,0,rfl,?_,H3⟩;clear H H2 H3 hP0 hD hV;obtain⟨i,hi,z1,_⟩:=info_parts afF;have iP:=iO (r:=mp) (l:=jF bu bm br) (c:=2) iK ac6 hi z1 m.kind true (A:=P0) (λR h H=>ai H);rw[aB rfl,show aY m.kind (jF bu bm br)=some (KW g bu bm br)from by exact hk _ _ _]at iP;simp only[Option.getD_some,Option.isSome_some]at iP;refine⟨KW g bu bm br,true,iP,λh=>(by rw[hr]at h;cases h),λ_=>⟨λh=>absurd rfl h,λ_=>?_⟩⟩;have hv:jG prog (KW g bu bm br) #[] _ _:=.inl ⟨_,_,rfl,fgo,hg bu bm br rb⟩;refine hv.bv (K:=HP.one mp (aX iE (jF bu bm br) 2)) (.of λR h H=>?_) λv=>.of λR h H=>?_
 ·have H1:=(gq (l:=[HP.one mp (aX iE (jF bu bm br) 2),xt bu ub,dO bm (m.ee ca cc va vc),m.cW ca,m.cI va,kS br rb]) (m:=[pC ub s,dO rb (Ch (m.ee ca cc va vc) 0),tt,tt])).2 H;have H2:=bN.join (bN.nil 1 none R h:((cN m).cW none).p R h) (bN.join (bN.nil 1 none R h:((cN m).cI none).p R h) H1);have H3:=HP.pick [(cN m).cW none,(cN m).cI none,HP.one mp (aX iE (jF bu bm br) 2),xt bu ub,dO bm (m.ee ca cc va vc),m.cW ca,m.cI va,kS br rb,pC ub s,dO rb (Ch (m.ee ca cc va vc) 0),tt,tt] [3,8,4,5,6,7,9,0,1,2] (by decide) rfl H2;exact(gq (l:=[xt bu ub,pC ub s,dO bm (m.ee ca cc va vc),m.cW ca,m.cI va,kS br rb,dO rb (Ch (m.ee ca cc va vc) 0),(cN m).cW none,(cN m).cI none]) (m:=[HP.one mp (aX iE (jF bu bm br) 2)])).1 H3
 ·obtain⟨h1,h2,dj,l1,l2,⟨rfl,HP1⟩,HM⟩:=H;generalize hx:(iU s m).2=x at HP1;generalize hs:(iU s m).1.getD gS=r' at HP1 rE;have hd:=rE;have H1:=(gq (l:=[xt bu ub,pC ub x,dO bm (m.ee ca cc va vc),m.cW ca,m.cI va,kS br rb,dO rb (r'.ee none 0 none 0),r'.cW none,r'.cI none]) (m:=[HP.one mp (aX iE (jF bu bm br) 2)])).2 ⟨h1,h2,dj,l1,l2,HP1,HM⟩;have H2:=HP.pick [xt bu ub,pC ub x,dO bm (m.ee ca cc va vc),m.cW ca,m.cI va,kS br rb,dO rb (r'.ee none 0 none 0),r'.cW none,r'.cI none,HP.one mp (aX iE (jF bu bm br) 2)] [1,6,7,8,9,0,2,3,4,5] (by decide) rfl H1;have H3:=(gq (l:=[pC ub x,dO rb (r'.ee none 0 none 0),r'.cW none,r'.cI none]) (m:=[P0,tt,tt])).2 (ae ((gq (l:=[pC ub x,dO rb (r'.ee none 0 none 0),r'.cW none,r'.cI none]) (m:=[HP.one mp (aX iE (jF bu bm br) 2),xt bu ub,dO bm (m.ee ca cc va vc),m.cW ca,m.cI va,kS br rb])).1 H2) (λ_ h=>h) λ_ h=>aD (ak (aW h)|>ai)|>λh=>ae h (λ_ h=>h) λ_ _=>aD trivial);refine⟨pC ub x,r'.fr,r'.to,r'.num,r'.bV,r'.kind,r'.ep,r'.at',r'.cell.what,none,r'.cell.data.length,0,r'.cW none,r'.br,r'.bw,none,r'.val.length,0,r'.cI none,r'.err,r'.tail,r'.low,r'.back,rfl,.of λR h H=>⟨rfl,?_⟩,H3⟩;exact ae H (λ_ h=>h) λy H=>ae H (λ_ h=>h) λz H=>ai H
theorem XT(ub:Nat)(s:NH)(m:MS)(ca:aG)(cc:Nat)(va:aG)(vc:Nat)(hr:m.bV=false)(hk:m.kind=8\/m.kind=9)(hn:0<=s.n):
 az prog 37 #[pt ub,.agg (m.ee ca cc va vc).aJ] (aj (pC ub s) (aj (m.cW ca) (m.cI va)))
 (λv=>aA (v=.tuple #[.agg (((iU s m).1.getD gS).ee none 0 none 0).aJ,.bool true]) (aj (pC ub (iU s m).2) (aj (m.cW ca) (m.cI va)))):=by
 have hd:((iU s m).1.getD gS).cell.data=[]/\((iU s m).1.getD gS).val=[]:=by
  unfold iU;rw[aq (by rw[hr];decide)];split
  ·exact⟨rfl,rfl⟩
  ·split<;>exact⟨rfl,rfl⟩
 rcases hk with hk|hk
 ·exact Kz ub s m ca cc va vc hr _ aj2 (λ_ _ _=>by rw[hk];rfl) hd λbu bm br rb=>NL ub bu bm br rb s m ca cc va vc hk hr hn
 ·exact Kz ub s m ca cc va vc hr _ aj1 (λ_ _ _=>by rw[hk];rfl) hd λbu bm br rb=>NK ub bu bm br rb s m ca cc va vc hk hr
def CO(L:List (Int×BA)):List uh:=L.filterMap λz=>dW L 0 z.1
theorem EZ{L:List (Int×BA)}{y:uh}:y∈CO L↔∃k,dW L 0 k=some y:=by
 unfold CO;rw[List.mem_filterMap];refine⟨λ⟨z,_,h⟩=>⟨z.1,h⟩,λ⟨k,h⟩=>?_⟩;have:k∈L.map (·.1):=Classical.byContradiction λhn=>by rw[nk.2 hn]at h;cases h
 obtain⟨z,hz,rfl⟩:=List.mem_map.1 this;exact⟨z,hz,h⟩
def CP(x:uh):Bool:=x.ok&& !(decide (x.r=0)&&decide (x.w=0))
def zJ(x y:uh):Bool:=decide (x.r<y.r)||(decide (x.r=y.r)&&decide (x.w<y.w))
theorem E0{x:uh}:CP x=true↔oH x:=by
 unfold CP oH;simp only[Bool.and_eq_true,Bool.not_eq_true',Bool.and_eq_false_iff,decide_eq_false_iff_not,not_and];refine and_congr_right λ_=>⟨λh h1=>h.resolve_left λh2=>h2 h1,λh=>?_⟩
 by_cases h1:x.r=0
 ·exact .inr (h h1)
 ·exact .inl h1
theorem SZ{x y:uh}:zJ x y=true↔rf x y:=by
 unfold zJ rf;simp only[Bool.or_eq_true,Bool.and_eq_true,decide_eq_true_eq]
def XU(L:List (Int×BA))(v0:ax):Option ax:=
 match(CO L).filter CP with
 |[]=>some v0
 |x::l=>match(x::l).filter λy=>(x::l).all λz=> !zJ y z with
  |[]=>none
  |b::bs=>if bs.all (λy=>decide (y.val=b.val))=true then some b.val else none
theorem aba{L:List (Int×BA)}{v0 v v':ax}(h:XU L v0=some v)(hc:si (dW L 0) v0 v'):v'=v:=by
 have hm:∀y,y∈(CO L).filter CP↔(∃k,dW L 0 k=some y)/\oH y:=λy=>by rw[List.mem_filter,EZ,E0]
 unfold XU at h;generalize (CO L).filter CP=C at h hm;rcases hc with⟨hno,rfl⟩|⟨k,x,hk,hx,rfl,Ij⟩
 ·cases C with
  |nil=>exact Option.some.inj h
  |cons y l=>
   obtain⟨⟨k,hk⟩,hy⟩:=(hm y).1 (by simp);exact absurd hy (hno k y hk)
 ·have hxC:=(hm x).2 ⟨⟨k,hk⟩,hx⟩;cases C with
  |nil=>cases hxC
  |cons y l=>
   dsimp only at h
   have hb:x∈(y::l).filter λz=>(y::l).all λu=> !zJ z u:=List.mem_filter.2 ⟨hxC,List.all_eq_true.2 λz hz=>by
    obtain⟨⟨k',A7⟩,hz'⟩:=(hm z).1 hz;have:=Ij k' z A7 hz';cases hq:zJ x z with
    |false=>rfl
    |true=>exact absurd (SZ.1 hq) this⟩
   generalize (y::l).filter (λz=>(y::l).all λu=> !zJ z u)=B at h hb;cases B with
   |nil=>cases hb
   |cons b bs=>
    dsimp only at h;split at h
    ·rename_i ha;obtain rfl:=Option.some.inj h;rcases List.mem_cons.1 hb with rfl|hb
     ·rfl
     ·exact of_decide_eq_true (List.all_eq_true.1 ha x hb)
    ·cases h
def KA(g:lq)(f r w:Int)(l:ax)(e:Int):Option lq:=
 if g.phase=1/\jh g f=true then
  (if(dJ g f (nJ r w l e)).2=true then(XU (dJ g f (nJ r w l e)).1.bH g.val).map λval=>{(dJ g f (nJ r w l e)).1 with val:=val,phase:=2,bH:=[],dk:=0}else some (dJ g f (nJ r w l e)).1)
 else some g
theorem XV{g g1 g':lq}{f r w:Int}{l:ax}{e:Int}(h:KA g f r w l e=some g1)(hp:rh g f r w l e g'):g'=g1:=by
 unfold KA at h;unfold rh at hp;split at h
 ·rename_i hc;rw[aB hc]at hp;split at h
  ·rename_i ht;rw[aB ht]at hp;obtain⟨val,hv,rfl⟩:=hp;obtain⟨v,hv2,rfl⟩:=Option.map_eq_some_iff.1 h;rw[aba hv2 hv]
  ·rename_i ht;rw[aq ht]at hp;rw[hp];exact Option.some.inj h
 ·rename_i hc;rw[aq hc]at hp;rw[hp];exact Option.some.inj h
def xv(g:cg)(m:MS):Option cg:=
 if m.bV=true/\Cn g m=true then
  (if g.st=1 then some (wY g m.fr.toNat m.err)
  else if g.st=2 then(match g.prop with
   |none=>none
   |some s=>(if m.kind=6 then KA s m.fr m.br m.bw m.val m.err else some (Dw s m.fr m.err)).map (n8 g))
  else if g.st=3 then some (rj g m m.fr.toNat)
  else if g.st=4 then some {g with st:=if m.err=0\/m.err=8 then 5 else 6}
  else some g)
 else some g
theorem PQ{g g1 g':cg}{m:MS}(h:xv g m=some g1)(ht:qW g m g'):g'=g1:=by
 unfold xv at h;unfold qW at ht
 by_cases hc:m.bV=true/\Cn g m=true
 ·rw[aB hc]at h ht;obtain⟨t1,t2,t3,t4,t5⟩:=ht
  by_cases h1:g.st=1
  ·rw[aB h1]at h;rw[t1 h1];exact Option.some.inj h
  rw[aq h1]at h
  by_cases h2:g.st=2
  ·rw[aB h2]at h;obtain⟨s,s',hp,hs,rfl⟩:=t2 h2;rw[hp]at h;dsimp only at h;obtain⟨s1,hs1,rfl⟩:=Option.map_eq_some_iff.1 h;unfold uu at hs
   by_cases hk:m.kind=6
   ·rw[aB hk]at hs hs1;rw[XV hs1 hs]
   ·rw[aq hk]at hs hs1;rw[hs,Option.some.inj hs1]
  rw[aq h2]at h
  by_cases h3:g.st=3
  ·rw[aB h3]at h;rw[t3 h3];exact Option.some.inj h
  rw[aq h3]at h
  by_cases h4:g.st=4
  ·rw[aB h4]at h;rw[t4 h4];exact Option.some.inj h
  rw[aq h4]at h;rw[t5 h1 h2 h3 h4];exact Option.some.inj h
 ·rw[aq hc]at h ht;rw[ht];exact Option.some.inj h
end
namespace RX
def tI:=(({fk:=[78,85,82,28,72,69,31]}:jo).fk)
def tJ:=(({aF:=[99999,15,16,14,23,13,5]}:jo).aF)
def tK:=(({ck:=[78,85,82,28,72,69,31]}:jo).ck)
abbrev abb:List A:=[2,3,4,(.bool 5),6,7,8,9,(.s 10),14,15,(.s 16),20,21,22,23]
abbrev abc:Hp:=[(.b 0,1),(10,13),(16,19)]
end RX
end Go.Proofs.YtchjlaebbhpioaaGreatDoor
