/- Texts of this claim, joined. No condition. -/
import Derived.Test.YtbkifafpjnjaiaaGreatDoorWNJ1
import Derived.Test.YtbkifafpjnjaiaaGreatDoorWNJ2
import Derived.Test.YtbkifafpjnjaiaaGreatDoorWNJ3
import Derived.Test.YtbkifafpjnjaiaaGreatDoorWNJ4
import Derived.Test.YtbkifafpjnjaiaaGreatDoorWNJ6
import Derived.KernelRfl
import Derived.OpenShut
import Derived.ProofKit
import Derived.ShutString
import Derived.ChangeOld
import Derived.Below
import Derived.SizedLaws
import Derived.Lay
import Derived.LaidMore
import Derived.Test.YtbkifafpjnjaiaaGreatDoorTie
import Derived.Test.YtbkifafpjnjaiaaGreatDoorCards
import Derived.SevenTiedAt
set_option linter.unusedSimpArgs false
set_option linter.unusedVariables false
namespace Go.Proofs.YtbkifafpjnjaiaaGreatDoor
set_option maxRecDepth 100000
section
open RX
theorem PL.aY{α:Type}{K:PK α}{f:FuncId}{args:Array Value}{a:Option Addr}{n c:Nat}{l:List α}{k:Nat}{x:α}(hk:l[k]? =some x){S:HP}{γ:Type}{φ:Value->γ->Prop}{y:γ->α}{Q:γ->HP}(he:∀z,K.aA (y z)=K.aA x)
 (t:ax Tryz.prog f args (HP.an (K.bf x) S) (λv=>HP.ex λz=>HP.and (φ v z) (HP.an (K.bf (y z)) (Q z)))):
 ax Tryz.prog f args (HP.an (PL K a n c l) S) (λv=>HP.ex λz=>HP.and (φ v z) (HP.an (PL K a n c (l.set k (y z))) (Q z))):=by
 refine(t.frame (nV K a n c l k)).ak (λR h H=>?_) λv R h ⟨h1,h2,d,l1,l2,⟨z,e,H⟩,HU⟩=>⟨z,e,?_⟩
 ·have H1:=HP.aq (HP.ae H (λ_ h=>PL.kT hk h) λ_ h=>h)
  exact HP.ay (HP.pick [K.bf x,nV K a n c l k,S] [0,2,1] (by decide) rfl H1)
 ·have H1:=HP.aq ⟨h1,h2,d,l1,l2,H,HU⟩
  have H2:=HP.pick [K.bf (y z),Q z,nV K a n c l k] [2,0,1] (by decide) rfl H1
  exact HP.ae (HP.ay H2) (λ_ h=>PL.join hk (he z) h) λ_ h=>h
theorem PW.part{ty:TypeId}{b:Nat}{cs:Array Value}{L:List HP}{k:Nat}{X:HP}(hk:L[k]? =some X){R h:PH}(H:(PW ty b cs (aX L)).p R h):X.p R h:=HP.aj (HP.aj (CW.kT (K:=HP.tt) hk (HP.az H)))
structure Q3 where
 ub:Nat
 bd:Nat
 s:eW
 ps:List Pg
def tB(room:Int):PK Q3:=⟨39,1,by decide,λu=>[.pointer (some ⟨u.ub,0,none⟩)],λ_=>rfl,λx u hu=>by rw[List.mem_singleton.1 hu];rfl,λu=>UD u.ub u.bd room u.s u.ps⟩
structure NR(I:tq) where
 b:Nat
 g:cE I.α
def qE(I:tq):PK (NR I):=⟨37,1,by decide,λx=>[.pointer (some ⟨x.b,0,none⟩)],λ_=>rfl,λx u hu=>by rw[List.mem_singleton.1 hu];rfl,λx=>b6 x.b x.g⟩
structure xT where
 d:DeS
 ca:Option Addr
 cc:Nat
 aa:Option Addr
 ac:Nat
 na:Option Addr
 nc:Nat
def xT.aA(x:xT):List Value:=[.int .i64 x.d.id.1,.int .i64 x.d.id.2.1,.int .i64 x.d.id.2.2,.int .i64 x.d.call.kind,sE x.d.call.path,sE x.d.call.bh,.int .i64 x.d.call.off,.int .i64 x.d.call.n,.slice x.ca x.d.call.data.length x.cc,.int .i64 x.d.aey,.int .i64 x.d.ended,
 .int .i64 x.d.aQ.bM,.int .i64 x.d.aQ.kind,.int .i64 x.d.aQ.size,.int .i64 x.d.aQ.d9,.slice x.aa x.d.aQ.data.length x.ac,.slice x.na x.d.aQ.aL.length x.nc]
def xU:qg xT:=⟨17,by decide,xT.aA,λ_=>rfl,λx=>HP.both (aO x.ca x.d.call.data.length x.d.call.data) (HP.both (aO x.aa x.d.aQ.data.length x.d.aQ.data) (tY x.na x.d.aQ.aL.length x.d.aQ.aL)),λ_ _ _ _ H=>H⟩
theorem r8:∀x,∀u∈xU.aA x,u.oneCell'=true:=λx u hu=>by
 simp only[xU,xT.aA,List.mem_cons,List.not_mem_nil,or_false]at hu
 rcases hu with h|h|h|h|h|h|h|h|h|h|h|h|h|h|h|h|h<;>(subst h;rfl)
abbrev gz:PK xT:=sC xU 61 r8
def oT:PK Int:=⟨3,1,by decide,λx=>[.int .i64 x],λ_=>rfl,λx u hu=>by rw[List.mem_singleton.1 hu];rfl,λ_=>HP.tt⟩
structure xV(I:tq) where
 fa:Option Addr
 fc:Nat
 xI:List iZ
 da:Option Addr
 dc:Nat
 ua:Option Addr
 uc:Nat
 mB:List Q3
 sq:Nat
 ca:Option Addr
 cc:Nat
 cls:List (NR I)
 ba:Option Addr
 bc:Nat
 ga:Option Addr
 gc:Nat
 nb:Nat
 ea:Option Addr
 ec:Nat
 fi:List xT
 oa:Option Addr
 oc:Nat
section
variable {I:tq}{room:Int}
def u7(w:gE I.α)(r:xV I):List Value:=[.int .i64 w.first.ep,.slice r.fa r.xI.length r.fc,.slice r.da r.mB.length r.dc,.slice r.ua r.mB.length r.uc,.pointer (some ⟨r.sq,0,none⟩),.slice r.ca r.cls.length r.cc,.slice r.ba w.ng.length r.bc,.slice r.ga w.gp.length r.gc,.pointer (some ⟨r.nb,0,none⟩),.int .i64 w.ft,.slice r.ea r.fi.length r.ec,.slice r.oa w.bz.length r.oc]
def u9(room:Int)(w:gE I.α)(r:xV I):List HP:=[cp 74 1 r.da r.mB.length r.dc (r.mB.map λu=>.pointer (some ⟨u.bd,0,none⟩)),PL (tB room) r.ua r.mB.length r.uc r.mB,mE r.sq w.sq,PL (qE I) r.ca r.cls.length r.cc r.cls,PL oT r.ba w.ng.length r.bc w.ng,PL oT r.ga w.gp.length r.gc w.gp,fY r.nb w.fK,PL gz r.ea r.fi.length r.ec r.fi,PL oT r.oa w.bz.length r.oc (w.bz.map λ(k:Nat)=>(k:Int)),Ls fu r.fa r.xI.length r.xI]
structure pX(w:gE I.α)(r:xV I):Prop where
 f:r.xI.map (·.l)=w.first.ch
 fb:r.xI.length<=1000/\∀x∈r.xI,x.l.length<=1000000
 u:r.mB.map (λu=>(u.s,u.ps))=w.us
 c:r.cls.map (·.g)=w.cls
 d:r.fi.map (·.d)=w.cq
 n:w.us.length<=7/\w.cls.length<=8/\w.ng.length=w.cls.length/\w.gp.length=w.cls.length
 o:w.cq.length<=1000000/\w.bz.length<=1000000/\∀k∈w.bz,k<w.cq.length
abbrev WW(room:Int)(b:Nat)(w:gE I.α)(r:xV I):HP:=PW 73 b (u7 w r).toArray (aX (u9 room w r))
def cw(room:Int)(b:Nat)(w:gE I.α):HP:=HP.ex λr=>HP.and (pX w r) (WW room b w r)
theorem cw.kF{f:FuncId}{args:Array Value}{b:Nat}{w:gE I.α}{S:HP}{B:Value->HP}(t:∀r,pX w r->ax Tryz.prog f args (HP.an (WW room b w r) S) B):ax Tryz.prog f args (HP.an (cw room b w) S) B:=
 (ax.ex (A:=λr=>HP.and (pX w r) (HP.an (WW room b w r) S)) λr=>ax.pure λh=>t r h).ak (λR h ⟨h1,h2,d,l1,l2,⟨r,e,H⟩,HS⟩=>⟨r,e,h1,h2,d,l1,l2,H,HS⟩) λ_ _ _ h=>h
theorem cw.kx{f:FuncId}{args:Array Value}{b:Nat}{w:gE I.α}{B:Value->HP}(t:∀r,pX w r->ax Tryz.prog f args (WW room b w r) B):ax Tryz.prog f args (cw room b w) B:=ax.ex λr=>ax.pure λh=>t r h
variable {b:Nat}{w:gE I.α}{r:xV I}
theorem Vu:Tryz.prog.underlying 69=some (.slice 39):=by kernel_rfl
theorem aez:Tryz.prog.underlying 39=some (.pointer 104):=by kernel_rfl
theorem oU:Tryz.prog.underlying 70=some (.slice 37):=by kernel_rfl
theorem xJ:Tryz.prog.underlying 37=some (.pointer 118):=by kernel_rfl
theorem xK:Tryz.prog.underlying 66=some (.pointer 97):=by kernel_rfl
theorem aba:Tryz.prog.underlying 64=some (.pointer 95):=by kernel_rfl
theorem qF:Tryz.prog.underlying 35=some (.slice 61):=by kernel_rfl
theorem xL{k:Nat}{x:NR I}(hk:r.cls[k]? =some x){i:Nat}(hi:i=k):aH Tryz.prog (bG 37 (.pointer (r.ca.map λy=>(y.add (i*1)).add 0))) (WW room b w r) (dZ (.pointer (some ⟨x.b,0,none⟩))):=by
 subst hi
 refine b7 xJ (by kernel_rfl) (by kernel_rfl) (Rd.nU (PL.rd (K:=qE I) r.ca r.cls.length r.cc r.cls) λR h H=>PW.part (k:=3) rfl H) (k:=i*1) (off:=0) ?_
 exact(cZ (qE I).aA 1 (λ_=>rfl) r.cls i 0 x hk (by decide)).trans rfl
theorem abb{k:Nat}{x:Q3}(hk:r.mB[k]? =some x){i:Nat}(hi:i=k):aH Tryz.prog (bG 39 (.pointer (r.ua.map λy=>(y.add (i*1)).add 0))) (WW room b w r) (dZ (.pointer (some ⟨x.ub,0,none⟩))):=by
 subst hi
 refine b7 aez (by kernel_rfl) (by kernel_rfl) (Rd.nU (PL.rd (K:=tB room) r.ua r.mB.length r.uc r.mB) λR h H=>PW.part (k:=1) rfl H) (k:=i*1) (off:=0) ?_
 exact(cZ (tB room).aA 1 (λ_=>rfl) r.mB i 0 x hk (by decide)).trans rfl
theorem WW.i6{R h:PH}(H:(WW room b w r).p R h)(hn:r.cls.length≠0):r.ca.isSome=true:=PL.nG (PW.part (k:=3) rfl H) hn
theorem WW.oX{R h:PH}(H:(WW room b w r).p R h)(hn:r.mB.length≠0):r.ua.isSome=true:=PL.nG (PW.part (k:=1) rfl H) hn
theorem XP:ax Tryz.prog 7 #[.pointer (some ⟨b,0,none⟩)] (WW room b w r) (λv=>HP.and (v=.int .i64 w.ft) (WW room b w r)):=by
 refine ah (ρ:=[.n b,.p (WW room b w r)]) mixed Tryz.func7 QA ?_
 unfold Vq
 refine cg ?_
 exact⟨w.ft,gW rfl,.of λR h H=>⟨rfl,H⟩⟩
def i6(r:xV I)(n:Int):Option (NR I):=if n<8 then none else r.cls[(n - 8).toNat]?
def oX(r:xV I)(n:Int):Option Q3:=if n<0 then none else r.mB[n.toNat]?
theorem qG(n:Int)(hl:r.cls.length<=8):ax Tryz.prog 10 #[.pointer (some ⟨b,0,none⟩),.int .i64 n] (WW room b w r) (λv=>HP.and (v=.pointer ((i6 r n).map λx=>⟨x.b,0,none⟩)) (WW room b w r)):=by
 refine ax.bV (φ:=r.cls.length≠0->r.ca.isSome=true) (λR h H=>WW.i6 H) λhs=>?_
 refine ah (ρ:=[.n b,.p (WW room b w r),.i n]) mixed Tryz.func10 CA ?_
 unfold AE
 refine cg ?_
 have no:i6 r n=none->HP.aV (WW room b w r) (HP.and (Value.pointer none=.pointer ((i6 r n).map λx=>⟨x.b,0,none⟩)) (WW room b w r)):=λh=>.of λR y H=>⟨by rw[h];rfl,H⟩
 refine⟨λh=>no (if_pos h),λh=>⟨r.ca,r.cls.length,r.cc,gn oU (by kernel_rfl) (by kernel_rfl) rfl,aK _ (by omega) (by omega),λ_=>⟨λh2=>no ?_,λh2=>⟨r.ca,r.cls.length,r.cc,gn oU (by kernel_rfl) (by kernel_rfl) rfl,aK _ (by omega) (by omega),λ_=>⟨by omega,λ_=>⟨by omega,λ_=>⟨hs (by omega),λ_=>?_⟩⟩⟩⟩⟩⟩⟩
 ·unfold i6;rw[if_neg h];exact List.getElem?_eq_none (by omega)
 ·obtain⟨x,hx⟩:∃x,r.cls[(n - 8).toNat]? =some x:=⟨_,List.getElem?_eq_getElem (show(n - 8).toNat<r.cls.length by omega)⟩
  refine⟨_,xL hx rfl,.of λR y H=>⟨?_,H⟩⟩
  have:i6 r n=some x:=by unfold i6;rw[if_neg h];exact hx
  rw[this];rfl
theorem Hn(n:Int)(hl:r.mB.length<=7):ax Tryz.prog 11 #[.pointer (some ⟨b,0,none⟩),.int .i64 n] (WW room b w r) (λv=>HP.and (v=.pointer ((oX r n).map λx=>⟨x.ub,0,none⟩)) (WW room b w r)):=by
 refine ax.bV (φ:=r.mB.length≠0->r.ua.isSome=true) (λR h H=>WW.oX H) λhs=>?_
 refine ah (ρ:=[.n b,.p (WW room b w r),.i n]) mixed Tryz.func11 Le ?_
 unfold NP
 refine cg ?_
 have no:oX r n=none->HP.aV (WW room b w r) (HP.and (Value.pointer none=.pointer ((oX r n).map λx=>⟨x.ub,0,none⟩)) (WW room b w r)):=λh=>.of λR y H=>⟨by rw[h];rfl,H⟩
 refine⟨λh=>no (if_pos h),λh=>⟨r.ua,r.mB.length,r.uc,gn Vu (by kernel_rfl) (by kernel_rfl) rfl,⟨λh2=>no ?_,λh2=>⟨r.ua,r.mB.length,r.uc,gn Vu (by kernel_rfl) (by kernel_rfl) rfl,by omega,λ_=>⟨by omega,λ_=>⟨hs (by omega),λ_=>?_⟩⟩⟩⟩⟩⟩
 ·unfold oX;rw[if_neg h];exact List.getElem?_eq_none (by omega)
 ·obtain⟨x,hx⟩:∃x,r.mB[n.toNat]? =some x:=⟨_,List.getElem?_eq_getElem (show n.toNat<r.mB.length by omega)⟩
  refine⟨_,abb hx rfl,.of λR y H=>⟨?_,H⟩⟩
  have:oX r n=some x:=by unfold oX;rw[if_neg h];exact hx
  rw[this];rfl
end
theorem Ho{α β:Type}{f:α->β}{l:List α}{k:Nat}{x y:α}(hk:l[k]? =some x)(e:f y=f x):(l.set k y).map f=l.map f:=by
 rw[List.map_set,e]
 refine List.ext_getElem? λj=>?_
 rw[List.getElem?_set]
 split
 ·rename_i hj;subst hj
  rw[if_pos (by simpa using(List.getElem?_eq_some_iff.1 hk).1),List.getElem?_map,hk];rfl
 ·rfl
section
variable {I:tq}{room:Int}{b:Nat}{w:gE I.α}{r:xV I}
theorem WW.un{k:Nat}{u u':Q3}(hk:r.mB[k]? =some u)(hb:u'.bd=u.bd){R h:PH}(H:(PW 73 b (u7 w r).toArray (aX ((u9 room w r).set 1 (PL (tB room) r.ua r.mB.length r.uc (r.mB.set k u'))))).p R h):(WW room b {w with us:=w.us.set k (u'.s,u'.ps)} {r with mB:=r.mB.set k u'}).p R h:=by
 have e1:((r.mB.set k u').map λu=>Value.pointer (some ⟨u.bd,0,none⟩))=r.mB.map λu=>.pointer (some ⟨u.bd,0,none⟩):=Ho hk (by rw[hb])
 unfold WW u7 u9
 simp only[List.length_set,e1]
 exact H
theorem pX.un(hk:pX w r){k:Nat}{u:Q3}:pX {w with us:=w.us.set k (u.s,u.ps)} {r with mB:=r.mB.set k u}:=
 ⟨hk.f,hk.fb,by rw[List.map_set,hk.u],hk.c,hk.d,⟨by show(w.us.set k _).length<=7;rw[List.length_set];exact hk.n.1,hk.n.2⟩,hk.o⟩
theorem WW.cl{k:Nat}{x x':NR I}(hk:r.cls[k]? =some x){R h:PH}(H:(PW 73 b (u7 w r).toArray (aX ((u9 room w r).set 3 (PL (qE I) r.ca r.cls.length r.cc (r.cls.set k x'))))).p R h):(WW room b {w with cls:=w.cls.set k x'.g} {r with cls:=r.cls.set k x'}).p R h:=by
 unfold WW u7 u9
 simp only[List.length_set]
 exact H
theorem pX.cl(hk:pX w r){k:Nat}{x:NR I}:pX {w with cls:=w.cls.set k x.g} {r with cls:=r.cls.set k x}:=
 ⟨hk.f,hk.fb,hk.u,by rw[List.map_set,hk.c],hk.d,⟨hk.n.1,by show(w.cls.set k _).length<=8;rw[List.length_set];exact hk.n.2.1,by show _=(w.cls.set k _).length;rw[List.length_set];exact hk.n.2.2.1,by show _=(w.cls.set k _).length;rw[List.length_set];exact hk.n.2.2.2⟩,hk.o⟩
theorem vb{f:FuncId}{args:Array Value}{k:Nat}{x:NR I}(hk:r.cls[k]? =some x){S:HP}{γ:Type}{φ:Value->γ->Prop}{g':γ->cE I.α}{Q:γ->HP}(t:ax Tryz.prog f args (HP.an (b6 x.b x.g) S) (λv=>HP.ex λz=>HP.and (φ v z) (HP.an (b6 x.b (g' z)) (Q z)))):
 ax Tryz.prog f args (HP.an (WW room b w r) S) (λv=>HP.ex λz=>HP.and (φ v z) (HP.an (WW room b {w with cls:=w.cls.set k (g' z)} {r with cls:=r.cls.set k ⟨x.b,g' z⟩}) (Q z))):=
 (eY (ty:=73) (b:=b) (cs:=(u7 w r).toArray) (L:=u9 room w r) (k:=3) (X:=PL (qE I) r.ca r.cls.length r.cc r.cls) (X':=λz=>PL (qE I) r.ca r.cls.length r.cc (r.cls.set k ⟨x.b,g' z⟩)) (K:=S) (P:=Q) (φ:=φ) rfl (PL.aY (K:=qE I) hk (y:=λz=>⟨x.b,g' z⟩) (λ_=>rfl) t)).ak (λ_ _ h=>h) λv R h ⟨z,e,H⟩=>⟨z,e,HP.ae H (λ_ h=>WW.cl hk h) λ_ h=>h⟩
theorem XQ{f:FuncId}{args:Array Value}{k:Nat}{u:Q3}(hk:r.mB[k]? =some u){S:HP}{γ:Type}{φ:Value->γ->Prop}{s':γ->eW}{PF:γ->List Pg}{Q:γ->HP}(t:ax Tryz.prog f args (HP.an (UD u.ub u.bd room u.s u.ps) S) (λv=>HP.ex λz=>HP.and (φ v z) (HP.an (UD u.ub u.bd room (s' z) (PF z)) (Q z)))):
 ax Tryz.prog f args (HP.an (WW room b w r) S) (λv=>HP.ex λz=>HP.and (φ v z) (HP.an (WW room b {w with us:=w.us.set k (s' z,PF z)} {r with mB:=r.mB.set k ⟨u.ub,u.bd,s' z,PF z⟩}) (Q z))):=
 (eY (ty:=73) (b:=b) (cs:=(u7 w r).toArray) (L:=u9 room w r) (k:=1) (X:=PL (tB room) r.ua r.mB.length r.uc r.mB) (X':=λz=>PL (tB room) r.ua r.mB.length r.uc (r.mB.set k ⟨u.ub,u.bd,s' z,PF z⟩)) (K:=S) (P:=Q) (φ:=φ) rfl (PL.aY (K:=tB room) hk (y:=λz=>⟨u.ub,u.bd,s' z,PF z⟩) (λ_=>rfl) t)).ak (λ_ _ h=>h) λv R h ⟨z,e,H⟩=>⟨z,e,HP.ae H (λ_ h=>WW.un (u':=⟨u.ub,u.bd,s' z,PF z⟩) hk rfl h) λ_ h=>h⟩
theorem AG{g:cE I.α}(h:g.gx=none)(m:MS)(a' a0:bY):kB g m a'=kB g m a0:=by
 unfold kB
 rw[h]
theorem Vv{g:cE I.α}{m:MS}{a' a0:bY}(h:oP g m=true->∀a,g.gx=some a->mr a m a')(h0:∀a,g.gx=some a->Lc a m=some a0):jU I.F g m a'=jU I.F g m a0:=by
 cases ht:oP g m with
 |false=>rw[xC ht,xC ht]
 |true=>
  rw[tz ht,tz ht]
  by_cases ha:g.gx=none
  ·rw[AG (g:={g with bK:=pU g.bK m.fr}) ha m a' a0]
  ·obtain⟨a,ha⟩:=Option.ne_none_iff_exists'.1 ha
   rw[NN (h0 a ha) (h ht a ha)]
structure Hq(w:gE I.α)(m:MS):Prop where
 s:m.small
 q:m.to=7->m.bf=false/\(m.kind=8\/m.kind=9)/\0<=w.sq.n
 c:8<=m.to->∀g,w.cls[(m.to - 8).toNat]? =some g->oP g m=true->K7 {g with bK:=pU g.bK m.fr} m
def Hr(ro:Option MS)(jH jI:Option Addr):HP:=HP.an ((ro.getD mC).bB jH) ((ro.getD mC).bj jI)
theorem abc{R h:PH}:(Hr none none none).p R h:=bb.join (h':=h) (bb.nil _ none R h) (bb.nil _ none R h)
set_option maxHeartbeats 4000000 in
theorem Hs(m:MS)(ca:Option Addr)(cc:Nat)(va:Option Addr)(vc:Nat)(hd:Hq w m){w':gE I.α}{ro:Option MS}(he:qD I.F room w m=some (w',ro)):
 ax Tryz.prog 45 #[.pointer (some ⟨b,0,none⟩),.agg (m.cF ca cc va vc).aA] (HP.an (cw room b w) (DV m ca va))
  (λv=>HP.ex λjH=>HP.ex λou=>HP.ex λjI=>HP.ex λox=>HP.and (v=.tuple #[.agg ((ro.getD mC).cF jH ou jI ox).aA,.bool ro.isSome]) (HP.an (cw room b w') (Hr ro jH jI))):=by
 refine cw.kF λr hk=>?_
 have hul:r.mB.length=w.us.length:=by rw[<-hk.u,List.length_map]
 have R8:r.cls.length=w.cls.length:=by rw[<-hk.c,List.length_map]
 have hn:=hk.n
 refine ah (ρ:=[.n b,.p (WW room b w r)]++m.env ca cc va vc) mixed Tryz.func45 yF ?_
 unfold xF MS.env
 refine cg ?_
 intro _ _
 refine(Hn m.to (by omega)).ak (λ_ _ h=>h) ?_
 rintro v R h ⟨rfl,H⟩
 refine⟨.pointer ((oX r m.to).map λx=>⟨x.ub,0,none⟩),HP.tt,rfl,⟨_,lf (by kernel_rfl) aez,λhu=>?_,λhu=>?_⟩,HP.aM H⟩
 all_goals clear H
 ·obtain⟨u,eu⟩:∃u,oX r m.to=some u:=by
   cases e:oX r m.to with
   |none=>rw[e]at hu;exact absurd hu (by simp)
   |some u=>exact⟨u,rfl⟩
  have h0:¬m.to<0:=λh=>by unfold oX at eu;rw[if_pos h]at eu;cases eu
  have ek:r.mB[m.to.toNat]? =some u:=by unfold oX at eu;rw[if_neg h0]at eu;exact eu
  have ew:w.us[m.to.toNat]? =some (u.s,u.ps):=by rw[<-hk.u,List.getElem?_map,ek];rfl
  unfold qD at he
  rw[if_neg h0,ew]at he
  obtain⟨rfl,rfl⟩:=Prod.mk.inj (Option.some.inj he)
  rw[eu]
  have tu:=XQ (b:=b) (w:=w) (r:=r) (room:=room) ek (S:=DV m ca va) (γ:=Option Addr×Nat×Option Addr×Nat) (s':=λ_=>(cN room u.s u.ps m).2.2.1) (PF:=λ_=>(cN room u.s u.ps m).2.2.2) (φ:=λv y=>v=.tuple #[.agg ((cN room u.s u.ps m).2.1.cF y.1 y.2.1 y.2.2.1 y.2.2.2).aA,.bool (cN room u.s u.ps m).1])
   (Q:=λy=>HP.an (m.bB ca) (HP.an (m.bj va) (HP.an ((cN room u.s u.ps m).2.1.bB y.1) ((cN room u.s u.ps m).2.1.bj y.2.2.1)))) ((PE u.ub u.bd room u.s u.ps m ca cc va vc).ak (λ_ _ h=>h) λv R h ⟨a,c,a2,c2,e,H⟩=>⟨(a,c,a2,c2),e,H⟩)
  refine tu.ak (λR h H=>HP.ai H) ?_
  rintro v R h ⟨⟨a1,c1,a2,c2⟩,rfl,H⟩
  generalize hq:cN room u.s u.ps m=q at H⊢
  refine⟨q.2.1.fr,q.2.1.to,q.2.1.num,q.2.1.bf,q.2.1.kind,q.2.1.ep,q.2.1.at',q.2.1.cell.what,a1,q.2.1.cell.data.length,c1,q.2.1.bB a1,q.2.1.br,q.2.1.bw,a2,q.2.1.val.length,c2,q.2.1.bj a2,q.2.1.bM,q.2.1.tail,q.2.1.low,q.2.1.back,q.1,HP.tt,WW room b {w with us:=w.us.set m.to.toNat (q.2.2.1,q.2.2.2)} {r with mB:=r.mB.set m.to.toNat ⟨u.ub,u.bd,q.2.2.1,q.2.2.2⟩},m.bB ca,m.bj va,rfl,.of λR h H=>⟨a1,c1,a2,c2,?_,?_⟩,?_⟩
  ·have hz:q.1=false->q.2.1=mC:=λh=>by
    rw[<-hq]at h⊢
    unfold cN at h⊢
    split
    ·rfl
    ·rename_i hc;rw[if_neg hc]at h;cases h
   cases e:q.1 with
   |true=>rfl
   |false=>rw[hz e];rfl
  ·have hz:(if q.1=true then some q.2.1 else none).getD mC=q.2.1:=by
    have hz:q.1=false->q.2.1=mC:=λh=>by
     rw[<-hq]at h⊢
     unfold cN at h⊢
     split
     ·rfl
     ·rename_i hc;rw[if_neg hc]at h;cases h
    cases e:q.1 with
    |true=>rfl
    |false=>rw[hz e];rfl
   refine HP.ae H (λ_ h=>⟨_,hk.un (u:=⟨u.ub,u.bd,q.2.2.1,q.2.2.2⟩),h⟩) λ_ h=>?_
   unfold Hr
   show(HP.an ((Option.getD (if q.1=true then some q.2.1 else none) mC).bB a1) ((Option.getD (if q.1=true then some q.2.1 else none) mC).bj a2)).p R _
   rw[hz]
   exact HP.ai (HP.ai h)
  ·exact HP.pick [_,m.bB ca,m.bj va,q.2.1.bB a1,q.2.1.bj a2,HP.tt] [3,4,5,0,1,2] (by decide) rfl (HP.az H|>λH=>by
    have H1:=HP.aq H
    exact HP.ae H1 (λ_ h=>h) λ_ h=>HP.ae (HP.aq h) (λ_ h=>h) λ_ h=>HP.ae (HP.aq h) (λ_ h=>h) λ_ h=>HP.aq h)
 have eu:oX r m.to=none:=by
  cases e:oX r m.to with
  |none=>rfl
  |some u=>rw[e]at hu;exact absurd rfl hu
 have ew:(if m.to<0 then none else w.us[m.to.toNat]?)=none:=by
  unfold oX at eu
  split
  ·rfl
  ·rename_i h0
   rw[if_neg h0]at eu
   rw[<-hk.u,List.getElem?_map,eu];rfl
 unfold qD at he
 rw[ew]at he
 dsimp only at he
 refine⟨λh7=>?_,λh7=>?_⟩
 ·obtain⟨q1,q2,q3⟩:=hd.q h7
  have he:some (({w with sq:=(gy w.sq m).2}:gE I.α),(gy w.sq m).1)=some (w',ro):=(if_pos h7).symm.trans he
  obtain⟨rfl,rfl⟩:=Prod.mk.inj (Option.some.inj he)
  have hs:(gy w.sq m).1.isSome=true:=by
   unfold gy
   rw[if_neg (by rw[q1];decide)]
   rcases q2 with h|h
   ·rw[if_neg (by omega),if_pos h];rfl
   ·rw[if_pos h];rfl
  refine⟨.pointer (some ⟨r.sq,0,none⟩),gn aba (by kernel_rfl) (by kernel_rfl) rfl,?_⟩
  refine(eY (ty:=73) (b:=b) (cs:=(u7 w r).toArray) (L:=u9 room w r) (k:=2) (X:=mE r.sq w.sq) (X':=λ_=>mE r.sq (gy w.sq m).2) (K:=DV m ca va) (γ:=Unit) (P:=λ_=>DV m ca va) (φ:=λv _=>v=.tuple #[.agg (((gy w.sq m).1.getD mC).cF none 0 none 0).aA,.bool true]) rfl ((Vl r.sq w.sq m ca cc va vc q1 q2 q3).ak (λ_ _ h=>h) λv R h ⟨e,H⟩=>⟨(),e,H⟩)).ak (λ_ _ h=>h) ?_
  rintro v R h ⟨_,rfl,H⟩
  have hdd:∀R h,((((gy w.sq m).1.getD mC).bB none).p R h)/\((((gy w.sq m).1.getD mC).bj none).p R h):=by
   have e:((gy w.sq m).1.getD mC).cell.data=[]/\((gy w.sq m).1.getD mC).val=[]:=by
    unfold gy
    rw[if_neg (by rw[q1];decide)]
    split
    ·exact⟨rfl,rfl⟩
    ·split<;>exact⟨rfl,rfl⟩
   intro R h
   unfold MS.bB MS.bj
   rw[e.1,e.2]
   exact⟨bb.nil _ _ _ _,bb.nil _ _ _ _⟩
  generalize gy w.sq m=q at H hs hdd⊢
  generalize hx:q.1.getD mC=x at hdd⊢
  refine⟨x.fr,x.to,x.num,x.bf,x.kind,x.ep,x.at',x.cell.what,none,x.cell.data.length,0,x.bB none,x.br,x.bw,none,x.val.length,0,x.bj none,x.bM,x.tail,x.low,x.back,true,WW room b {w with sq:=q.2} r,m.bB ca,m.bj va,rfl,.of λR h H=>⟨none,0,none,0,by rw[hs],?_⟩,bb.join (h':=h) (hdd R h).1 (bb.join (hdd R h).2 H)⟩
  refine HP.ae H (λ_ h=>⟨r,⟨hk.f,hk.fb,hk.u,hk.c,hk.d,hk.n,hk.o⟩,h⟩) λ_ h=>?_
  unfold Hr
  rw[hx]
  exact HP.ai (HP.ai h)
 rw[if_neg h7]at he
 refine(qG m.to (by omega)).ak (λ_ _ h=>h) ?_
 rintro v R h ⟨rfl,H⟩
 refine⟨.pointer ((i6 r m.to).map λx=>⟨x.b,0,none⟩),HP.tt,rfl,⟨_,lf (by kernel_rfl) xJ,λhc=>?_,λhc=>?_⟩,HP.aM H⟩
 all_goals clear H
 ·obtain⟨x,ex⟩:∃x,i6 r m.to=some x:=by
   cases e:i6 r m.to with
   |none=>rw[e]at hc;exact absurd hc (by simp)
   |some u=>exact⟨u,rfl⟩
  have h8:¬m.to<8:=λh=>by unfold i6 at ex;rw[if_pos h]at ex;cases ex
  have ek:r.cls[(m.to - 8).toNat]? =some x:=by unfold i6 at ex;rw[if_neg h8]at ex;exact ex
  have Vw:w.cls[(m.to - 8).toNat]? =some x.g:=by rw[<-hk.c,List.getElem?_map,ek];rfl
  rw[if_neg h8,Vw]at he
  dsimp only at he
  obtain⟨a0,ha0,hw,hro⟩:∃a0,(∀a,x.g.gx=some a->Lc a m=some a0)/\w'={w with cls:=w.cls.set (m.to - 8).toNat (jU I.F x.g m a0)}/\ro=none:=by
   revert he
   cases ha:x.g.gx with
   |none=>
    intro he
    dsimp only at he
    obtain⟨rfl,rfl⟩:=Prod.mk.inj (Option.some.inj he)
    exact⟨_,⟨λa h=>(by cases h),rfl,rfl⟩⟩
   |some a=>
    intro he
    dsimp only at he
    obtain⟨a0,h0,e⟩:=Option.map_eq_some_iff.1 he
    obtain⟨rfl,rfl⟩:=Prod.mk.inj e
    exact⟨a0,λa' h=>by cases h;exact h0,rfl,rfl⟩
  subst hw hro
  rw[ex]
  have tk:=vb (b:=b) (w:=w) (r:=r) (room:=room) ek (S:=DV m ca va) (γ:=bY) (g':=λ_=>jU I.F x.g m a0) (φ:=λv _=>v=.tuple #[]) (Q:=λ_=>HP.tt) ((Qn m ca cc va vc hd.s (hd.c (by omega) x.g Vw)).ak (λ_ _ h=>h) λv R h ⟨a',⟨e,ht⟩,H⟩=>⟨a',e,HP.az (by rw[<-Vv ht ha0];exact H)⟩)
  refine tk.ak (λR h H=>HP.ai H) ?_
  rintro v R h ⟨_,rfl,H⟩
  refine⟨HP.tt,WW room b {w with cls:=w.cls.set (m.to - 8).toNat (jU I.F x.g m a0)} {r with cls:=r.cls.set (m.to - 8).toNat ⟨x.b,jU I.F x.g m a0⟩},HP.tt,HP.tt,rfl,.of λR h H=>⟨none,0,none,0,rfl,?_⟩,HP.aM (HP.ae H (λ_ h=>h) λ_ h=>HP.az h)⟩
  exact HP.ae H (λ_ h=>⟨_,hk.cl (x:=⟨x.b,jU I.F x.g m a0⟩),h⟩) λ_ _=>abc
 ·have ex:i6 r m.to=none:=by
   cases e:i6 r m.to with
   |none=>rfl
   |some u=>rw[e]at hc;exact absurd rfl hc
  have Vw:(if m.to<8 then none else w.cls[(m.to - 8).toNat]?)=none:=by
   unfold i6 at ex
   split
   ·rfl
   ·rename_i h0
    rw[if_neg h0]at ex
    rw[<-hk.c,List.getElem?_map,ex];rfl
  rw[Vw]at he
  dsimp only at he
  obtain⟨rfl,rfl⟩:=Prod.mk.inj (Option.some.inj he)
  exact .of λR h H=>⟨none,0,none,0,rfl,HP.ae H (λ_ h=>⟨r,hk,h⟩) λ_ _=>abc⟩
end
theorem r9(x:fh)(a:Option Addr)(c:Nat)(S:HP)(hr:bR S a x.data.length (x.data.map fH))(hb:x.data.length<=1000000):
 ax Tryz.prog 23 #[x.val a c] S (λv=>HP.ex λa'=>HP.ex λc'=>HP.and (v=x.val a' c') (HP.an (aO a' x.data.length x.data) S)):=by
 refine ah (ρ:=[.i x.kind,.s x.path,.s x.bh,.i x.off,.i x.n,.a a,.n x.data.length,.n c,.p S]) mixed Tryz.func23 xH ?_
 unfold uu
 refine cg ?_
 intro _ _
 refine(jm S a x.data.length c x.data hr rfl (by omega)).ak (λ_ _ h=>h) ?_
 rintro v R h ⟨a',c',rfl,H⟩
 exact⟨a',_,c',aO a' x.data.length x.data,rfl,.of λR h H=>⟨a',c',rfl,HP.ao H⟩,H⟩
section
variable {I:tq}{room:Int}{b:Nat}{w:gE I.α}{r:xV I}
theorem XR{ty:TypeId}{cs:Array Value}{L:List HP}{j:Nat}{a:Option Addr}{n c:Nat}{l:List Int}(hj:L[j]? =some (PL oT a n c l)){k:Nat}{x:Int}(hk:l[k]? =some x):
 aH Tryz.prog (bG 3 (.pointer (a.map λy=>(y.add (k*1)).add 0))) (PW ty b cs (aX L)) (.int .i64 x):=by
 refine b7 pE A7 L7 (Rd.nU (PL.rd (K:=oT) a n c l) λR h H=>PW.part hj H) (k:=k*1) (off:=0) ?_
 exact(cZ oT.aA 1 (λ_=>rfl) l k 0 x hk (by decide)).trans rfl
theorem ah4{ty:TypeId}{cs:Array Value}{L:List HP}{j:Nat}{a:Option Addr}{n c:Nat}{l:List Int}(hj:L[j]? =some (PL oT a n c l)){k:Nat}(hk:k<n)(y:Int):
 aI Tryz.prog (bH 3 (.pointer (a.map λz=>(z.add (k*1)).add 0)) (.int .i64 y)) (PW ty b cs (aX L)) (λv=>HP.and (v=.tuple #[]) (PW ty b cs (aX (L.set j (PL oT a n c (l.set k y)))))):=by
 obtain⟨i,hi,_,hz,_⟩:=info_parts iG
 have st:=PL.set (K:=oT) hi hz (a:=a) (n:=n) (c:=c) (l:=l) hk y (v:=.int .i64 y) rfl HP.tt
 refine(lw (ty:=ty) (b:=b) (cs:=cs) (L:=L) (k:=j) (K:=HP.tt) (γ:=Unit) (X:=PL oT a n c l) (X':=λ_=>PL oT a n c (l.set k y)) (P:=λ_=>HP.tt) (φ:=λv _=>v=.tuple #[]) hj (st.ak (λR h H=>HP.ae H (λ_ h=>h) λ_ _=>HP.az trivial) λv R h ⟨e,H⟩=>⟨(),e,H⟩)).ak (λR h H=>HP.az H) λv R h ⟨_,e,H⟩=>⟨e,HP.aj H⟩
theorem aeA{α:Type}{K:PK α}{t:TypeId}{i:TypeInfo}{z:Value}(ht:Tryz.prog.underlying t=some (.slice K.e))(hi:Tryz.prog.info? K.e=some i)(hz:i.zero=some z)(hzs:z.cells.size=i.size)(hs:i.size=K.n)(hby:i.bytes<=1000)
 {tw:TypeId} {cs:Array Value} {L:List HP} {j:Nat} {a:Option Addr} {n c:Nat} {l:List α} (hj:L[j]? =some (PL K a n c l)) (x:Nat) (y:α) (Q:HP) (hb:n<=1000000000):
 aI Tryz.prog (kj t t (.slice a n c) (.slice (some ⟨x,0,none⟩) 1 1)) (HP.an (PW tw b cs (aX L)) (HP.an (HP.one x (.cells (K.aA y).toArray K.e (0,0))) (HP.an (K.bf y) Q)))
  (λv=>HP.ex λa'=>HP.ex λc'=>HP.and (v=.slice a' (n+1) c') (HP.an (PL K a' (n+1) c' (l++[y])) (HP.an (PW tw b cs (aX (L.set j HP.tt))) (HP.an (HP.one x (.cells (K.aA y).toArray K.e (0,0))) Q)))):=by
 have st:=PL.Sp (K:=K) t t ht hi hz hzs hs hby a n c l x y Q hb
 refine(lw (ty:=tw) (b:=b) (cs:=cs) (L:=L) (k:=j) (K:=HP.an (HP.one x (.cells (K.aA y).toArray K.e (0,0))) (HP.an (K.bf y) Q)) (γ:=Option Addr×Nat) (X:=PL K a n c l) (X':=λ_=>HP.tt) (P:=λq=>HP.an (PL K q.1 (n+1) q.2 (l++[y])) (HP.an (HP.one x (.cells (K.aA y).toArray K.e (0,0))) Q)) (φ:=λv q=>v=.slice q.1 (n+1) q.2) hj (st.ak (λ_ _ h=>h) λv R h ⟨a',c',e,H⟩=>⟨(a',c'),e,HP.aM H⟩)).ak (λ_ _ h=>h) ?_
 rintro v R h ⟨⟨a',c'⟩,e,H⟩
 refine⟨a',c',e,?_⟩
 have H1:=HP.ae H (λ_ h=>h) λ_ h=>HP.ao h
 exact HP.pick [PW tw b cs (aX (L.set j HP.tt)),HP.an (HP.one x (.cells (K.aA y).toArray K.e (0,0))) Q,PL K a' (n+1) c' (l++[y])] [2,0,1] (by decide) rfl H1
theorem XS{tw:TypeId}{cs:Array Value}{L:List HP}{j:Nat}{X:HP}(hj:j<L.length){R h:PH}(H:(PW tw b cs (HP.an (aX (L.set j HP.tt)) X)).p R h):(PW tw b cs (aX (L.set j X))).p R h:=by
 have hk:(L.set j HP.tt)[j]? =some HP.tt:=by rw[List.getElem?_set_self hj]
 have H1:=CW.kT (L:=L.set j HP.tt) (k:=j) (X:=HP.tt) hk (CW.aeo H)
 have H2:=CW.jZ (L:=L.set j HP.tt) (k:=j) (X:=HP.tt) hk (HP.ae H1 (λ_ h=>HP.ao h) λ_ h=>h)
 rw[List.set_set]at H2
 exact HP.aj H2
theorem abd{ty:TypeId}{o:Sem Next}{cs cs':Array Value}{Q S:HP}{K:HP->Prop}(t:aI Tryz.prog o (PW ty b cs Q) λv=>HP.and (v=.tuple #[]) (PW ty b cs' Q))(X:HP)(w:∀R h,(PW ty b cs' (HP.an Q S)).p R h->X.p R h)(k:K X):aI Tryz.prog o (HP.an (PW ty b cs Q) S) λv=>HP.ex λQ'=>HP.and (v=.tuple #[]) (HP.and (K Q') Q'):=
 (t.frame S).ak (λ_ _ h=>h) λ_ R h ⟨h1,h2,d,l1,l2,⟨e,H⟩,HS⟩=>⟨X,e,k,w R h (CW.If ⟨h1,h2,d,l1,l2,H,HS⟩)⟩
theorem abe:(Tryz.prog.info? 35).map (λi=>i.size)=some 1:=by kernel_rfl
theorem Vx:(Tryz.prog.info? 71).map (λi=>i.size)=some 1:=by kernel_rfl
theorem aeB:(Tryz.prog.info? 61).map (λi=>(i.zero.map (λz=>z.cells.size),i.zero.isSome,i.size,decide (i.bytes<=1000)))=some (some 17,true,17,true):=by kernel_rfl
theorem NS:∃i z,Tryz.prog.info? 61=some i/\i.zero=some z/\z.cells.size=i.size/\i.size=17/\i.bytes<=1000:=by
 obtain⟨AZ,hi,hz⟩:=Option.map_eq_some_iff.1 aeB
 simp only[Prod.mk.injEq,Option.map_eq_some_iff]at hz
 obtain⟨⟨z,ZX,QT⟩,_,QV,WP⟩:=hz
 exact⟨AZ,z,hi,ZX,by rw[QT,QV],QV,of_decide_eq_true WP⟩
theorem Vy:∃i z,Tryz.prog.info? 3=some i/\i.zero=some z/\z.cells.size=i.size/\i.size=1/\i.bytes<=1000:=by
 obtain⟨i,hi,hz,h1,h2⟩:=info_parts iG
 exact⟨i,_,hi,hz,h1.symm,h1,by rw[h2];decide⟩
structure Vz(w:gE I.α)(dQ:Int)(x:fh):Prop where
 c:8<=dQ->∀g,w.cls[(dQ - 8).toNat]? =some g->(0<=g.oG/\g.oG<=1000000000000)/\(¬(g.busy=true\/g.waits=true)->Gt x=true->nf 9 (kA g (Vf x)))
 x:x.path.length<=100000/\x.bh.length<=100000/\x.data.length<=100000
 g:∀k∈w.gp,0<=k/\k<=1000000000000
 o:w.cq.length+1<=1000000/\w.bz.length+1<=1000000
set_option maxHeartbeats 8000000 in
theorem XT(kd dQ at':Int)(st:Bool)(x:fh)(da:Option Addr)(dc:Nat)(pa:Option Addr)(pn pc:Nat)(PP:HP)(W4:kd=1)(ha:Vz w dQ x):
 ax Tryz.prog 43 #[.pointer (some ⟨b,0,none⟩),.agg #[.int .i64 kd,.int .i64 dQ,.int .i64 at',.bool st,.int .i64 x.kind,sE x.path,sE x.bh,.int .i64 x.off,.int .i64 x.n,.slice da x.data.length dc,.slice pa pn pc],.int .i64 (w.ft - 1)] (HP.an (cw room b w) (HP.an (aO da x.data.length x.data) PP))
  (λv=>HP.and (v=.int .i64 (jr I.F w dQ x).2) (HP.an (cw room b (jr I.F w dQ x).1) (HP.an (aO da x.data.length x.data) PP))):=by
 refine cw.kF λr hk=>?_
 have R8:r.cls.length=w.cls.length:=by rw[<-hk.c,List.length_map]
 have hn:=hk.n
 refine ax.bV (φ:=(x.data.length≠0->da.isSome=true)/\(w.ng.length≠0->r.ba.isSome=true)/\(w.gp.length≠0->r.ga.isSome=true)) (λR h H=>⟨λhn=>bb.some (HP.aj (HP.ai H)) (by omega),λhn=>PL.nG (PW.part (k:=4) rfl (HP.aj H)) hn,λhn=>PL.nG (PW.part (k:=5) rfl (HP.aj H)) hn⟩) λ⟨hda,hba,hga⟩=>?_
 refine ah (ρ:=[.n b,.p (WW room b w r),.i kd,.i dQ,.i at',.c st,.i x.kind,.s x.path,.s x.bh,.i x.off,.i x.n,.a da,.n x.data.length,.n dc,.p (aO da x.data.length x.data),.a pa,.n pn,.n pc,.p PP,.i (w.ft - 1)]) mixed Tryz.func43 QB ?_
 unfold Vr
 refine cg ?_
 intro _
 refine(qG dQ (by omega)).ak (λ_ _ h=>h) ?_
 rintro v R h ⟨rfl,H⟩
 refine⟨.pointer ((i6 r dQ).map λx=>⟨x.b,0,none⟩),HP.tt,rfl,⟨_,jM (by kernel_rfl) xJ,λhc=>?_,λhc=>⟨λ_=>?_,λh=>absurd W4 h⟩⟩,HP.aM H⟩
 all_goals clear H
 ·have ex:i6 r dQ=none:=by
   cases e:i6 r dQ with
   |none=>rfl
   |some u=>rw[e]at hc;exact absurd hc (by simp)
  have e:jr I.F w dQ x=(w,2):=by
   have Vw:(if dQ<8 then none else w.cls[(dQ - 8).toNat]?)=none:=by
    unfold i6 at ex
    split
    ·rfl
    ·rename_i h0
     rw[if_neg h0]at ex
     rw[<-hk.c,List.getElem?_map,ex];rfl
   unfold jr
   rw[Vw]
  rw[e]
  exact .of λR h H=>⟨rfl,HP.ae H (λ_ h=>⟨r,hk,h⟩) λ_ h=>h⟩
 obtain⟨y,ey⟩:∃y,i6 r dQ=some y:=by
  cases e:i6 r dQ with
  |none=>rw[e]at hc;exact absurd rfl hc
  |some u=>exact⟨u,rfl⟩
 have h8:¬dQ<8:=λh=>by unfold i6 at ey;rw[if_pos h]at ey;cases ey
 have ek:r.cls[(dQ - 8).toNat]? =some y:=by unfold i6 at ey;rw[if_neg h8]at ey;exact ey
 have Vw:w.cls[(dQ - 8).toNat]? =some y.g:=by rw[<-hk.c,List.getElem?_map,ek];rfl
 have hlt:(dQ - 8).toNat<r.cls.length:=(List.getElem?_eq_some_iff.1 ek).1
 generalize qJ:(dQ - 8).toNat=k at ek Vw hlt
 have alL:dQ=8+(k:Int):=by omega
 obtain⟨hj,hs⟩:=ha.c (by omega) y.g (by rw[qJ];exact Vw)
 rw[ey]
 have td:=vb (b:=b) (w:=w) (r:=r) (room:=room) ek (S:=aO da x.data.length x.data) (γ:=Unit) (g':=λ_=>(qB I.F y.g x).1) (φ:=λv _=>v=.int .i64 (qB I.F y.g x).2) (Q:=λ_=>aO da x.data.length x.data) ((XL x da dc (aO da x.data.length x.data) (bR.ro _ _ _ _) hda ha.x hj hs).ak (λ_ _ h=>h) λv R h ⟨e,H⟩=>⟨(),e,H⟩)
 refine td.ak (λR h H=>HP.ai H) ?_
 rintro v R h ⟨_,rfl,H⟩
 let w1:gE I.α:={w with cls:=w.cls.set k (qB I.F y.g x).1}
 let r1:xV I:={r with cls:=r.cls.set k ⟨y.b,(qB I.F y.g x).1⟩}
 have Na:pX w1 r1:=hk.cl (x:=⟨y.b,(qB I.F y.g x).1⟩)
 refine⟨_,HP.tt,WW room b w1 r1,aO da x.data.length x.data,rfl,⟨λhe=>?_,λhe=>?_⟩,HP.aM H⟩
 all_goals clear H
 ·have e:jr I.F w dQ x=(w1,(qB I.F y.g x).2):=by
   unfold jr
   rw[if_neg h8,qJ,Vw]
   exact if_pos he
  rw[e]
  exact .of λR h H=>⟨rfl,HP.ae H (λ_ h=>⟨r1,Na,h⟩) λ_ h=>h⟩
 have he:(qB I.F y.g x).2=0:=by simpa using he
 have hkb:k<w.ng.length:=by omega
 have hkg:k<w.gp.length:=by omega
 obtain⟨bk,hbk⟩:∃v,w.ng[k]? =some v:=⟨_,List.getElem?_eq_getElem hkb⟩
 obtain⟨gk,hgk⟩:∃v,w.gp[k]? =some v:=⟨_,List.getElem?_eq_getElem hkg⟩
 have hgb:=ha.g gk (List.mem_of_getElem? hgk)
 let de:DeS:=⟨(dQ,bk,gk+1),x,w.ft - 1,-1,{}⟩
 let w2:gE I.α:={w1 with gp:=w.gp.set k (gk+1),bz:=w.bz++[w.cq.length],cq:=w.cq++[de]}
 have e2:jr I.F w dQ x=(w2,0):=by
  unfold jr
  rw[if_neg h8,qJ,Vw]
  show(if(qB I.F y.g x).2≠0 then _ else _)=_
  rw[if_neg (by rw[he];decide)]
  dsimp only
  rw[hgk,hbk];rfl
 rw[e2]
 clear e2
 have hdl:r.fi.length=w.cq.length:=by rw[<-hk.d,List.length_map]
 let L1:=(u9 room w1 r1).set 5 (PL oT r.ga w.gp.length r.gc (w.gp.set k (gk+1)))
 have l5:L1[5]? =some (PL oT r.ga w.gp.length r.gc (w.gp.set k (gk+1))):=rfl
 have ah7:(w.gp.set k (gk+1))[k]? =some (gk+1):=by rw[List.getElem?_set_self hkg]
 refine⟨aK _ (by omega) (by omega),λ_=>⟨r.ga,w.gp.length,r.gc,gn kE pI yf rfl,by omega,λ_=>⟨by omega,λ_=>⟨hga (by omega),λ_=>⟨gk,XR (j:=5) rfl hgk,aK _ (by omega) (by omega),λ_=>?_⟩⟩⟩⟩⟩
 refine nC (ah4 (j:=5) rfl hkg (gk+1)) ?_
 refine⟨λ_ i1 i2 i3=>i1=dQ/\i2=bk/\i3=gk+1,⟨r.ba,w.ng.length,r.bc,gn kE pI yf rfl,by omega,λ_=>⟨hba (by omega),λ_=>⟨bk,XR (j:=4) rfl hbk,r.ga,w.gp.length,r.gc,gn kE pI yf rfl,by omega,λ_=>⟨hga (by omega),λ_=>⟨gk+1,XR (L:=L1) l5 ah7,λ_=>⟨rfl,rfl,rfl⟩,λ_=>⟨rfl,rfl,rfl⟩⟩⟩⟩⟩⟩,?_⟩
 rintro _ _ _ _ ⟨rfl,rfl,rfl⟩
 refine⟨r.oa,w.bz.length,r.oc,gn kE pI yf rfl,r.ea,r.fi.length,r.ec,gn qF (by kernel_rfl) (by kernel_rfl) rfl,λy1=>?_⟩
 obtain⟨ii,iz,ia,ib,ic,id',ie⟩:=Vy
 obtain⟨di,dz,d1,d2,d3,d4,d5⟩:=NS
 have hol:=ha.o
 refine(aeA (K:=oT) (L:=L1) (j:=8) kE ia ib ic id' ie rfl y1 (r.fi.length:Int) HP.tt (by show w.bz.length<=_;omega)).ak (λR h H=>HP.ae H (λ_ h=>h) λ_ h=>HP.ae (HP.az h) (λ_ h=>h) λ_ _=>HP.az trivial) ?_
 rintro v R h ⟨a3,c3,rfl,H⟩
 refine⟨a3,w.bz.length+1,c3,_,_,rfl,?_,HP.ae H (λ_ h=>h) λ_ h=>HP.ae h (λ_ h=>h) λ_ h=>HP.aj h⟩
 clear H
 refine abd (iT Vx rfl rfl rfl rfl) _ (λR h H=>XS (L:=L1) (j:=8) (show(8:Nat)<10 by decide) H) ?_
 refine⟨r.ea,r.fi.length,r.ec,gn qF (by kernel_rfl) (by kernel_rfl) rfl,?_⟩
 refine(r9 x da dc (aO da x.data.length x.data) (bR.ro _ _ _ _) (by have:=ha.x;omega)).ak (λ_ _ h=>h) ?_
 rintro v R h ⟨a4,c4,rfl,H⟩
 refine⟨x.kind,x.path,x.bh,x.off,x.n,a4,x.data.length,c4,aO a4 x.data.length x.data,rfl,λy2=>?_,H⟩
 clear H
 let L2:=L1.set 8 (PL oT a3 (w.bz.length+1) c3 ((w.bz.map λ(k:Nat)=>(k:Int))++[(r.fi.length:Int)]))
 let ye:xT:=⟨de,a4,c4,none,0,none,0⟩
 refine(aeA (K:=gz) (L:=L2) (j:=7) qF d1 d2 d3 d4 d5 rfl y2 ye (aO a4 x.data.length x.data) (by show r.fi.length<=_;omega)).ak (λR h H=>HP.ae H (λ_ h=>h) λz h=>HP.ae h (λ_ h=>h) λ_ h=>bb.gR h (show(gz.bf ye).p R z from⟨h,bb.nil _ _ _ _,bb.nil _ _ _ _⟩)) ?_
 rintro v R h ⟨a5,c5,rfl,H⟩
 refine⟨a5,r.fi.length+1,c5,_,_,rfl,?_,H⟩
 clear H
 refine abd (iT abe rfl rfl rfl rfl) (cw room b w2) (λR h H=>?_) (.of λR h H=>⟨rfl,H⟩)
 have H1:=XS (L:=L2) (j:=7) (show(7:Nat)<10 by decide) H
 refine⟨{r1 with oa:=a3,oc:=c3,ea:=a5,ec:=c5,fi:=r.fi++[ye]},⟨Na.f,Na.fb,Na.u,Na.c,by rw[List.map_append,Na.d];rfl,?_,?_⟩,?_⟩
 ·exact⟨Na.n.1,Na.n.2.1,Na.n.2.2.1,by show(w.gp.set k _).length=_;rw[List.length_set];exact Na.n.2.2.2⟩
 ·show(w.cq++[de]).length<=1000000/\(w.bz++[w.cq.length]).length<=1000000/\∀j∈w.bz++[w.cq.length],j<(w.cq++[de]).length
  simp only[List.length_append,List.length_singleton]
  refine⟨by omega,by omega,λj hj=>?_⟩
  rcases List.mem_append.1 hj with hj|hj
  ·have:=hk.o.2.2 j hj;omega
  ·rw[List.mem_singleton.1 hj];omega
 ·have e3:((w.bz++[w.cq.length]).map λ(k:Nat)=>(k:Int))=(w.bz.map λ(k:Nat)=>(k:Int))++[(r.fi.length:Int)]:=by rw[List.map_append,hdl];rfl
  have o2:w2.bz.length=w.bz.length+1:=List.length_append
  have g2:w2.gp.length=w.gp.length:=List.length_set
  have d2:(r.fi++[ye]).length=r.fi.length+1:=List.length_append
  unfold WW u7 u9
  dsimp only
  rw[o2,g2,d2,show w2.bz=w.bz++[w.cq.length]from rfl,e3]
  exact H1
end
structure Q4 where
 kind:Int
 dQ:Int
 at':Int
 pQ:Bool
 call:fh
abbrev Q4.val(e:Q4)(da:Option Addr)(dc:Nat)(pa:Option Addr)(pn pc:Nat):Value:=.agg #[.int .i64 e.kind,.int .i64 e.dQ,.int .i64 e.at',.bool e.pQ,.int .i64 e.call.kind,sE e.call.path,sE e.call.bh,.int .i64 e.call.off,.int .i64 e.call.n,.slice da e.call.data.length dc,.slice pa pn pc]
abbrev Q4.yu(e:Q4)(da:Option Addr)(dc:Nat)(pa:Option Addr)(pn pc:Nat)(PP:HP):bp:=[.i e.kind,.i e.dQ,.i e.at',.c e.pQ,.i e.call.kind,.s e.call.path,.s e.call.bh,.i e.call.off,.i e.call.n,.a da,.n e.call.data.length,.n dc,.p (aO da e.call.data.length e.call.data),.a pa,.n pn,.n pc,.p PP]
section
variable {I:tq}{room:Int}{b:Nat}{w:gE I.α}{r:xV I}
def QD(room:Int)(b:Nat)(w':gE I.α)(ro:Option MS)(code:Int)(S:HP)(v:Value):HP:=
 HP.ex λjH=>HP.ex λou=>HP.ex λjI=>HP.ex λox=>HP.and (v=.tuple #[.agg ((ro.getD mC).cF jH ou jI ox).aA,.bool ro.isSome,.int .i64 code]) (HP.an (cw room b w') (HP.an (Hr ro jH jI) S))
theorem QD.XH{w':gE I.α}{code:Int}{S:HP}{R h:PH}(H:(HP.an (cw room b w') S).p R h):(QD room b w' none code S (.tuple #[.agg (mC.cF none 0 none 0).aA,.bool false,.int .i64 code])).p R h:=
 ⟨none,0,none,0,rfl,HP.ae H (λ_ h=>h) λ_ h=>HP.yE (λ_=>abc) h⟩
set_option maxHeartbeats 4000000 in
theorem Ht(e:Q4)(da:Option Addr)(dc:Nat)(pa:Option Addr)(pn pc:Nat)(PP:HP)(hk:e.kind=1)(ha:Vz w e.dQ e.call):
 ax Tryz.prog 28 #[.pointer (some ⟨b,0,none⟩),e.val da dc pa pn pc,.int .i64 (w.ft - 1)] (HP.an (cw room b w) (HP.an (aO da e.call.data.length e.call.data) PP)) (QD room b (jr I.F w e.dQ e.call).1 none (jr I.F w e.dQ e.call).2 (HP.an (aO da e.call.data.length e.call.data) PP)):=by
 refine ah (ρ:=[.n b,.p (cw room b w)]++e.yu da dc pa pn pc PP++[.i (w.ft - 1)]) mixed Tryz.func28 r6 ?_
 unfold tA Q4.yu
 refine cg ?_
 intro _ _
 refine⟨λ_=>⟨λc P1 P2 P3=>c=(jr I.F w e.dQ e.call).2/\P1=cw room b (jr I.F w e.dQ e.call).1/\P2=aO da e.call.data.length e.call.data/\P3=PP,?_,?_⟩,λh=>absurd hk h⟩
 ·refine(XT e.kind e.dQ e.at' e.pQ e.call da dc pa pn pc PP hk ha).ak (λ_ _ h=>h) ?_
  rintro v R h ⟨rfl,H⟩
  exact⟨_,_,_,_,rfl,⟨rfl,rfl,rfl,rfl⟩,H⟩
 ·rintro _ _ _ _ ⟨rfl,rfl,rfl,rfl⟩
  exact .of λR h H=>QD.XH H
set_option maxHeartbeats 8000000 in
theorem Lg(e:Q4)(da:Option Addr)(dc:Nat)(pa:Option Addr)(pn pc:Nat)(PP:HP)(ft:Int)(hk:e.kind=6){m:MS}(hm:w.fK[oy w.fK.length e.at']? =some m)(hd:fN m=true->Hq {w with fK:=takeN w.fK e.at' e.pQ} m){w':gE I.α}{ro:Option MS}(he:qD I.F room {w with fK:=takeN w.fK e.at' e.pQ} m=some (w',ro)):
 ax Tryz.prog 28 #[.pointer (some ⟨b,0,none⟩),e.val da dc pa pn pc,.int .i64 ft] (HP.an (cw room b w) (HP.an (aO da e.call.data.length e.call.data) PP)) (QD room b w' ro 0 (HP.an (aO da e.call.data.length e.call.data) PP)):=by
 refine cw.kF λr QE=>?_
 refine ah (ρ:=[.n b,.p (WW room b w r)]++e.yu da dc pa pn pc PP++[.i ft]) mixed Tryz.func28 r6 ?_
 unfold tA Q4.yu
 refine cg ?_
 intro _ _
 refine⟨λh=>by omega,λ_=>⟨λh=>by omega,λ_=>⟨λh=>by omega,λ_=>⟨λh=>by omega,λ_=>⟨λh=>by omega,λ_=>⟨λ_=>?_,λh=>by omega⟩⟩⟩⟩⟩⟩
 let w1:gE I.α:={w with fK:=takeN w.fK e.at' e.pQ}
 have tk:=(eY (ty:=73) (b:=b) (cs:=(u7 w r).toArray) (L:=u9 room w r) (k:=6) (X:=fY r.nb w.fK) (X':=λ_=>fY r.nb (takeN w.fK e.at' e.pQ)) (K:=HP.tt) (γ:=Option Addr×Nat×Option Addr×Nat) (P:=λy=>HP.an (m.bB y.1) (m.bj y.2.2.1)) (φ:=λv y=>v=.tuple #[.agg (m.cF y.1 y.2.1 y.2.2.1 y.2.2.2).aA,.int .i64 0]/\fN m=true) rfl ((Uw (b:=r.nb) w.fK e.at' e.pQ).ak (λR h H=>HP.aj H) λv R h H=>by
  rw[hm]at H
  obtain⟨a,c,a2,c2,e,H⟩:=H
  exact⟨(a,c,a2,c2),e,H⟩)).ak (λR h H=>HP.az H) λv R h H=>H
 refine⟨λ_ code fr to num bf kind ep at' what ca cn cc br bw va vn vc bM tail low back P1 P2 P3=>fN m=true/\code=0/\fr=m.fr/\to=m.to/\num=m.num/\bf=m.bf/\kind=m.kind/\ep=m.ep/\at'=m.at'/\what=m.cell.what/\cn=m.cell.data.length/\br=m.br/\bw=m.bw/\vn=m.val.length/\bM=m.bM/\tail=m.tail/\low=m.low/\back=m.back/\P1=m.bB ca/\P2=m.bj va/\P3=WW room b w1 r,⟨.pointer (some ⟨r.nb,0,none⟩),gn xK (by kernel_rfl) (by kernel_rfl) rfl,?_,λ_=>?_⟩,?_⟩
 ·refine tk.ak (λ_ _ h=>h) ?_
  rintro v R h ⟨⟨a,c,a2,c2⟩,⟨rfl,hr⟩,H⟩
  exact⟨m.fr,m.to,m.num,m.bf,m.kind,m.ep,m.at',m.cell.what,a,_,c,m.bB a,m.br,m.bw,a2,_,c2,m.bj a2,m.bM,m.tail,m.low,m.back,0,WW room b w1 r,rfl,λ_=>⟨hr,rfl,rfl,rfl,rfl,rfl,rfl,rfl,rfl,rfl,rfl,rfl,rfl,rfl,rfl,rfl,rfl,rfl,rfl,rfl,rfl⟩,HP.pick [_,m.bB a,m.bj a2] [1,2,0] (by decide) rfl H⟩
 ·refine tk.ak (λ_ _ h=>h) ?_
  rintro v R h ⟨⟨a,c,a2,c2⟩,⟨rfl,hr⟩,H⟩
  exact⟨m.fr,m.to,m.num,m.bf,m.kind,m.ep,m.at',m.cell.what,a,_,c,m.bB a,m.br,m.bw,a2,_,c2,m.bj a2,m.bM,m.tail,m.low,m.back,0,WW room b w1 r,rfl,⟨hr,rfl,rfl,rfl,rfl,rfl,rfl,rfl,rfl,rfl,rfl,rfl,rfl,rfl,rfl,rfl,rfl,rfl,rfl,rfl,rfl⟩,HP.pick [_,m.bB a,m.bj a2] [1,2,0] (by decide) rfl H⟩
 ·rintro _ _ _ _ _ _ _ _ _ _ ca _ cc _ _ va _ vc _ _ _ _ _ _ _ ⟨hr,rfl,rfl,rfl,rfl,rfl,rfl,rfl,rfl,rfl,rfl,rfl,rfl,rfl,rfl,rfl,rfl,rfl,rfl,rfl,rfl⟩
  refine⟨λh=>absurd rfl h,λ_=>?_⟩
  have Na:pX w1 r:=⟨QE.f,QE.fb,QE.u,QE.c,QE.d,QE.n,QE.o⟩
  refine(Hs (w:=w1) m ca cc va vc (hd hr) he).ak (λR h H=>HP.ae H (λ_ h=>⟨r,Na,h⟩) λ_ h=>h) ?_
  rintro v R h ⟨a1,c1,a2,c2,rfl,H⟩
  generalize hx:ro.getD mC=x at H⊢
  refine⟨x.fr,x.to,x.num,x.bf,x.kind,x.ep,x.at',x.cell.what,a1,_,c1,x.bB a1,x.br,x.bw,a2,_,c2,x.bj a2,x.bM,x.tail,x.low,x.back,ro.isSome,cw room b w',HP.tt,HP.tt,rfl,.of λR h H=>⟨a1,c1,a2,c2,by rw[hx],?_⟩,?_⟩
  ·unfold Hr
   rw[hx]
   exact HP.ae (HP.pick [cw room b w',aO da e.call.data.length e.call.data,PP,x.bB a1,x.bj a2] [0,3,4,1,2] (by decide) rfl H) (λ_ h=>h) λ_ h=>HP.ay h
  ·unfold Hr at H
   rw[hx]at H
   have H1:=HP.pick [cw room b w',x.bB a1,x.bj a2] [1,2,0] (by decide) rfl H
   exact HP.ae H1 (λ_ h=>h) λ_ h=>HP.ae h (λ_ h=>h) λ_ h=>HP.az h|>λh=>HP.ae h (λ_ h=>h) λ_ _=>HP.az trivial
end
theorem abf:(Tryz.prog.info? 3).bind (·.zero)=some (.int .i64 0):=by kernel_rfl
set_option maxHeartbeats 1000000 in
theorem XU(a:Option Addr)(n c:Nat)(l:List Int)(i j:Nat)(uy:i<=j)(hj:j<=n)(hn:n<=1000000000):
 ax Tryz.prog 52 #[.slice a n c,.int .i64 i,.int .i64 j] (PL oT a n c l) (λv=>HP.and (v=.slice a (i+(n - j)) c) (PL oT a (i+(n - j)) c (l.take i++l.drop j))):=by
 refine ax.bV (φ:=l.length=n/\n<=c/\(n≠0->a.isSome=true)) (λR h H=>⟨H.1,cp.le (HP.aj H.2),λh0=>PL.nG H h0⟩) λ⟨hl,hnc,ha⟩=>?_
 obtain⟨AZ,z,hi,h1,h2,h3,h4⟩:=Vy
 have hs3:gr Tryz.prog 3=1:=L7
 refine ah (ρ:=[.a a,.n n,.n c,.p (PL oT a n c l),.i i,.i j]) mixed Tryz.func52 QC ?_
 unfold Vt
 simp only[T.den,E.prop,E.den,RX.look,F1.app,F2.app,aP.dH,aP.dP,aP.cr,aP.eQ,aP.e9,aP.fw,aP.ju,bg,dB,V.den,W.den,A.den,BR.den,SA.den,FV.den,iX,nF,nK,fj,g5.app,List.map_cons,List.map_nil,List.cons_append,List.nil_append,List.drop_succ_cons,List.drop_zero,List.length_cons,List.length_nil,Nat.zero_add,Nat.reduceAdd,Int.neg_neg,Bool.not_not,List.append_nil,Nat.add_zero,List.getElem?_cons_zero,List.getElem?_cons_succ,Decidable.not_not,cu,gh,ne_eq,Nat.reduceEqDiff,not_false_eq_true,EZ (show(23:Nat)≠24 by decide),E0 (show(20:Nat)≠21 by decide),E1 (show(27:Nat)≠29 by decide) (show(27:Nat)≠30 by decide) (show(29:Nat)≠30 by decide),E2 (show(8:Nat)≠9 by decide) (show(8:Nat)≠10 by decide) (show(9:Nat)≠10 by decide) (show(8:Nat)≠12 by decide) (show(9:Nat)≠12 by decide) (show(10:Nat)≠12 by decide),mN]
 refine⟨_,_,_,dC kE hi _ a n c (some i) (some j) (some n) uy hj hnc (λ_=>rfl),λhe=>.of λR h H=>?_,λhne=>?_⟩
 ·obtain rfl:i=j:=by omega
  have e1:i+(n - i)=n:=by omega
  rw[e1,List.take_append_drop]
  exact⟨rfl,H⟩
 have h0:0<n:=by omega
 have ag7:i<j:=by omega
 refine⟨_,_,_,dC kE hi _ a n c none (some i) none (Nat.zero_le _) (by simp;omega) (Nat.le_refl _) (λh=>by simp at h),_,_,_,dC kE hi _ a n c (some j) none none (by simp;omega) (by simp;omega) (Nat.le_refl _) (λh=>by simp at h),?_⟩
 have hs:AZ.size=1:=h3
 have hA:(if c=0 then a else a.map (·.add (0*gr Tryz.prog 3)))=a:=by
  split
  ·rfl
  ·rw[Nat.zero_mul];cases a<;>rfl
 have hB:=EY 71 71 3 AZ kE hi a n c (l.flatMap oT.aA) i j (n - j) (c - j) (if c=j then a else a.map (·.add (j*AZ.size))) rfl (by omega) uy h0 (λu hu=>by
  obtain⟨x,_,hx⟩:=List.mem_flatMap.1 hu
  exact oT.one x u hx)
 simp only[Option.getD_some,Option.getD_none,Nat.sub_zero,hs3,hs,Nat.zero_mul]at hA hB⊢
 rw[hA]
 refine(hB.frame (aX (l.map oT.bf))).ak (λR h H=>H.2) ?_
 rintro v R h ⟨g1,g2,d,l1,l2,⟨ys,⟨rfl,hy,hin⟩,H⟩,HU⟩
 refine⟨a,i+(n - j),c,HP.an (cp 3 1 a n c ys) (aX (l.map oT.bf)),HP.tt,rfl,?_,HP.az ⟨g1,g2,d,l1,l2,H,HU⟩⟩
 clear H HU d l1 l2
 have hci:c≠i+(n - j):=by omega
 refine⟨_,_,_,dC kE hi _ a (i+(n - j)) c (some (i+(n - j))) (some n) none (by simp;omega) (by simp;omega) (Nat.le_refl _) (λh=>by simp at h),?_⟩
 simp only[Option.getD_some,Option.getD_none,hs3,if_neg hci]
 refine((sD kE hi h1 (size:=1) (by rw[h2,hs]) (λv hv=>?_) _ a n c ys (i+(n - j)) (n - (i+(n - j))) (c - (i+(n - j))) (by omega)).frame (aX (l.map oT.bf))).ak (λ_ _ h=>h) ?_
 ·have hz:=abf
  rw[hi]at hz
  simp only[Option.bind_some,h1,Option.some.injEq]at hz
  subst hz
  simp only[Value.cells,List.mem_toArray,List.mem_cons,List.not_mem_nil,or_false]at hv
  rcases hv with rfl;rfl
 rintro v R h ⟨g1,g2,d,l1,l2,⟨zs,⟨rfl,hz⟩,H⟩,HU⟩
 refine⟨_,rfl,.of λR h H=>⟨trivial,HP.ai H⟩,?_⟩
 exact PL.cut (K:=oT) (ys:=zs) uy hj hl (by rw[show oT.n=1 from rfl,hz];exact hy) ⟨g1,g2,d,l1,l2,H,HU⟩
theorem aeC:(Tryz.prog.fieldsOf 56).toList.map (λf=>(decide (f.name= "_"),f.type,f.offset))=[(false,3,0),(false,3,1),(false,3,2)]:=by kernel_rfl
theorem VA:Tryz.prog.underlying 56=some (.struct (Tryz.prog.fieldsOf 56)):=by kernel_rfl
theorem aeD{i j:Nat}{ty u:TypeId}(uy:i≠j)(a b c a' b' c':Int){A:HP}:
 aH Tryz.prog (bI (.binOp .eql 56 (.tmp i) (.tmp j) u) ty [(i,.agg #[.int .i64 a,.int .i64 b,.int .i64 c]),(j,.agg #[.int .i64 a',.int .i64 b',.int .i64 c'])]) A
  (.bool (decide (a=a')&&(decide (b=b')&&decide (c=c')))):=λw R h F s _=>by
 have h':(i==j)=false:=by simpa using uy
 have hg:Tryz.prog.eqGuardType Tryz.prog.depth 56=false:=by kernel_rfl
 have hq:(Op.equalIn 10000 56 (.agg #[.int .i64 a,.int .i64 b,.int .i64 c]) (.agg #[.int .i64 a',.int .i64 b',.int .i64 c'])).run Tryz.prog w=.ok (decide (a=a')&&(decide (b=b')&&decide (c=c'))) w:=by
  have h:=aeC
  obtain⟨f0,_,e0,h0,h⟩:=List.map_eq_cons_iff.1 h
  obtain⟨f1,_,e1,h1,h⟩:=List.map_eq_cons_iff.1 h
  obtain⟨f2,_,e2,h2,h⟩:=List.map_eq_cons_iff.1 h
  have e6:=List.map_eq_nil_iff.1 h
  subst e6 e2 e1
  simp only[Prod.mk.injEq,decide_eq_false_iff_not]at h0 h1 h2
  rw[run_equalIn_struct w _ _ _ _ VA (by kernel_rfl),e0,fq h0.1 h0.2.1 h0.2.2 rfl rfl,fq h1.1 h1.2.1 h1.2.2 rfl rfl,fq h2.1 h2.2.1 h2.2.2 rfl rfl,Cr]
  by_cases q1:a=a'<;>by_cases q2:b=b'<;>by_cases q3:c=c'<;>simp[q1,q2,q3]
 simp only[bI,execOp,jR,List.find?_cons,beq_self_eq_true,h']
 simp[eqGuard,hg,program,Sem.run_bind,Sem.run,Result.andThen,run_eql_struct,hq]
section
variable {b:Nat}{cs:Array Value}{L:List HP}{ea:Option Addr}{ec:Nat}{fi:List xT}
def idB(fi:List xT)(id:lj)(k:Int):Bool:=match fi[k.toNat]? with
 |some d=>decide (d.d.id.1=id.1)&&(decide (d.d.id.2.1=id.2.1)&&decide (d.d.id.2.2=id.2.2))
 |none=>false
abbrev VV(x b:Nat):HP:=HP.one x (.cells #[.pointer (some ⟨b,0,none⟩)] 23)
abbrev VW(x:Nat)(id:lj):HP:=HP.one x (.cells #[.int .i64 id.1,.int .i64 id.2.1,.int .i64 id.2.2] 56)
theorem VB(x y:Nat)(id:lj)(k:Int)(hj:L[7]? =some (PL gz ea fi.length ec fi))(hc:cs[10]? =some (.slice ea fi.length ec))(hk:0<=k/\k<fi.length):
 ax Tryz.prog 51 #[.int .i64 k,.pointer (some ⟨x,0,none⟩),.pointer (some ⟨y,0,none⟩)] (HP.an (VV x b) (HP.an (PW 73 b cs (aX L)) (VW y id))) (λv=>HP.and (v=.bool (idB fi id k)) (HP.an (VV x b) (HP.an (PW 73 b cs (aX L)) (VW y id)))):=by
 refine ax.bV (φ:=ea.isSome=true) (λR h H=>PL.nG (PW.part hj (HP.aj (HP.ai H))) (by omega)) λhea=>?_
 refine ah (ρ:=[.i k,.n x,.n b,.p (PW 73 b cs (aX L)),.n y,.i id.1,.i id.2.1,.i id.2.2]) mixed Tryz.func51 uR ?_
 unfold r7
 refine cg ?_
 obtain⟨d,hd⟩:∃d,fi[k.toNat]? =some d:=⟨_,List.getElem?_eq_getElem (show k.toNat<fi.length by omega)⟩
 refine⟨ea,fi.length,ec,gn qF (by kernel_rfl) (by kernel_rfl) hc,hk.1,λ_=>⟨hk.2,λ_=>⟨hea,λ_=>⟨d.d.id.1,d.d.id.2.1,d.d.id.2.2,?_,?_⟩⟩⟩⟩
 ·refine kk (vs:=[.int .i64 d.d.id.1,.int .i64 d.d.id.2.1,.int .i64 d.d.id.2.2]) VA (by kernel_rfl) (Rd.nU (PL.rd (K:=gz) ea fi.length ec fi) λR h H=>PW.part hj H) (k:=k.toNat*17) (off:=0) (by kernel_rfl) (by simp) λj v hjv=>?_
  have hlt:j<3:=(List.getElem?_eq_some_iff.1 hjv).1
  rw[Nat.add_zero]
  refine(cZ gz.aA 17 (λ_=>rfl) fi k.toNat j d hd (by omega)).trans ?_
  rw[<-hjv]
  have:j=0\/j=1\/j=2:=by omega
  rcases this with rfl|rfl|rfl<;>rfl
 ·refine⟨_,aeD (by decide) _ _ _ _ _ _,.of λR h H=>⟨?_,H⟩⟩
  unfold idB
  rw[hd]
end
theorem QF{α:Type}(K:PK α){l:List α}{k:Nat}{x y:α}(hk:l[k]? =some x){off:Nat}{vs:List Value}(hlen:off+vs.length<=K.n)(hv:K.aA y=(K.aA x).take off++vs++(K.aA x).drop (off+vs.length)):
 (l.flatMap K.aA).take (k*K.n+off)++vs++(l.flatMap K.aA).drop (k*K.n+off+vs.length)=(l.set k y).flatMap K.aA:=by
 have hlt:k<l.length:=(List.getElem?_eq_some_iff.1 hk).1
 have hle:k*K.n<=l.length*K.n:=Nat.mul_le_mul_right _ (by omega)
 obtain⟨A,B,hA,e1,e2⟩:∃A B:List Value,A.length=k*K.n/\l.flatMap K.aA=A++(K.aA x++B)/\(l.set k y).flatMap K.aA=A++(K.aA y++B):=by
  refine⟨(l.flatMap K.aA).take (k*K.n),(l.flatMap K.aA).drop (k*K.n+K.n),by rw[List.length_take,en K.aA K.n K.len,Nat.min_eq_left hle],?_,?_⟩
  ·have e:=ra K l k hlt x
   rw[K.len,Nat.add_zero,List.append_assoc]at e
   have:l.set k x=l:=by
    refine List.ext_getElem? λj=>?_
    rw[List.getElem?_set]
    split
    ·rename_i hj;subst hj;first|exact hk.symm|(rw[if_pos hlt,hk])
    ·rfl
   rw[this]at e
   exact e.symm
  ·have e:=ra K l k hlt y
   rw[K.len,Nat.add_zero,List.append_assoc]at e
   exact e.symm
 rw[e2,e1,hv,<-hA,List.take_length_add_append,Nat.add_assoc,List.drop_length_add_append,List.take_append_of_le_length (by rw[K.len];omega),List.drop_append_of_le_length (by rw[K.len];omega)]
 simp only[List.append_assoc]
theorem PL.NT{α:Type}{K:PK α}{t:TypeId}{i:TypeInfo}(hi:Tryz.prog.info? t=some i){a:Option Addr}{n c:Nat}{l:List α}{k:Nat}{x y:α}(hk:l[k]? =some x){off:Nat}{vs:List Value}{v:Value}(hx:v.cells=vs.toArray)(hz:i.size=vs.length)(hp:0<vs.length)(h1:∀u∈vs,u.oneCell'=true)(hlen:off+vs.length<=K.n)(hv:K.aA y=(K.aA x).take off++vs++(K.aA x).drop (off+vs.length))(Q:HP):
 aI Tryz.prog (bH t (.pointer (a.map λz=>(z.add (k*K.n)).add off)) v) (HP.an (PL K a n c l) (HP.an (K.bf y) Q)) (λv=>HP.and (v=.tuple #[]) (HP.an (PL K a n c (l.set k y)) Q)):=by
 refine aI.bV (φ:=l.length=n) (λR h H=>(HP.aj H).1) λhl=>?_
 have hlt:k<l.length:=(List.getElem?_eq_some_iff.1 hk).1
 have hb:k*K.n+K.n<=n*K.n:=by rw[<-Nat.succ_mul];exact Nat.mul_le_mul_right _ (by omega)
 have st:=lX hi K.e K.n a n c (l.flatMap K.aA) (k*K.n) off v vs hx hz hp h1 (by omega)
 have ec:=QF K hk hlen hv
 refine(st.frame (HP.an (aX (l.map K.bf)) (HP.an (K.bf y) Q))).ak (λR h H=>?_) ?_
 ·exact HP.aq (HP.ae H (λ_ h=>h.2) λ_ h=>h)
 ·rintro v R h ⟨h1,h2,d,l1,l2,⟨rfl,H⟩,HU⟩
  refine⟨rfl,?_⟩
  rw[ec]at H
  have H1:(HP.an (cp K.e K.n a n c ((l.set k y).flatMap K.aA)) (HP.an (HP.an (K.bf y) (aX (l.map K.bf))) Q)).p R h:=
   ⟨h1,h2,d,l1,l2,H,HP.ay (HP.swap HU)⟩
  have H2:=HP.ay (HP.ae H1 (λ_ h=>h) λz hz=>HP.ae hz (λw hw=>zb (k:=k) (x:=K.bf y) (by simp[hl];omega) hw) λ_ h=>h)
  refine HP.ae H2 (λz hz=>⟨by simp[hl],?_⟩) λ_ h=>h
  rw[List.map_set];exact hz
theorem NU{ty t:TypeId}{b:Nat}{cs:Array Value}{L:List HP}{α:Type}{K:qg α}{e:TypeId}{one:∀x,∀u∈K.aA x,u.oneCell'=true}{j:Nat}{a:Option Addr}{n c:Nat}{l:List α}(hj:L[j]? =some (PL (sC K e one) a n c l)){i:TypeInfo}(hi:Tryz.prog.info? t=some i){k:Nat}{x y:α}(hk:l[k]? =some x){off:Nat}{vs:List Value}{v:Value}(hx:v.cells=vs.toArray)(hz:i.size=vs.length)(hp:0<vs.length)(h1:∀u∈vs,u.oneCell'=true)(hlen:off+vs.length<=K.n)(hv:K.aA y=(K.aA x).take off++vs++(K.aA x).drop (off+vs.length)){S:HP}(hr:∀R h z,(HP.an (PW ty b cs (aX L)) S).p R h->(K.hp y).p R z):
 aI Tryz.prog (bH t (.pointer (a.map λz=>(z.add (k*K.n)).add off)) v) (HP.an (PW ty b cs (aX L)) S) (λv=>HP.and (v=.tuple #[]) (HP.an (PW ty b cs (aX (L.set j (PL (sC K e one) a n c (l.set k y))))) S)):=by
 have st:=PL.NT (K:=sC K e one) hi (a:=a) (n:=n) (c:=c) (l:=l) (k:=k) (x:=x) (y:=y) hk (off:=off) (vs:=vs) (v:=v) hx hz hp h1 hlen hv S
 refine(lw (ty:=ty) (b:=b) (cs:=cs) (L:=L) (k:=j) (K:=HP.an (K.hp y) S) (γ:=Unit) (X:=PL (sC K e one) a n c l) (X':=λ_=>PL (sC K e one) a n c (l.set k y)) (P:=λ_=>S) (φ:=λv _=>v=.tuple #[]) hj (st.ak (λ_ _ h=>h) λv R h ⟨e,H⟩=>⟨(),e,H⟩)).ak (λR h H=>HP.ae H (λ_ h=>h) λy' hy=>HP.yE (λz=>hr R h z H) hy) λv R h ⟨_,e,H⟩=>⟨e,H⟩
theorem Zc(l:List Int):l.flatMap oT.aA=l.map dN:=by
 induction l with
 |nil=>rfl
 |cons x l ih=>rw[List.flatMap_cons,ih,List.map_cons];rfl
theorem PL.rdI(a:Option Addr)(n c:Nat)(l:List Int):bR (PL oT a n c l) a n (l.map dN):=⟨by rw[<-Zc];exact PL.rd a n c l,λR h H e=>by
 by_cases hn:n=0
 ·exact hn
 ·have:=PL.nG H hn;rw[e]at this;cases this⟩
theorem aeG:tD Tryz.prog 51:=⟨_,Tryz.func51,by kernel_rfl,by kernel_rfl⟩
section
variable {I:tq}{room:Int}{b:Nat}{w:gE I.α}{r:xV I}
theorem XV:(Tryz.prog.info? 59).map (λi=>i.size)=some 6:=by kernel_rfl
def Lh(cq:List DeS)(id:lj)(k:Nat):Bool:=match cq[k]? with
 |some d=>decide (d.id=id)
 |none=>false
theorem Li(hk:pX w r)(id:lj)(k:Nat):idB r.fi id k=Lh w.cq id k:=by
 unfold idB Lh
 rw[<-hk.d,List.getElem?_map,Int.toNat_natCast]
 cases r.fi[k]? with
 |none=>rfl
 |some d=>
  obtain⟨a,c,e⟩:=id
  show(decide (d.d.id.1=a)&&(decide (d.d.id.2.1=c)&&decide (d.d.id.2.2=e)))=decide (d.d.id=(a,c,e))
  rw[Bool.eq_iff_iff]
  simp[Prod.ext_iff]
theorem QG(w:gE I.α)(id:lj)(a:eV)(ft:Int):AC w id a ft=match w.bz.findIdx? (Lh w.cq id)with
 |none=>w
 |some i=>match w.bz[i]? with
  |none=>w
  |some k=>{w with cq:=w.cq.modify k λd=>{d with ended:=ft,aQ:=a},bz:=w.bz.eraseIdx i}:=rfl
theorem XW(hk:pX w r)(x y:Nat)(id:lj):
 ax Tryz.prog 50 #[.slice r.oa w.bz.length r.oc,.func (.func 51) #[] #[.pointer (some ⟨x,0,none⟩),.pointer (some ⟨y,0,none⟩)]] (HP.an (WW room b w r) (HP.an (VV x b) (VW y id)))
  (λv=>HP.and (v=.int .i64 (match w.bz.findIdx? (Lh w.cq id)with|none=> -1|some i=>(i:Int))) (HP.an (WW room b w r) (HP.an (VV x b) (VW y id)))):=by
 let ol:=w.bz.map λ(k:Nat)=>(k:Int)
 let L':=(u9 room w r).set 8 HP.tt
 let Q:=HP.an (VV x b) (HP.an (PW 73 b (u7 w r).toArray (aX L')) (VW y id))
 have hdl:r.fi.length=w.cq.length:=by rw[<-hk.d,List.length_map]
 have t:=wl (PL oT r.oa w.bz.length r.oc ol) Q r.oa w.bz.length r.oc ol (PL.rdI _ _ _ _) (by simp[ol]) (by have:=hk.o;omega) (.func (.func 51) #[] #[.pointer (some ⟨x,0,none⟩),.pointer (some ⟨y,0,none⟩)]) rfl (idB r.fi id) λz hz=>by
  obtain⟨k,qJ,rfl⟩:=List.mem_map.1 hz
  have:=hk.o.2.2 k qJ
  exact .inl ⟨_,_,rfl,aeG,VB x y id k (L:=L') rfl rfl (by omega)⟩
 refine t.ak (λR h H=>?_) λv R h ⟨q,⟨e,hq⟩,H⟩=>⟨e.trans ?_,?_⟩
 ·have H1:=CW.kT (L:=u9 room w r) (k:=8) rfl H
  have H2:=HP.ae H1 (λ_ h=>HP.ae h (λ_ h=>h) λ_ h=>HP.aM h) λ_ h=>h
  have H3:=HP.aq H2
  have H4:=HP.pick [PL oT r.oa w.bz.length r.oc ol,HP.an HP.tt (HP.an (VV x b) (VW y id)),HP.an (HP.one b (.cells (u7 w r).toArray 73 (0,0))) (aX ((u9 room w r).eraseIdx 8))] [0,1,2] (by decide) rfl H3
  refine HP.ae H4 (λ_ h=>h) λz hz=>?_
  have H5:=CW.jZ (L:=u9 room w r) (k:=8) rfl (X2:=HP.tt) (P2:=HP.an (VV x b) (VW y id)) hz
  exact HP.pick [_,VV x b,VW y id] [1,0,2] (by decide) rfl H5
 ·congr 1
  rcases hq with⟨rfl,hall⟩|⟨k,rfl,hall,z,hz,hp⟩
  ·have:w.bz.findIdx? (Lh w.cq id)=none:=by
    rw[List.findIdx?_eq_none_iff]
    intro k qJ
    have:=hall k (List.mem_map.2 ⟨k,qJ,rfl⟩)
    rw[Li hk]at this
    exact this
   rw[this]
  ·have:w.bz.findIdx? (Lh w.cq id)=some k:=by
    rw[List.findIdx?_eq_some_iff_getElem]
    rw[List.getElem?_map]at hz
    obtain⟨q,hq,rfl⟩:=Option.map_eq_some_iff.1 hz
    obtain⟨hlt,e⟩:=List.getElem?_eq_some_iff.1 hq
    refine⟨hlt,by rw[e,<-Li hk];exact hp,λj hj=>?_⟩
    have h2:=hall j (w.bz[j]:Int) hj (by rw[List.getElem?_map,List.getElem?_eq_getElem (by omega)];rfl)
    rw[Li hk]at h2
    rw[h2];decide
   rw[this]
 ·have H1:=HP.ae H (λ_ h=>h) λ_ h=>HP.pick [VV x b,PW 73 b (u7 w r).toArray (aX L'),VW y id] [1,0,2] (by decide) rfl h
  have H2:=HP.pick [PL oT r.oa w.bz.length r.oc ol,PW 73 b (u7 w r).toArray (aX L'),VV x b,VW y id] [1,0,2,3] (by decide) rfl H1
  have H3:=HP.ay H2
  refine HP.ae H3 (λz hz=>?_) λ_ h=>h
  exact XS (L:=u9 room w r) (j:=8) (show(8:Nat)<10 by decide) (CW.If hz)
set_option maxHeartbeats 8000000 in
theorem CC(hk:pX w r)(id:lj)(a:eV)(da:Option Addr)(dc:Nat)(na:Option Addr)(nc:Nat)(ft:Int):
 ax Tryz.prog 32 #[.pointer (some ⟨b,0,none⟩),uJ id,oJ a da dc na nc,.int .i64 ft] (HP.an (WW room b w r) (HP.an (aO da a.data.length a.data) (tY na a.aL.length a.aL)))
  (λv=>HP.and (v=.tuple #[]) (HP.an (HP.ex λr'=>HP.and (pX (AC w id a ft) r'/\r'.ca=r.ca/\r'.cls=r.cls) (WW room b (AC w id a ft) r')) (HP.an (aO da a.data.length a.data) (tY na a.aL.length a.aL)))):=by
 have hdl:r.fi.length=w.cq.length:=by rw[<-hk.d,List.length_map]
 refine ax.bV (φ:=(w.bz.length≠0->r.oa.isSome=true)/\(r.fi.length≠0->r.ea.isSome=true)) (λR h H=>⟨λhn=>PL.nG (PW.part (k:=8) rfl (HP.aj H)) hn,λhn=>PL.nG (PW.part (k:=7) rfl (HP.aj H)) hn⟩) λ⟨hoa,hea⟩=>?_
 refine ah (ρ:=[.n b,.p (WW room b w r),.i id.1,.i id.2.1,.i id.2.2,.i a.bM,.i a.kind,.i a.size,.i a.d9,.a da,.n a.data.length,.n dc,.p (aO da a.data.length a.data),.a na,.n a.aL.length,.n nc,.p (tY na a.aL.length a.aL),.i ft]) mixed Tryz.func32 xG ?_
 unfold ut
 refine cg ?_
 intro x y _
 refine⟨r.oa,w.bz.length,r.oc,gn kE pI yf rfl,?_⟩
 refine(XW hk x y id).ak (λ_ _ h=>h) ?_
 rintro v R h ⟨rfl,H⟩
 refine⟨_,rfl,?_,H⟩
 clear H
 rw[QG]
 cases hf:w.bz.findIdx? (Lh w.cq id)with
 |none=>exact⟨λ_=>.of λR h H=>⟨trivial,HP.ae H (λ_ h=>⟨r,⟨hk,rfl,rfl⟩,h⟩) λ_ h=>h⟩,λh=>absurd (show(-1:Int)<0 by decide) h⟩
 |some i=>
  refine⟨λh=>absurd h (by show ¬((i:Int)<0);omega),λ_=>?_⟩
  obtain⟨hi,hp,_⟩:=List.findIdx?_eq_some_iff_getElem.1 hf
  have hik:w.bz[i]? =some w.bz[i]:=List.getElem?_eq_getElem hi
  generalize w.bz[i]=k at hik hp
  have kW:k<w.cq.length:=hk.o.2.2 k (List.mem_of_getElem? hik)
  obtain⟨d,hd⟩:∃d,r.fi[k]? =some d:=⟨_,List.getElem?_eq_getElem (by omega)⟩
  have hwd:w.cq[k]? =some d.d:=by rw[<-hk.d,List.getElem?_map,hd];rfl
  dsimp only
  rw[hik]
  dsimp only
  have hko:=hk.o
  let y1:xT:={d with d:={d.d with ended:=ft}}
  let y2:xT:=⟨{d.d with ended:=ft,aQ:=a},d.ca,d.cc,da,dc,na,nc⟩
  let L1:=(u9 room w r).set 7 (PL gz r.ea r.fi.length r.ec (r.fi.set k y1))
  let L2:=L1.set 7 (PL gz r.ea r.fi.length r.ec ((r.fi.set k y1).set k y2))
  have hd1:(r.fi.set k y1)[k]? =some y1:=List.getElem?_set_self (by omega)
  obtain⟨ii,ia,ib,ic,id'⟩:=info_parts iG
  obtain⟨ji,ja,jb⟩:=Option.map_eq_some_iff.1 XV
  have hok:((w.bz.map λ(k:Nat)=>(k:Int)))[i]? =some (k:Int):=by rw[List.getElem?_map,hik];rfl
  refine⟨r.ea,r.fi.length,r.ec,gn qF (by kernel_rfl) (by kernel_rfl) rfl,r.oa,w.bz.length,r.oc,gn kE pI yf rfl,by show(0:Int)<=(i:Int);omega,λ_=>⟨by show(i:Int)<_;omega,λ_=>⟨hoa (by omega),λ_=>⟨(k:Int),XR (j:=8) (k:=i) rfl hok,by omega,λ_=>⟨by omega,λ_=>⟨hea (by omega),λ_=>?_⟩⟩⟩⟩⟩⟩
  refine nC ((NU (ty:=73) (b:=b) (cs:=(u7 w r).toArray) (L:=u9 room w r) (K:=xU) (j:=7) (k:=k) (x:=d) (y:=y1) (off:=10) (vs:=[.int .i64 ft]) (S:=HP.tt) rfl ia hd rfl ic (by simp) (λu hu=>by rw[List.mem_singleton.1 hu];rfl) (show 10+1<=17 by decide) rfl λR h z H=>?_).ak (λR h H=>HP.az H) λv R h ⟨e,H⟩=>⟨e,HP.aj H⟩) ?_
  ·have H1:=PW.part (k:=7) rfl (HP.aj H)
   exact xU.gf d _ _ _ (gT (HP.ai H1.2) (xU.hp d) (List.mem_map.2 ⟨d,List.mem_of_getElem? hd,rfl⟩))
  refine(NU (ty:=73) (b:=b) (cs:=(u7 w r).toArray) (L:=L1) (K:=xU) (j:=7) (k:=k) (x:=y1) (y:=y2) (off:=11) (vs:=[.int .i64 a.bM,.int .i64 a.kind,.int .i64 a.size,.int .i64 a.d9,.slice da a.data.length dc,.slice na a.aL.length nc]) (v:=oJ a da dc na nc) (S:=HP.an (aO da a.data.length a.data) (tY na a.aL.length a.aL)) rfl ja hd1 rfl jb (by simp) (λu hu=>?_) (show 11+6<=17 by decide) rfl λR h z H=>?_).ak (λ_ _ h=>h) ?_
  ·simp only[List.mem_cons,List.not_mem_nil,or_false]at hu
   rcases hu with h|h|h|h|h|h<;>(subst h;rfl)
  ·have H1:=PW.part (L:=L1) (k:=7) rfl (HP.aj H)
   have H2:=xU.gf y1 _ _ z (gT (HP.ai H1.2) (xU.hp y1) (List.mem_map.2 ⟨y1,List.mem_of_getElem? hd1,rfl⟩))
   have H3:=HP.aj (HP.ai H)
   have H4:=HP.ai (HP.ai H)
   exact⟨H2.1,H3,H4⟩
  rintro v R h ⟨rfl,H⟩
  refine⟨_,rfl,⟨r.oa,w.bz.length,r.oc,gn kE pI yf rfl,aK _ (by omega) (by omega),λ_=>?_⟩,H⟩
  clear H
  let ol:=w.bz.map λ(k:Nat)=>(k:Int)
  have hol:ol.length=w.bz.length:=by simp[ol]
  have dl:=XU r.oa w.bz.length r.oc ol i (i+1) (by omega) (by omega) (by omega)
  rw[show((i+1:Nat):Int)=(i:Int)+1 by omega]at dl
  refine(eY (ty:=73) (b:=b) (cs:=(u7 w r).toArray) (L:=L2) (k:=8) (X:=PL oT r.oa w.bz.length r.oc ol) (X':=λ_=>HP.tt) (K:=HP.tt) (γ:=Unit) (P:=λ_=>PL oT r.oa (i+(w.bz.length - (i+1))) r.oc (ol.take i++ol.drop (i+1))) (φ:=λv _=>v=.slice r.oa (i+(w.bz.length - (i+1))) r.oc) rfl (dl.ak (λR h H=>HP.aj H) λv R h ⟨e,H⟩=>⟨(),e,HP.aM H⟩)).ak (λR h H=>HP.az H) ?_
  rintro v R h ⟨_,rfl,H⟩
  refine⟨r.oa,i+(w.bz.length - (i+1)),r.oc,_,_,rfl,?_,HP.ao H⟩
  clear H
  refine abd (iT Vx rfl rfl rfl rfl) _ (λR h H=>XS (L:=L2) (j:=8) (show(8:Nat)<10 by decide) H) (.of λR h H=>⟨trivial,HP.ae H (λz hz=>?_) λ_ h=>h⟩)
  let w2:gE I.α:={w with cq:=w.cq.modify k λd=>{d with ended:=ft,aQ:=a},bz:=w.bz.eraseIdx i}
  have e1:w2.cq=(r.fi.set k y2).map (·.d):=by
   show w.cq.modify k _=_
   rw[List.map_set,hk.d]
   refine List.ext_getElem? λj=>?_
   rw[List.getElem?_modify,List.getElem?_set]
   by_cases hj:k=j
   ·subst hj;rw[hwd,if_pos rfl,if_pos kW];simp;rfl
   ·rw[if_neg hj];simp[hj]
  have e2:w2.bz=w.bz.take i++w.bz.drop (i+1):=List.eraseIdx_eq_take_drop_succ ..
  have e3:w2.bz.length=i+(w.bz.length - (i+1)):=by rw[e2];simp;omega
  have e4:(w2.bz.map λ(k:Nat)=>(k:Int))=ol.take i++ol.drop (i+1):=by rw[e2,List.map_append,List.map_take,List.map_drop]
  have e5:(r.fi.set k y1).set k y2=r.fi.set k y2:=List.set_set ..
  refine⟨{r with fi:=r.fi.set k y2},⟨⟨hk.f,hk.fb,hk.u,hk.c,e1.symm,hk.n,?_⟩,rfl,rfl⟩,?_⟩
  ·have l1:w2.cq.length=w.cq.length:=by rw[e1,List.length_map,List.length_set,hdl]
   refine⟨by rw[l1];exact hko.1,by rw[e3];omega,λq hq=>?_⟩
   rw[l1]
   rw[e2]at hq
   refine hko.2.2 q ?_
   rcases List.mem_append.1 hq with h|h
   ·exact List.mem_of_mem_take h
   ·exact List.mem_of_mem_drop h
  ·have l2:(r.fi.set k y2).length=r.fi.length:=List.length_set
   unfold WW u7 u9
   dsimp only
   rw[show(w.bz.eraseIdx i).length=i+(w.bz.length - (i+1))from e3,l2,show((w.bz.eraseIdx i).map λ(k:Nat)=>(k:Int))=ol.take i++ol.drop (i+1)from e4,<-e5]
   exact hz
end
theorem pMs{a:Option Addr}{n c:Nat}{es:List js}{k:Nat}{x:js}(hk:es[k]? =some x):aH Tryz.prog (bG 48 (.pointer (a.map λy=>(y.add (k*16)).add 0))) (PL dE a n c es) (.agg x.aA):=by
 obtain⟨d,hd⟩:∃d,Tryz.prog.underlying 48=some d:=Option.isSome_iff_exists.1 (by kernel_rfl)
 exact kk (vs:=x.aA.toList) hd Td (PL.rd (K:=dE) a n c es) (k:=k*16) (off:=0) WQ (by show 0<16;decide) λj v hj=>by
  have hlt:j<16:=(List.getElem?_eq_some_iff.1 hj).1
  rw[Nat.add_zero]
  exact(cZ dE.aA 16 dE.len es k j x hk hlt).trans hj
theorem PL.dv{a:Option Addr}{n c:Nat}{es:List js}{x:js}(hx:x∈es){R h:PH}(H:(PL dE a n c es).p R h)(z:PH):(x.m.bB x.ca).p R z/\(x.m.bj x.va).p R z:=
 sO.gf x _ _ z (gT (HP.ai H.2) (sO.hp x) (List.mem_map.2 ⟨x,hx,rfl⟩))
section
variable {I:tq}{room:Int}{b:Nat}{w:gE I.α}{r:xV I}
theorem NV(m:MS)(ca:Option Addr)(cc:Nat)(va:Option Addr)(vc:Nat)(S:HP)(hS:∀R h z,S.p R h->(m.bB ca).p R z/\(m.bj va).p R z):
 ax Tryz.prog 30 #[.pointer (some ⟨r.nb,0,none⟩),.agg (m.cF ca cc va vc).aA] (HP.an (WW room b w r) S) (λv=>HP.and (v=.int .i64 (oz w.fK m).2) (HP.an (WW room b {w with fK:=(oz w.fK m).1} r) S)):=
 (eY (ty:=73) (b:=b) (cs:=(u7 w r).toArray) (L:=u9 room w r) (k:=6) (X:=fY r.nb w.fK) (X':=λ_=>fY r.nb (oz w.fK m).1) (K:=S) (γ:=Unit) (P:=λ_=>S) (φ:=λv _=>v=.int .i64 (oz w.fK m).2) rfl ((Xm (b:=r.nb) w.fK m ca cc va vc).be (K:=S) (.of λR h H=>by
   have h1:=hS R _ PH.cz (HP.ai H)
   exact HP.ay (HP.ae H (λ_ h=>h) λz hz=>HP.ay (bb.join (h:=PH.cz) h1.1 (bb.join (h:=PH.cz) h1.2 hz)))) λv=>.of λR h ⟨h1,h2,d,l1,l2,⟨e,H⟩,HS⟩=>⟨(),e,HP.ae (HP.aq ⟨h1,h2,d,l1,l2,H,HS⟩) (λ_ h=>h) λ_ h=>HP.ai h⟩)).ak (λ_ _ h=>h) λv R h ⟨_,e,H⟩=>⟨e,H⟩
theorem pX.fK(hk:pX w r)(l:List MS):pX {w with fK:=l} r:=⟨hk.f,hk.fb,hk.u,hk.c,hk.d,hk.n,hk.o⟩
theorem Lj{l:List MS}{ms:List MS}{k:Nat}{m:MS}(h:ms[k]? =some m):ur l (ms.take (k+1))=(oz (ur l (ms.take k)) m).1:=by
 unfold ur
 rw[List.take_add_one,h,List.foldl_append];rfl
theorem fold_succ{α:Type}(f:α->Nat->α)(a:α)(k:Nat):(List.range (k+1)).foldl f a=f ((List.range k).foldl f a) k:=by rw[List.range_succ,List.foldl_append];rfl
end
section
variable {I:tq}{room:Int}{b:Nat}{w:gE I.α}
theorem WW.ah9{r:xV I}{k:Nat}{y:NR I}(hy:r.cls[k]? =some y){R h:PH}(H:(WW room b w r).p R h):y.g.out.length<=1000000:=by
 have H1:(PL (qE I) r.ca r.cls.length r.cc r.cls).p R h:=PW.part (k:=3) rfl H
 obtain⟨q,hq,_⟩:=gT (HP.ai H1.2) ((qE I).bf y) (List.mem_map.2 ⟨y,List.mem_of_getElem? hy,rfl⟩)
 exact hq.os.1
set_option maxHeartbeats 16000000 in
theorem VC(e:Q4)(da:Option Addr)(dc:Nat)(pa:Option Addr)(pn pc:Nat)(PP:HP){w':gE I.α}{ro:Option MS}{code:Int}(hn:0<=w.ft/\w.ft<=1000000000000)
 (hh:ax Tryz.prog 28 #[.pointer (some ⟨b,0,none⟩),e.val da dc pa pn pc,.int .i64 w.ft] (HP.an (cw room b {w with ft:=w.ft+1}) (HP.an (aO da e.call.data.length e.call.data) PP)) (QD room b w' ro code (HP.an (aO da e.call.data.length e.call.data) PP))):
 ax Tryz.prog 13 #[.pointer (some ⟨b,0,none⟩),e.val da dc pa pn pc] (HP.an (cw room b w) (HP.an (aO da e.call.data.length e.call.data) PP)) (λv=>HP.and (v=.int .i64 code) (HP.an (cw room b (Cz w' ro w.ft)) (HP.an (aO da e.call.data.length e.call.data) PP))):=by
 refine cw.kF λr hk=>?_
 refine ah (ρ:=[.n b,.p (WW room b w r)]++e.yu da dc pa pn pc PP) mixed Tryz.func13 Vs ?_
 unfold Zb Q4.yu
 refine cg ?_
 intro _
 refine⟨w.ft,gW rfl,w.ft,gW rfl,aK _ (by omega) (by omega),λ_=>nC (iT (cs':=(u7 {w with ft:=w.ft+1} r).toArray) rX rfl rfl rfl rfl) ?_⟩
 refine hh.ak (λR h H=>HP.ae H (λ_ h=>⟨r,⟨hk.f,hk.fb,hk.u,hk.c,hk.d,hk.n,hk.o⟩,h⟩) λ_ h=>h) ?_
 rintro v R h ⟨a1,c1,a2,c2,rfl,hA,hB,dd,la,lb,⟨r',A5,HW⟩,HR⟩
 have hca:=WW.i6 HW
 generalize hx:ro.getD mC=x
 unfold Hr at HR
 rw[hx]at HR
 have H1:(HP.an (WW room b w' r') (HP.an (HP.an (x.bB a1) (x.bj a2)) (HP.an (aO da e.call.data.length e.call.data) PP))).p R h:=⟨hA,hB,dd,la,lb,HW,HR⟩
 have H2:=HP.pick [WW room b w' r',x.bB a1,x.bj a2,aO da e.call.data.length e.call.data,PP] [1,2,0,3,4] (by decide) rfl (HP.ae H1 (λ_ h=>h) λ_ h=>HP.aq h)
 refine⟨x.fr,x.to,x.num,x.bf,x.kind,x.ep,x.at',x.cell.what,a1,_,c1,x.bB a1,x.br,x.bw,a2,_,c2,x.bj a2,x.bM,x.tail,x.low,x.back,ro.isSome,code,WW room b w' r',_,_,rfl,λ_=>?_,H2⟩
 clear H1 H2 HR HW hA hB la lb dd
 let N:=r'.cls.length
 have hN:w'.cls.length=N:=by rw[<-A5.c,List.length_map]
 have hN8:=A5.n.2.1
 let o:Nat->gE I.α:=λk=>(List.range k).foldl Hh w'
 refine⟨r'.ca,N,r'.cc,gn oU (by kernel_rfl) (by kernel_rfl) rfl,?_⟩
 refine⟨λi P=>∃(k:Nat) (r1:xV I),i=k/\k<=N/\P=WW room b (o k) r1/\pX (o k) r1/\r1.ca=r'.ca/\r1.cls.length=N,λi _=>N - i.toNat,⟨0,r',rfl,Nat.zero_le _,rfl,A5,rfl,rfl⟩,?_⟩
 rintro _ _ ⟨k,r1,rfl,hkN,rfl,ZU,Oy,hl1⟩
 refine⟨λhlt=>⟨by omega,λ_=>⟨hca (by omega),λ_=>?_⟩⟩,λlN=>?_⟩
 ·obtain⟨y,hy⟩:∃y,r1.cls[k]? =some y:=⟨_,List.getElem?_eq_getElem (show k<r1.cls.length by omega)⟩
  have hyw:(o k).cls[k]? =some y.g:=by rw[<-ZU.c,List.getElem?_map,hy];rfl
  have to:=(vb (b:=b) (w:=o k) (r:=r1) (room:=room) hy (S:=HP.tt) (γ:=Option Addr×Nat×List js) (g':=λ_=>KL y.g) (φ:=λv z=>v=.slice z.1 z.2.2.length z.2.1/\z.2.2.map (·.m)=y.g.out) (Q:=λz=>PL dE z.1 z.2.2.length z.2.1 z.2.2) (Va.ak (λR h H=>HP.aj H) λv R h ⟨a,c,es,e,H⟩=>⟨(a,c,es),e,HP.ao H⟩)).ak (λR h H=>HP.az H) λv R h H=>H
  refine⟨_,by rw[<-Oy];exact xL hy rfl,?_⟩
  refine ax.bV (φ:=y.g.out.length<=1000000) (λR h H=>WW.ah9 hy H) λhob=>?_
  refine to.ak (λ_ _ h=>h) ?_
  rintro v R h ⟨⟨a,c,es⟩,⟨rfl,he⟩,H⟩
  let w2:gE I.α:={o k with cls:=(o k).cls.set k (KL y.g)}
  let r2:xV I:={r1 with cls:=r1.cls.set k ⟨y.b,KL y.g⟩}
  have hw2:pX w2 r2:=ZU.cl (x:=⟨y.b,KL y.g⟩)
  have ha:es.length≠0->a.isSome=true:=λhn=>PL.nG (HP.ai H) hn
  have HQ:es.length=y.g.out.length:=by rw[<-he,List.length_map]
  refine⟨a,es.length,c,PL dE a es.length c es,WW room b w2 r2,rfl,⟨λi P1 P2=>∃j:Nat,i=j/\j<=es.length/\P1=PL dE a es.length c es/\P2=WW room b {w2 with fK:=ur w2.fK (y.g.out.take j)} r2,λi _ _=>es.length - i.toNat,⟨0,rfl,Nat.zero_le _,rfl,rfl⟩,?_⟩,HP.ao H⟩
  clear H
  rintro _ _ _ ⟨j,rfl,hj,rfl,rfl⟩
  refine⟨λacH=>⟨by omega,λ_=>⟨ha (by omega),λ_=>?_⟩⟩,λalR=>⟨aK _ (by omega) (by omega),λ_=>⟨⟨k+1,r2,by omega,by omega,?_,?_,Oy,?_⟩,by dsimp only;omega⟩⟩⟩
  ·obtain⟨z,hz⟩:∃z,es[j]? =some z:=⟨_,List.getElem?_eq_getElem (show j<es.length by omega)⟩
   have hzo:y.g.out[j]? =some z.m:=by rw[<-he,List.getElem?_map,hz];rfl
   refine⟨z.m.fr,z.m.to,z.m.num,z.m.bf,z.m.kind,z.m.ep,z.m.at',z.m.cell.what,z.ca,z.m.cell.data.length,z.cc,z.m.br,z.m.bw,z.va,z.m.val.length,z.vc,z.m.bM,z.m.tail,z.m.low,z.m.back,pMs hz,λ_=>⟨.pointer (some ⟨r2.nb,0,none⟩),gn xK (by kernel_rfl) (by kernel_rfl) rfl,?_⟩⟩
   refine(NV (w:={w2 with fK:=ur w2.fK (y.g.out.take j)}) (r:=r2) (room:=room) (b:=b) z.m z.ca z.cc z.va z.vc (PL dE a es.length c es) λR h q H=>PL.dv (List.mem_of_getElem? hz) H q).ak (λ_ _ h=>h) ?_
   rintro v R h ⟨rfl,H⟩
   refine⟨_,_,_,rfl,⟨aK _ (by omega) (by omega),λ_=>⟨⟨j+1,by omega,by omega,rfl,?_⟩,by dsimp only;omega⟩⟩,H⟩
   rw[Lj hzo]
  ·have e1:o (k+1)={w2 with fK:=ur w2.fK (y.g.out.take j)}:=by
    show(List.range (k+1)).foldl Hh w'=_
    rw[fold_succ]
    show Hh (o k) k=_
    unfold Hh
    rw[hyw,List.take_of_length_le (by omega)]
   rw[e1]
  ·have e1:o (k+1)={w2 with fK:=ur w2.fK (y.g.out.take j)}:=by
    show(List.range (k+1)).foldl Hh w'=_
    rw[fold_succ]
    show Hh (o k) k=_
    unfold Hh
    rw[hyw,List.take_of_length_le (by omega)]
   rw[e1]
   exact hw2.fK _
  ·show(r1.cls.set k _).length=N
   rw[List.length_set];exact hl1
 obtain rfl:k=N:=by omega
 have aeI:Cz w' ro w.ft=(List.range N).foldl (Qx w.ft) (Qw (o N) ro):=by unfold Cz;rw[hN]
 have dvx:∀R h z,(HP.an (x.bB a1) (x.bj a2)).p R h->(x.bB a1).p R z/\(x.bj a2).p R z:=λR h z H=>by
  have h1:=HP.aj H
  have h2:=HP.ai H
  exact⟨h1,h2⟩
 have aia:r1.cls.length≠0->r1.ca.isSome=true:=λh=>by rw[Oy];exact hca (by omega)
 rw[aeI]
 clear aeI
 refine⟨λhr=>?_,λhr=>?_⟩
 rotate_left
 obtain rfl:ro=none:=by cases ro with
  |none=>rfl
  |some m=>exact absurd rfl hr
 rw[show Qw (o r'.cls.length) none=o r'.cls.length from rfl]
 generalize o r'.cls.length=wB at ZU⊢
 have hwB:=ZU
 rotate_left
 obtain⟨mm,rfl⟩:=Option.isSome_iff_exists.1 hr
 obtain rfl:mm=x:=hx
 refine⟨.pointer (some ⟨r1.nb,0,none⟩),gn xK (by kernel_rfl) (by kernel_rfl) rfl,?_⟩
 refine(NV (w:=o r'.cls.length) (r:=r1) (room:=room) (b:=b) mm a1 c1 a2 c2 (HP.an (mm.bB a1) (mm.bj a2)) dvx).ak (λ_ _ h=>h) ?_
 rintro v R h ⟨rfl,H⟩
 have hwB:pX (Qw (o r'.cls.length) (some mm)) r1:=ZU.fK _
 refine⟨_,WW room b (Qw (o r'.cls.length) (some mm)) r1,mm.bB a1,mm.bj a2,rfl,?_,H⟩
 clear H
 generalize Qw (o r'.cls.length) (some mm)=wB at hwB⊢
 all_goals refine⟨r1.ca,r1.cls.length,r1.cc,gn oU (by kernel_rfl) (by kernel_rfl) rfl,?_⟩
 all_goals
  let t:Nat->gE I.α:=λk=>(List.range k).foldl (Qx w.ft) wB
  refine⟨λi P=>∃(k:Nat) (r2:xV I),i=k/\k<=r1.cls.length/\P=WW room b (t k) r2/\pX (t k) r2/\r2.ca=r1.ca/\r2.cls.length=r1.cls.length,λi _=>r1.cls.length - i.toNat,⟨0,r1,rfl,Nat.zero_le _,rfl,hwB,rfl,rfl⟩,?_⟩
  rintro _ _ ⟨k,r2,rfl,alU,rfl,hw2,Oj,hl2⟩
  refine⟨λhlt=>⟨by omega,λ_=>⟨aia (by omega),λ_=>?_⟩⟩,λlN=>?_⟩
  ·obtain⟨y,hy⟩:∃y,r2.cls[k]? =some y:=⟨_,List.getElem?_eq_getElem (show k<r2.cls.length by omega)⟩
   have hyw:(t k).cls[k]? =some y.g:=by rw[<-hw2.c,List.getElem?_map,hy];rfl
   have ta:=(vb (b:=b) (w:=t k) (r:=r2) (room:=room) hy (S:=HP.tt) (γ:=Option Addr×Nat×Option Addr×Nat) (g':=λ_=>fJ y.g) (φ:=λv z=>v=.tuple #[if y.g.waits=true then uJ y.g.id else uJ (0,0,0),if y.g.waits=true then oJ y.g.aQ z.1 z.2.1 z.2.2.1 z.2.2.2 else oJ {} none 0 none 0,.bool y.g.waits]) (Q:=λz=>HP.an (aO z.1 y.g.aQ.data.length y.g.aQ.data) (tY z.2.2.1 y.g.aQ.aL.length y.g.aQ.aL))
    (G3.ak (λR h H=>HP.aj H) λv R h ⟨a,c,a',c',e,H⟩=>⟨(a,c,a',c'),e,HP.pick [aO a y.g.aQ.data.length y.g.aQ.data,tY a' y.g.aQ.aL.length y.g.aQ.aL,b6 y.b (fJ y.g)] [2,0,1] (by decide) rfl H⟩)).ak (λR h H=>HP.az H) λv R h H=>H
   have et:t (k+1)=Qx w.ft (t k) k:=fold_succ ..
   refine⟨_,by rw[<-Oj];exact xL hy rfl,?_⟩
   refine ta.ak (λ_ _ h=>h) ?_
   rintro v R h ⟨⟨ya,yc,za,zc⟩,rfl,H⟩
   let w3:gE I.α:={t k with cls:=(t k).cls.set k (fJ y.g)}
   let r3:xV I:={r2 with cls:=r2.cls.set k ⟨y.b,fJ y.g⟩}
   have hw3:pX w3 r3:=hw2.cl (x:=⟨y.b,fJ y.g⟩)
   have hl3:r3.cls.length=r1.cls.length:=List.length_set.trans hl2
   by_cases Zd:y.g.waits=true
   ·have ew:t (k+1)=AC w3 y.g.id y.g.aQ w.ft:=by rw[et];unfold Qx;rw[hyw];exact if_pos Zd
    rw[if_pos Zd,if_pos Zd]
    refine⟨y.g.id.1,y.g.id.2.1,y.g.id.2.2,y.g.aQ.bM,y.g.aQ.kind,y.g.aQ.size,y.g.aQ.d9,ya,y.g.aQ.data.length,yc,aO ya y.g.aQ.data.length y.g.aQ.data,za,y.g.aQ.aL.length,zc,tY za y.g.aQ.aL.length y.g.aQ.aL,y.g.waits,WW room b w3 r3,rfl,λ_ _=>⟨λ_=>?_,λh=>absurd Zd h⟩,HP.pick [_,aO ya y.g.aQ.data.length y.g.aQ.data,tY za y.g.aQ.aL.length y.g.aQ.aL] [1,2,0] (by decide) rfl H⟩
    refine(CC hw3 y.g.id y.g.aQ ya yc za zc w.ft).ak (λ_ _ h=>h) ?_
    rintro v R h ⟨rfl,hA,hB,dd,la,lb,⟨r4,⟨q1,q2,q3⟩,HW⟩,HS⟩
    refine⟨WW room b (AC w3 y.g.id y.g.aQ w.ft) r4,_,_,rfl,⟨aK _ (by omega) (by omega),λ_=>⟨⟨k+1,r4,by omega,by omega,by rw[ew],by rw[ew];exact q1,by rw[q2];exact Oj,by rw[q3];exact hl3⟩,by dsimp only;omega⟩⟩,hA,hB,dd,la,lb,HW,HS⟩
   ·have ew:t (k+1)=w3:=by rw[et];unfold Qx;rw[hyw];exact if_neg Zd
    rw[if_neg Zd,if_neg Zd]
    exact⟨0,0,0,0,0,0,0,none,0,0,HP.tt,none,0,0,HP.tt,y.g.waits,WW room b w3 r3,rfl,λ_ _=>⟨λh=>absurd h Zd,λ_=>⟨aK _ (by omega) (by omega),λ_=>⟨⟨k+1,r3,by omega,by omega,by rw[ew],by rw[ew];exact hw3,Oj,hl3⟩,by dsimp only;omega⟩⟩⟩,HP.aM (HP.aM (HP.aj H))⟩
  ·have ek:k=r'.cls.length:=by omega
   subst ek
   exact .of λR h H=>⟨rfl,HP.ae H (λ_ h=>⟨r2,hw2,h⟩) λ_ h=>h⟩
end
end
namespace RX
-- ZR.abQ[[]*eC/abg.abh,*eC/abg.abh]:ρ:=[.a sa,.n sl,.n sc,.p sP,.v f,.p fP]
def tC:T:=
(.loop [.i,.i,.p] [.z (.i 0),.z (.i 0),.p [(4,5)]]
(.br (.lt 7 (.of 1))
(.need (.le (.i 0) 7)
(.need (.is 0)
  (.ld 37 14 (.aW 0 7 1 0) [(0,3)] [.v] (.val 9)
  (.jw 4 [.val 9] [(4,8),(0,3)] [.c,.p] (.bool 10) [(4,11),(0,3)]
(.br 10
(.ret 7 [(0,3),(4,11)])
  (.rg (.add 7 (.i 1))
(.again 0 [.z 6,.z (.add 7 (.i 1)),.p [(4,11)]])))))))
(.ret (.k (-1)) [(0,3),(4,8)])))
theorem CD:tree Tryz.prog {fx:=[37],hv:=[(0,[.a 4])],aB:=[93],bz:=true,cx:=true,cf:=[37]} Tryz.f93 [.s 0,.val 4] [(0,3),(4,5)] 6=tC:=by kernel_rfl
def nh:T:=
(.call 93 [.s 0,.val 4] [(0,3),(4,5)] [.i] 6 [(0,3),(4,5)]
(.ret (.bool (.le (.i 0) 6)) [(0,3),(4,5)]))
theorem uS:tree Tryz.prog {fx:=[37],aB:=[93],bz:=true,cx:=true,cf:=[37]} Tryz.f53 [.s 0,.val 4] [(0,3),(4,5)] 6=nh:=by kernel_rfl
def Hu:T:=
(.br (.not (.is 0))
(.ret .z [(0,3)])
(.new
(.op (.call ⟨.builtin .append,#[.tmp 5,.tmp 6],#[35,35]⟩) 35 [(5,.sl (.b 4 0) (.n 0) (.n 0)),(6,.s 0)] [(.b 4,.cells [] 61),(0,3)] [.a,.n,.n,.p] (.s 5) [(5,8),(0,3)]
(.ret (.s 5) [(0,3),(5,8)]))))
theorem Hv:tree Tryz.prog {bz:=true,cx:=true} Tryz.f22 [.s 0] [(0,3)] 4=Hu:=by kernel_rfl
end RX
section
open RX
theorem QH{α:Type}{l:List α}{k:Nat}{x:α}(hk:l[k]? =some x):l.set k x=l:=by
 refine List.ext_getElem? λj=>?_
 rw[List.getElem?_set]
 split
 ·rename_i hj;subst hj;first|exact hk.symm|(rw[if_pos (List.getElem?_eq_some_iff.1 hk).1,hk])
 ·rfl
section
variable {I:tq}{room:Int}{b:Nat}{w:gE I.α}{r:xV I}
theorem NW{f:FuncId}{args:Array Value}{k:Nat}{x:NR I}(hk:r.cls[k]? =some x){ψ:Value->Prop}(t:ax Tryz.prog f args (b6 x.b x.g) (λv=>HP.and (ψ v) (b6 x.b x.g))):ax Tryz.prog f args (WW room b w r) (λv=>HP.and (ψ v) (WW room b w r)):=by
 refine mz (ty:=73) (b:=b) (cs:=(u7 w r).toArray) (L:=u9 room w r) (k:=3) (X:=PL (qE I) r.ca r.cls.length r.cc r.cls) rfl ?_
 have h:=PL.aY (K:=qE I) (a:=r.ca) (n:=r.cls.length) (c:=r.cc) hk (S:=HP.tt) (γ:=Unit) (y:=λ_=>x) (φ:=λv _=>ψ v) (Q:=λ_=>HP.tt) (λ_=>rfl) (t.ak (λR h H=>HP.aj H) λv R h ⟨e,H⟩=>⟨(),e,HP.az H⟩)
 rw[QH hk]at h
 exact h.ak (λR h H=>HP.az H) λv R h ⟨_,e,H⟩=>⟨e,HP.aj H⟩
theorem aeJ:tD Tryz.prog 33:=⟨_,Tryz.func33,by kernel_rfl,by kernel_rfl⟩
abbrev buF:Value:=.func (.func 33) #[] #[]
def nE(w:gE I.α):Bool:=w.cls.any (·.busy)
theorem abi{k:Nat}{x:NR I}(hk:r.cls[k]? =some x):iu Tryz.prog buF #[.pointer (some ⟨x.b,0,none⟩)] (HP.an HP.tt (WW room b w r)) (λv=>HP.and (v=.bool x.g.busy) (HP.an HP.tt (WW room b w r))):=
 .inl ⟨_,_,rfl,aeJ,(NW (ψ:=λv=>v=.bool x.g.busy) hk Au).ak (λR h H=>HP.ai H) λv R h ⟨e,H⟩=>⟨e,HP.aM H⟩⟩
theorem Ll(hl:r.cls.length<=8):ax Tryz.prog 93 #[.slice r.ca r.cls.length r.cc,buF] (HP.an (WW room b w r) HP.tt) (λv=>HP.ex λq:Int=>HP.and (v=.int .i64 q/\(0<=q↔r.cls.any (·.g.busy)=true)) (HP.an (WW room b w r) HP.tt)):=by
 refine ax.bV (φ:=r.cls.length≠0->r.ca.isSome=true) (λR h H=>WW.i6 (HP.aj H)) λhs=>?_
 have:=ah (ρ:=[.a r.ca,.n r.cls.length,.n r.cc,.p (WW room b w r),.v buF,.p HP.tt]) mixed Tryz.func93 (t:=tC) (post:=λv=>HP.ex λq:Int=>HP.and (v=.int .i64 q/\(0<=q↔r.cls.any (·.g.busy)=true)) (HP.an (WW room b w r) HP.tt)) CD ?_
 ·exact this
 unfold tC
 refine cg ?_
 refine⟨λ_ i P=>∃k:Nat,i=k/\k<=r.cls.length/\P=HP.tt/\∀(j:Nat) (x:NR I),j<k->r.cls[j]? =some x->x.g.busy=false,λ_ i _=>r.cls.length - i.toNat,⟨0,rfl,Nat.zero_le _,rfl,λq x h=>by omega⟩,?_⟩
 rintro _ _ _ ⟨k,rfl,hk,rfl,hall⟩
 refine⟨λhlt=>⟨by omega,λ_=>⟨hs (by omega),λ_=>?_⟩⟩,λlN=>.of λR h H=>⟨-1,⟨rfl,?_⟩,H⟩⟩
 ·obtain⟨x,hx⟩:∃x,r.cls[k]? =some x:=⟨_,List.getElem?_eq_getElem (show k<r.cls.length by omega)⟩
  refine⟨.pointer (some ⟨x.b,0,none⟩),xL hx rfl,?_⟩
  refine(abi hx).ak (λ_ _ h=>h) ?_
  rintro v R h ⟨rfl,H⟩
  refine⟨x.g.busy,HP.tt,rfl,⟨λhp=>.of λR h H=>⟨k,⟨rfl,⟨λ_=>List.any_eq_true.2 ⟨x,List.mem_of_getElem? hx,hp⟩,λ_=>by omega⟩⟩,H⟩,λhp=>⟨aK _ (by omega) (by omega),λ_=>⟨⟨k+1,by omega,by omega,rfl,λq y hq hy=>?_⟩,by dsimp only;omega⟩⟩⟩,H⟩
  rcases Nat.lt_or_ge q k with h|h
  ·exact hall q y h hy
  ·obtain rfl:q=k:=by omega
   rw[hx]at hy;cases hy
   simpa using hp
 ·refine⟨λh=>by omega,λh=>?_⟩
  obtain⟨x,hx,hp⟩:=List.any_eq_true.1 h
  obtain⟨q,hq,rfl⟩:=List.mem_iff_getElem.1 hx
  have:=hall q r.cls[q] (by omega) (List.getElem?_eq_getElem hq)
  rw[hp]at this;cases this
theorem xM(hk:pX w r):ax Tryz.prog 34 #[.pointer (some ⟨b,0,none⟩)] (WW room b w r) (λv=>HP.and (v=.bool (nE w)) (WW room b w r)):=by
 have hl:r.cls.length<=8:=by have:=hk.n.2.1;rw[<-hk.c,List.length_map]at this;exact this
 have hb:r.cls.any (·.g.busy)=nE w:=by unfold nE;rw[<-hk.c,List.any_map];rfl
 have ct:ax Tryz.prog 53 #[.slice r.ca r.cls.length r.cc,buF] (HP.an (WW room b w r) HP.tt) (λv=>HP.and (v=.bool (nE w)) (HP.an (WW room b w r) HP.tt)):=by
  have:=ah (ρ:=[.a r.ca,.n r.cls.length,.n r.cc,.p (WW room b w r),.v buF,.p HP.tt]) mixed Tryz.func53 (t:=nh) (post:=λv=>HP.and (v=.bool (nE w)) (HP.an (WW room b w r) HP.tt)) uS ?_
  ·exact this
  unfold nh
  refine cg ?_
  refine(Ll hl).ak (λ_ _ h=>h) ?_
  rintro v R h ⟨q,⟨rfl,hq⟩,H⟩
  refine⟨q,rfl,.of λR h H=>⟨?_,H⟩,H⟩
  congr 1
  rw[Bool.eq_iff_iff,decide_eq_true_eq,hq,hb]
 refine ah (ρ:=[.n b,.p (WW room b w r)]) mixed Tryz.func34 Lf ?_
 unfold NQ
 refine cg ?_
 refine⟨r.ca,r.cls.length,r.cc,gn oU (by kernel_rfl) (by kernel_rfl) rfl,?_⟩
 refine ct.ak (λR h H=>HP.az H) ?_
 rintro v R h ⟨rfl,H⟩
 exact⟨_,_,rfl,.of λR h H=>⟨rfl,H⟩,HP.aj H⟩
end
section
variable {I:tq}{room:Int}{b:Nat}{w:gE I.α}{r:xV I}
def VD:Q4:=⟨6,0,0,false,⟨0,[],[],0,0,[]⟩⟩
def uv(room:Int):Nat->gE I.α->gE I.α->Prop
 |0,w,w'=>w.fK=[]/\w'=w
 |n+1,w,w'=>if w.fK=[]then w'=w else ∃m w1 ro,w.fK[oy w.fK.length 0]? =some m/\(0<=w.ft/\w.ft<=1000000000000)/\Hq {w with ft:=w.ft+1,fK:=takeN w.fK 0 false} m/\qD I.F room {w with ft:=w.ft+1,fK:=takeN w.fK 0 false} m=some (w1,ro)/\uv room n (Cz w1 ro w.ft) w'
theorem QI{n:Nat}{w':gE I.α}(h:uv room n w w')(hn:w.fK=[]):w'=w:=by
 cases n with
 |zero=>exact h.2
 |succ n=>unfold uv at h;rw[if_pos hn]at h;exact h
theorem VE(hk:pX w r){m:MS}{w1:gE I.α}{ro:Option MS}(hm:w.fK[oy w.fK.length 0]? =some m)(hn:0<=w.ft/\w.ft<=1000000000000)(hd:Hq {w with ft:=w.ft+1,fK:=takeN w.fK 0 false} m)(he:qD I.F room {w with ft:=w.ft+1,fK:=takeN w.fK 0 false} m=some (w1,ro)):
 ax Tryz.prog 13 #[.pointer (some ⟨b,0,none⟩),VD.val none 0 none 0 0] (WW room b w r) (λv=>HP.ex λr'=>HP.and (v=.int .i64 0/\pX (Cz w1 ro w.ft) r') (WW room b (Cz w1 ro w.ft) r')):=
 (VC (b:=b) (w:=w) (room:=room) VD none 0 none 0 0 HP.tt hn (Lg (w:={w with ft:=w.ft+1}) VD none 0 none 0 0 HP.tt w.ft rfl hm (λ_=>hd) he)).ak (λR h H=>HP.ae (HP.az H) (λ_ h=>⟨r,hk,h⟩) λz _=>HP.yE (A:=aO none 0 []) (λ_=>bb.nil _ _ _ _) (show HP.tt.p R z from trivial)) λv R h ⟨e,H⟩=>by
   obtain⟨r',A5,H1⟩:=HP.aj H
   exact⟨r',⟨e,A5⟩,H1⟩
set_option maxHeartbeats 8000000 in
theorem Lm(hk:pX w r){w':gE I.α}(N:Nat)(hN:N<200)(hr:uv room N w w')(hb:nE w=true)(QR:nE w'=false):
 ax Tryz.prog 14 #[.pointer (some ⟨b,0,none⟩)] (WW room b w r) (λv=>HP.ex λr'=>HP.and (v=.bool true/\pX w' r') (WW room b w' r')):=by
 refine ah (ρ:=[.n b,.p (WW room b w r)]) mixed Tryz.func14 CB ?_
 unfold AF
 refine cg ?_
 refine⟨λi P=>(i=0/\P=WW room b w r)\/(i=1/\∃r',P=WW room b w' r'/\pX w' r'),λi _=>2000 - i.toNat,.inl ⟨rfl,rfl⟩,?_⟩
 rintro _ _ (⟨rfl,rfl⟩|⟨rfl,r',rfl,A5⟩)
 rotate_left
 ·refine⟨λ_=>gC (g:=.bool) (nE w') (xM A5) ⟨λh=>(by rw[QR]at h;cases h),λ_=>gC (g:=.bool) (nE w') (xM A5) (.of λR h H=>⟨r',⟨by rw[QR];rfl,A5⟩,H⟩)⟩,λh=>absurd (show(1:Int)<2000 by decide) h⟩
 refine⟨λ_=>gC (g:=.bool) (nE w) (xM hk) ⟨λ_=>?_,λh=>absurd hb h⟩,λh=>absurd (show(0:Int)<2000 by decide) h⟩
 refine⟨λi P=>∃(k n:Nat) (wk:gE I.α) (rk:xV I),i=k/\k+n=N/\P=WW room b wk rk/\pX wk rk/\uv room n wk w',λi _=>200 - i.toNat,⟨0,N,w,r,rfl,Nat.zero_add _,rfl,hk,hr⟩,?_⟩
 rintro _ _ ⟨k,n,wk,rk,rfl,hkn,rfl,QE,hrk⟩
 refine⟨λ_=>?_,λh=>absurd (show(k:Int)<200 by omega) h⟩
 have nl:ax Tryz.prog 35 #[.pointer (some ⟨rk.nb,0,none⟩)] (WW room b wk rk) (λv=>HP.and (v=.int .i64 wk.fK.length) (WW room b wk rk)):=mz (ty:=73) (b:=b) (cs:=(u7 wk rk).toArray) (L:=u9 room wk rk) (k:=6) (X:=fY rk.nb wk.fK) (ψ:=λv=>v=.int .i64 wk.fK.length) rfl (Xj (b:=rk.nb) wk.fK)
 refine⟨.pointer (some ⟨rk.nb,0,none⟩),gn xK (by kernel_rfl) (by kernel_rfl) rfl,ax.bV (φ:=rk.cls.length≠0->rk.ca.isSome=true) (λR h H=>WW.i6 H) λhca=>gC (g:=λx=>.int .i64 x) (wk.fK.length:Int) nl ⟨λhl=>?_,λhl=>?_⟩⟩
 ·have hne:wk.fK≠[]:=λh=>by rw[h]at hl;exact absurd hl (by decide)
  cases n with
  |zero=>exact absurd hrk.1 hne
  |succ n=>
   unfold uv at hrk
   rw[if_neg hne]at hrk
   obtain⟨m,w1,ro,hm,hn,hd,he,tL⟩:=hrk
   refine(VE QE hm hn hd he).ak (λ_ _ h=>h) ?_
   rintro v R h ⟨r2,⟨rfl,VP⟩,H⟩
   exact⟨0,WW room b (Cz w1 ro wk.ft) r2,rfl,⟨aK _ (by omega) (by omega),λ_=>⟨⟨k+1,n,_,r2,by omega,by omega,rfl,VP,tL⟩,by dsimp only;omega⟩⟩,H⟩
 have sx:wk.fK=[]:=List.eq_nil_of_length_eq_zero (by omega)
 obtain rfl:=QI hrk sx
 have R8:rk.cls.length=w'.cls.length:=by rw[<-QE.c,List.length_map]
 have hn8:=QE.n.2.1
 refine⟨rk.ca,rk.cls.length,rk.cc,gn oU (by kernel_rfl) (by kernel_rfl) rfl,?_⟩
 refine⟨λi P=>∃j:Nat,i=j/\j<=rk.cls.length/\P=WW room b w' rk,λi _=>rk.cls.length - i.toNat,⟨0,rfl,Nat.zero_le _,rfl⟩,?_⟩
 rintro _ _ ⟨j,rfl,hj,rfl⟩
 refine⟨λhlt=>⟨rk.ca,rk.cls.length,rk.cc,gn oU (by kernel_rfl) (by kernel_rfl) rfl,by omega,λ_=>⟨hlt,λ_=>⟨?_,λ_=>?_⟩⟩⟩,λlN=>⟨aK _ (by omega) (by omega),λ_=>⟨.inr ⟨rfl,rk,rfl,QE⟩,by dsimp only;decide⟩⟩⟩
 ·exact hca (by omega)
 ·obtain⟨x,hx⟩:∃x,rk.cls[j]? =some x:=⟨_,List.getElem?_eq_getElem (show j<rk.cls.length by omega)⟩
  have hxb:x.g.busy=false:=by
   have h:=QR
   unfold nE at h
   rw[<-QE.c,List.any_map,List.any_eq_false]at h
   simpa using h x (List.mem_of_getElem? hx)
  refine⟨.pointer (some ⟨x.b,0,none⟩),xL hx rfl,gC (g:=.bool) x.g.busy (NW (ψ:=λv=>v=.bool x.g.busy) hx Au) ⟨λh=>(by rw[hxb]at h;cases h),λ_=>⟨aK _ (by omega) (by omega),λ_=>⟨⟨j+1,by omega,by omega,rfl⟩,by dsimp only;omega⟩⟩⟩⟩
end
theorem QJ(S:HP)(a:Option Addr)(n c:Nat)(es:List xT)(hr:Rd S a (es.flatMap xU.aA))(hl:es.length=n)(hs:n≠0->a.isSome=true)(hp:∀R h,S.p R h->∀x∈es,∀z,(xU.hp x).p R z)(hb:n<=1000000000):
 ax Tryz.prog 22 #[.slice a n c] S (λv=>HP.ex λa'=>HP.ex λc'=>HP.and (v=.slice a' n c') (HP.an (PL gz a' n c' es) S)):=by
 refine ah (ρ:=[.a a,.n n,.n c,.p S]) mixed Tryz.func22 Hv ?_
 unfold Hu
 refine cg ?_
 refine⟨λha=>.of λR h H=>?_,λha x=>?_⟩
 ·have hn:n=0:=Classical.byContradiction λhn=>ha (hs hn)
  subst hn
  obtain rfl:es=[]:=List.eq_nil_of_length_eq_zero hl
  exact⟨none,0,rfl,HP.aM H|>λH=>HP.ae H (λx _=>PL.nX _ R x) λ_ h=>h⟩
 ·cases a with
  |none=>simp at ha
  |some ad=>
   obtain⟨i,z,hi,h1,h2,h3,h4⟩:=NS
   have:=fG 35 35 61 i z qF hi h1 h2 (by omega) (some ⟨x,0,none⟩) 0 0 [] S ad n c (es.flatMap xU.aA) hr (by rw[en xU.aA 17 xU.len,hl,h3]) (λu hu=>by
    obtain⟨y,_,hy⟩:=List.mem_flatMap.1 hu;exact r8 y u hy) (by unfold maxLen;omega) (by
     have:=Nat.mul_le_mul (show 0+n<=1000000000 by omega) h4
     omega)
   rw[h3]at this
   refine this.ak (λR h H=>HP.ae H (λy hy=>⟨by simp,.inr ⟨x,#[],rfl,hy,Nat.le_refl _,by unfold maxLen;omega,rfl,rfl⟩⟩) λ_ h=>h) ?_
   rintro v R h ⟨a',c',rfl,H⟩
   rw[Nat.zero_add,List.nil_append]at H
   have hro:=hp R _ (HP.ai H)
   refine⟨a',n,c',PL gz a' n c' es,by rw[Nat.zero_add],.of λR' h' H'=>⟨a',c',rfl,HP.ao H'⟩,HP.ae H (λy hy=>⟨hl,HP.ao ⟨PH.cz,y,PH.dY _,PH.cT _,PH.le.refl _,?_,hy⟩⟩) λ_ h=>h⟩
   have:∀l:List xT,(∀y∈l,y∈es)->(aX (l.map gz.bf)).p R PH.cz:=λl=>by
    induction l with
    |nil=>exact λ_=>trivial
    |cons y l ih=>exact λhs=>bE.2 ⟨PH.cz,PH.cz,PH.dY _,PH.cT _,PH.cT _,hro y (hs y (List.mem_cons_self ..)) _,ih λq hq=>hs q (List.mem_cons_of_mem _ hq)⟩
   exact this es λ_ h=>h
section
variable {I:tq}{room:Int}{b:Nat}{w:gE I.α}{r:xV I}
theorem AH:ax Tryz.prog 8 #[.pointer (some ⟨b,0,none⟩)] (WW room b w r) (λv=>HP.ex λa=>HP.ex λc=>HP.and (v=.slice a w.fK.length c) (WW room b w r)):=by
 refine ah (ρ:=[.n b,.p (WW room b w r)]) mixed Tryz.func8 Hj ?_
 unfold Hi
 refine cg ?_
 refine⟨.pointer (some ⟨r.nb,0,none⟩),gn xK (by kernel_rfl) (by kernel_rfl) rfl,?_⟩
 refine(oN (ty:=73) (b:=b) (cs:=(u7 w r).toArray) (L:=u9 room w r) (k:=6) (X:=fY r.nb w.fK) (γ:=Option Addr×Nat×List js) (φ:=λv y=>v=.slice y.1 y.2.2.length y.2.1/\y.2.2.map (·.m)=w.fK) (P:=λy=>PL dE y.1 y.2.2.length y.2.1 y.2.2) rfl ((Xp (b:=r.nb) w.fK).ak (λ_ _ h=>h) λv R h ⟨a,c,es,e,H⟩=>⟨(a,c,es),e,H⟩)).ak (λ_ _ h=>h) ?_
 rintro v R h ⟨⟨a,c,es⟩,⟨rfl,he⟩,H⟩
 have hl:es.length=w.fK.length:=by rw[<-he,List.length_map]
 exact⟨a,es.length,c,_,_,rfl,.of λR h H=>⟨a,c,by rw[hl],HP.aj H⟩,H⟩
theorem PL.stK{t:TypeId}{α:Type}{K:qg α}{e:TypeId}{one:∀x,∀u∈K.aA x,u.oneCell'=true}{a:Option Addr}{n c:Nat}{l:List α}{i:TypeInfo}(hi:Tryz.prog.info? t=some i){k:Nat}{x y:α}(hk:l[k]? =some x){off:Nat}{vs:List Value}{v:Value}(hx:v.cells=vs.toArray)(hz:i.size=vs.length)(hp:0<vs.length)(h1:∀u∈vs,u.oneCell'=true)(hlen:off+vs.length<=K.n)(hv:K.aA y=(K.aA x).take off++vs++(K.aA x).drop (off+vs.length)){S:HP}(hr:∀R h z,(HP.an (PL (sC K e one) a n c l) S).p R h->(K.hp y).p R z):
 aI Tryz.prog (bH t (.pointer (a.map λz=>(z.add (k*K.n)).add off)) v) (HP.an (PL (sC K e one) a n c l) S) (λv=>HP.and (v=.tuple #[]) (HP.an (PL (sC K e one) a n c (l.set k y)) S)):=
 (PL.NT (K:=sC K e one) hi (a:=a) (n:=n) (c:=c) (l:=l) (k:=k) (x:=x) (y:=y) hk (off:=off) (vs:=vs) (v:=v) hx hz hp h1 hlen hv S).ak (λR h H=>HP.ae H (λ_ h=>h) λy' hy=>HP.yE (λz=>hr R h z H) hy) λv R h H=>H
theorem abj:(Tryz.prog.info? 52).map (λi=>i.size)=some 6:=by kernel_rfl
theorem abk:(Tryz.prog.info? 42).map (λi=>i.size)=some 1:=by kernel_rfl
theorem abl:(Tryz.prog.info? 57).map (λi=>i.size)=some 1:=by kernel_rfl
theorem abm:(Tryz.prog.underlying 52).isSome=true:=by kernel_rfl
set_option maxHeartbeats 8000000 in
theorem AI(hk:pX w r)(hb:∀d∈w.cq,d.call.data.length<=1000000/\d.aQ.data.length<=1000000/\d.aQ.aL.length<=1000000):
 ax Tryz.prog 9 #[.pointer (some ⟨b,0,none⟩)] (WW room b w r) (λv=>HP.ex λa=>HP.ex λc=>HP.ex λes:List xT=>HP.and (v=.slice a es.length c/\es.map (·.d)=w.cq) (HP.an (PL gz a es.length c es) (WW room b w r))):=by
 have hdl:r.fi.length=w.cq.length:=by rw[<-hk.d,List.length_map]
 have hko:=hk.o
 refine ax.bV (φ:=r.fi.length≠0->r.ea.isSome=true) (λR h H hn=>PL.nG (PW.part (k:=7) rfl H) hn) λhea=>?_
 refine ah (ρ:=[.n b,.p (WW room b w r)]) mixed Tryz.func9 Hl ?_
 unfold Hk
 refine cg ?_
 refine⟨r.ea,r.fi.length,r.ec,gn qF (by kernel_rfl) (by kernel_rfl) rfl,?_⟩
 refine(QJ (WW room b w r) r.ea r.fi.length r.ec r.fi (Rd.nU (PL.rd (K:=gz) r.ea r.fi.length r.ec r.fi) λR h H=>PW.part (k:=7) rfl H) rfl hea (λR h H x hx z=>by
  have H1:(PL gz r.ea r.fi.length r.ec r.fi).p R h:=PW.part (k:=7) rfl H
  exact xU.gf x _ _ z (gT (HP.ai H1.2) (xU.hp x) (List.mem_map.2 ⟨x,hx,rfl⟩))) (by omega)).ak (λ_ _ h=>h) ?_
 rintro v R h ⟨a,c,rfl,H⟩
 have ha:r.fi.length≠0->a.isSome=true:=λhn=>PL.nG (HP.aj H) hn
 refine⟨a,r.fi.length,c,PL gz a r.fi.length c r.fi,WW room b w r,rfl,?_,H⟩
 clear H
 refine⟨λi P=>∃(k:Nat) (es:List xT),i=k/\k<=r.fi.length/\P=PL gz a r.fi.length c es/\es.map (·.d)=r.fi.map (·.d),λi _=>r.fi.length - i.toNat,⟨0,r.fi,rfl,Nat.zero_le _,rfl,rfl⟩,?_⟩
 rintro _ _ ⟨k,es,rfl,kW,rfl,he⟩
 have HQ:es.length=r.fi.length:=by have:=congrArg List.length he;simpa using this
 refine⟨λhlt=>⟨by omega,λ_=>⟨ha (by omega),λ_=>?_⟩⟩,λlN=>.of λR h H=>⟨a,c,es,⟨by rw[HQ],by rw[he];exact hk.d⟩,by rw[HQ];exact HP.ao H⟩⟩
 obtain⟨x,hx⟩:∃x,es[k]? =some x:=⟨_,List.getElem?_eq_getElem (show k<es.length by omega)⟩
 obtain⟨b1,b2,b3⟩:=hb x.d (by rw[<-hk.d,<-he];exact List.mem_map.2 ⟨x,List.mem_of_getElem? hx,rfl⟩)
 have YT:∀ {b9:List xT} {y:xT},b9[k]? =some y->∀R h,(PL gz a r.fi.length c b9).p R h->∀z,(xU.hp y).p R z:=λ{b9 y} hy R h H z=>xU.gf y _ _ z (gT (HP.ai H.2) (xU.hp y) (List.mem_map.2 ⟨y,List.mem_of_getElem? hy,rfl⟩))
 obtain⟨ci,c1,c2⟩:=Option.map_eq_some_iff.1 abj
 obtain⟨di,d1,d2⟩:=Option.map_eq_some_iff.1 abk
 obtain⟨si,s1,s2⟩:=Option.map_eq_some_iff.1 abl
 obtain⟨cd,Yj⟩:=Option.isSome_iff_exists.1 abm
 refine⟨x.d.call.kind,x.d.call.path,x.d.call.bh,x.d.call.off,x.d.call.n,x.ca,x.d.call.data.length,x.cc,?_,?_⟩
 ·refine kk (vs:=[.int .i64 x.d.call.kind,sE x.d.call.path,sE x.d.call.bh,.int .i64 x.d.call.off,.int .i64 x.d.call.n,.slice x.ca x.d.call.data.length x.cc]) Yj (by kernel_rfl) (PL.rd (K:=gz) a r.fi.length c es) (k:=k*17) (off:=3) (by kernel_rfl) (by simp) λj v hj=>?_
  have hlt:j<6:=(List.getElem?_eq_some_iff.1 hj).1
  rw[Nat.add_assoc]
  refine(cZ gz.aA 17 (λ_=>rfl) es k (3+j) x hx (by omega)).trans ?_
  rw[<-hj]
  have:j=0\/j=1\/j=2\/j=3\/j=4\/j=5:=by omega
  rcases this with rfl|rfl|rfl|rfl|rfl|rfl<;>rfl
 refine(r9 x.d.call x.ca x.cc (PL gz a r.fi.length c es) (ul λR h H=>(YT hx R h H h).1) b1).ak (λ_ _ h=>h) ?_
 rintro v R h ⟨a1,c1',rfl,H⟩
 refine⟨x.d.call.kind,x.d.call.path,x.d.call.bh,x.d.call.off,x.d.call.n,a1,x.d.call.data.length,c1',aO a1 x.d.call.data.length x.d.call.data,rfl,?_,H⟩
 clear H
 let x1:xT:={x with ca:=a1,cc:=c1'}
 refine(PL.stK (K:=xU) (one:=r8) c1 hx (y:=x1) (off:=3) (vs:=[.int .i64 x.d.call.kind,sE x.d.call.path,sE x.d.call.bh,.int .i64 x.d.call.off,.int .i64 x.d.call.n,.slice a1 x.d.call.data.length c1']) rfl c2 (by simp) (λu hu=>by
  simp only[List.mem_cons,List.not_mem_nil,or_false]at hu
  rcases hu with h|h|h|h|h|h<;>(subst h;rfl)) (show 3+6<=17 by decide) rfl (S:=aO a1 x.d.call.data.length x.d.call.data) λR h z H=>by
   have h1:=YT hx R _ (HP.aj H) z
   have h2:=HP.ai H
   exact⟨h2,h1.2⟩).ak (λ_ _ h=>h) ?_
 rintro v R h ⟨rfl,H⟩
 have hx1:(es.set k x1)[k]? =some x1:=List.getElem?_set_self (by omega)
 let x2:Option Addr->Nat->xT:=λa2 c2=>{x1 with aa:=a2,ac:=c2}
 have S4:∀a2 c2,((es.set k x1).set k (x2 a2 c2))[k]? =some (x2 a2 c2):=λa2 c2=>List.getElem?_set_self (by rw[List.length_set];omega)
 refine⟨PL gz a r.fi.length c (es.set k x1),rfl,⟨x.aa,x.d.aQ.data.length,x.ac,b7 lY DP SQ (PL.rd (K:=gz) a r.fi.length c (es.set k x1)) (k:=k*17) (off:=15) ((cZ gz.aA 17 (λ_=>rfl) (es.set k x1) k 15 x1 hx1 (by decide)).trans rfl),?_⟩,H⟩
 clear H
 refine(jm (PL gz a r.fi.length c (es.set k x1)) x.aa x.d.aQ.data.length x.ac x.d.aQ.data (ul λR h H=>(YT hx1 R h H h).2.1) rfl (by omega)).ak (λ_ _ h=>h) ?_
 rintro v R h ⟨a2,QK,rfl,H⟩
 refine⟨a2,x.d.aQ.data.length,QK,aO a2 x.d.aQ.data.length x.d.aQ.data,rfl,?_,H⟩
 clear H
 refine(PL.stK (K:=xU) (one:=r8) d1 hx1 (y:=x2 a2 QK) (off:=15) (vs:=[.slice a2 x.d.aQ.data.length QK]) rfl d2 (by simp) (λu hu=>by rw[List.mem_singleton.1 hu];rfl) (show 15+1<=17 by decide) rfl (S:=aO a2 x.d.aQ.data.length x.d.aQ.data) λR h z H=>by
  have h1:=YT hx1 R _ (HP.aj H) z
  have h2:=HP.ai H
  exact⟨h1.1,h2,h1.2.2⟩).ak (λ_ _ h=>h) ?_
 rintro v R h ⟨rfl,H⟩
 refine⟨PL gz a r.fi.length c ((es.set k x1).set k (x2 a2 QK)),rfl,⟨x.na,x.d.aQ.aL.length,x.nc,b7 E6 (by kernel_rfl) (by kernel_rfl) (PL.rd (K:=gz) a r.fi.length c ((es.set k x1).set k (x2 a2 QK))) (k:=k*17) (off:=16) ((cZ gz.aA 17 (λ_=>rfl) ((es.set k x1).set k (x2 a2 QK)) k 16 (x2 a2 QK) (S4 _ _) (by decide)).trans rfl),?_⟩,HP.aj H⟩
 clear H
 have cn:ax Tryz.prog 25 #[.slice x.na x.d.aQ.aL.length x.nc] (PL gz a r.fi.length c ((es.set k x1).set k (x2 a2 QK))) (λv=>HP.ex λa'=>HP.ex λc'=>HP.and (v=.slice a' x.d.aQ.aL.length c') (HP.an (tY a' x.d.aQ.aL.length x.d.aQ.aL) (PL gz a r.fi.length c ((es.set k x1).set k (x2 a2 QK))))):=by
  refine(UT _ x.na x.d.aQ.aL.length x.nc x.d.aQ.aL (ul λR h H=>(YT (S4 _ _) R h H h).2.2) rfl (by omega)).post λv=>λR h d ⟨a',c',e,H⟩=>?_
  obtain⟨R1,h1,q1,q2,q3,q4,H1⟩:=(HP.aV.an (cp.ez 9 1 a' _ c' (x.d.aQ.aL.map sE)) _) R h d H
  exact⟨R1,h1,q1,q2,q3,q4,a',c',e,H1⟩
 refine cn.ak (λ_ _ h=>h) ?_
 rintro v R h ⟨a3,c3',rfl,H⟩
 refine⟨a3,x.d.aQ.aL.length,c3',tY a3 x.d.aQ.aL.length x.d.aQ.aL,rfl,?_,H⟩
 clear H
 let x3:xT:={x2 a2 QK with na:=a3,nc:=c3'}
 refine(PL.stK (K:=xU) (one:=r8) s1 (S4 a2 QK) (y:=x3) (off:=16) (vs:=[.slice a3 x.d.aQ.aL.length c3']) rfl s2 (by simp) (λu hu=>by rw[List.mem_singleton.1 hu];rfl) (show 16+1<=17 by decide) rfl (S:=tY a3 x.d.aQ.aL.length x.d.aQ.aL) λR h z H=>by
  have h1:=YT (S4 a2 QK) R _ (HP.aj H) z
  have h2:=HP.ai H
  exact⟨h1.1,h1.2.1,h2⟩).ak (λ_ _ h=>h) ?_
 rintro v R h ⟨rfl,H⟩
 refine⟨PL gz a r.fi.length c (((es.set k x1).set k (x2 a2 QK)).set k x3),rfl,⟨aK _ (by omega) (by omega),λ_=>⟨⟨k+1,_,by omega,by omega,rfl,?_⟩,by dsimp only;omega⟩⟩,HP.aj H⟩
 rw[List.set_set,List.set_set,Ho hx (show x3.d=x.d from rfl),he]
end
end
namespace RX
-- eC/world.New:ρ:=[.i cv,.i aif,.i afA,.i adS]
def NX:T:=
(.call 15 [0,1] [] [.i,.a,.n,.n,.p,.i] (.au [.agg [4,.s 5],9]) [(5,8)]
(.new
(.br (.not (.eq 9 (.i 0)))
(.ret (.au [.a .fZ,9]) [])
(.call 16 [] [] [.v,.p] (.val 11) [(11,12)]
(.call 17 [] [] [.v,.p] (.val 13) [(13,14)]
(.new
(.loop [.v,.p,.i,.i,.a,.n,.n,.p,.a,.n,.n,.p] [.v .fZ,.p [],.z (.i 0),.z (.i 0),.a .nil,.e (.cQ (.n 0) (.n 0)),.e (.cQ (.n 0) (.n 0)),.p [],.a .nil,.e (.cQ (.n 0) (.n 0)),.e (.cQ (.n 0) (.n 0)),.p []]
(.br (.lt 19 0)
(.call 18 [3] [] [.v,.p,.i] (.au [.val 28,30]) [(28,29)]
(.br (.not (.eq 30 (.i 0)))
(.ret (.au [.a .fZ,30]) [])
(.call 19 [.val 28] [(28,29)] [.v,.p,.i,.p] (.au [.val 31,33]) [(31,32),(28,34)]
(.br (.not (.eq 33 (.i 0)))
(.ret (.au [.a .fZ,33]) [])
(.join [.a,.n,.n,.a,.n,.n,.p,.p]
  (.all
(.new
  (.all
(.op (.call ⟨.builtin .append,#[.tmp 55,.tmp 57],#[68,68]⟩) 68 [(55,.s 20),(57,.sl (.b 35 0) (.n 1) (.n 1))] [(20,23),(.b 35,.cells [.val 28] 74),(28,34)] [.a,.n,.n,.p] (.s 36) [(36,39)]
(.new
(.op (.call ⟨.builtin .append,#[.tmp 62,.tmp 64],#[69,69]⟩) 69 [(62,.s 24),(64,.sl (.b 40 0) (.n 1) (.n 1))] [(24,27),(.b 40,.cells [.val 31] 39),(31,32)] [.a,.n,.n,.p] (.s 41) [(41,44)]
(.again 0 [.a 36,.e (.cQ 37 (.n 0)),.e (.cQ 38 (.n 0)),.a 41,.e (.cQ 42 (.n 0)),.e (.cQ 43 (.n 0)),.p [(41,44)],.p [(36,39)]]))))
(.new
(.op (.call ⟨.builtin .append,#[.tmp 55,.tmp 57],#[68,68]⟩) 68 [(55,.s 20),(57,.sl (.b 35 0) (.n 1) (.n 1))] [(20,23),(.b 35,.cells [.val 28] 74),(28,34)] [.a,.n,.n,.p] (.s 37) [(37,40)]
(.op (.call ⟨.builtin .append,#[.tmp 62,.tmp 64],#[69,69]⟩) 69 [(62,.s 24),(64,.sl (.b 36 0) (.n 1) (.n 1))] [(24,27),(.b 36,.cells [.val 31] 39),(31,32)] [.a,.n,.n,.p] (.s 41) [(41,44)]
(.again 0 [.a 37,.e (.cQ 38 (.n 0)),.e (.cQ 39 (.n 0)),.a 41,.e (.cQ 42 (.n 0)),.e (.cQ 43 (.n 0)),.p [(41,44)],.p [(37,40)]]))))))
(.new
(.new
(.op (.call ⟨.builtin .append,#[.tmp 55,.tmp 57],#[68,68]⟩) 68 [(55,.s 20),(57,.sl (.b 36 0) (.n 1) (.n 1))] [(20,23),(.b 36,.cells [.val 28] 74),(28,34)] [.a,.n,.n,.p] (.s 37) [(37,40)]
(.op (.call ⟨.builtin .append,#[.tmp 62,.tmp 64],#[69,69]⟩) 69 [(62,.s 24),(64,.sl (.b 35 0) (.n 1) (.n 1))] [(24,27),(.b 35,.cells [.val 31] 39),(31,32)] [.a,.n,.n,.p] (.s 41) [(41,44)]
(.again 0 [.a 37,.e (.cQ 38 (.n 0)),.e (.cQ 39 (.n 0)),.a 41,.e (.cQ 42 (.n 0)),.e (.cQ 43 (.n 0)),.p [(41,44)],.p [(37,40)]]))))))
  (.rg (.add 19 (.i 1))
(.again 0 [.v (.val 16),.p [(16,17)],.z 18,.z (.add 19 (.i 1)),.a 35,.e (.cQ 36 (.n 0)),.e (.cQ 37 (.n 0)),.p [(35,42)],.a 38,.e (.cQ 39 (.n 0)),.e (.cQ 40 (.n 0)),.p [(38,41)]])))))))
(.br (.lt 2 (.i 1))
(.ret (.au [.a .fZ,.k 1]) [])
(.br (.lt (.i 8) 2)
(.ret (.au [.a .fZ,.k 1]) [])
(.join [.a,.n,.n,.a,.n,.n,.p,.p]
  (.all
(.op (.makeSlice 71 (.tmp 79) (.tmp 79)) 71 [(79,2),(79,2)] [] [.a,.n,.n,.p] (.s 28) [(28,31)]
       (.all
(.op (.makeSlice 71 (.tmp 81) (.tmp 81)) 71 [(81,2),(81,2)] [] [.a,.n,.n,.p] (.s 32) [(32,35)]
(.again 0 [.a 28,.e (.cQ 29 (.n 0)),.e (.cQ 30 (.n 0)),.a 32,.e (.cQ 33 (.n 0)),.e (.cQ 34 (.n 0)),.p [(32,35)],.p [(28,31)]]))
(.op (.makeSlice 71 (.tmp 81) (.tmp 81)) 71 [(81,2),(81,2)] [] [.a,.n,.n,.p] (.s 32) [(32,35)]
(.again 0 [.a 28,.e (.cQ 29 (.n 0)),.e (.cQ 30 (.n 0)),.a 32,.e (.cQ 33 (.n 0)),.e (.cQ 34 (.n 0)),.p [(32,35)],.p [(28,31)]]))))
(.op (.makeSlice 71 (.tmp 81) (.tmp 81)) 71 [(81,2),(81,2)] [] [.a,.n,.n,.p] (.s 28) [(28,31)]
(.op (.makeSlice 71 (.tmp 79) (.tmp 79)) 71 [(79,2),(79,2)] [] [.a,.n,.n,.p] (.s 32) [(32,35)]
(.again 0 [.a 32,.e (.cQ 33 (.n 0)),.e (.cQ 34 (.n 0)),.a 28,.e (.cQ 29 (.n 0)),.e (.cQ 30 (.n 0)),.p [(28,31)],.p [(32,35)]]))))
(.loop [.i,.a,.n,.n,.p,.p] [.z (.i 0),.a .nil,.e (.cQ (.n 0) (.n 0)),.e (.cQ (.n 0) (.n 0)),.p [],.p [(5,8)]]
(.br (.lt 36 2)
       (.rg (.add (.i 8) 36)
(.call 20 [.a (.int .i64 (.add (.i 8) 36)),.k 0,0,.agg [4,.s 5]] [(5,41)] [.v,.p,.p] (.val 42) [(42,43),(5,44)]
(.new
(.op (.call ⟨.builtin .append,#[.tmp 95,.tmp 101],#[70,70]⟩) 70 [(95,.s 37),(101,.sl (.b 45 0) (.n 1) (.n 1))] [(37,40),(.b 45,.cells [.val 42] 37),(42,43)] [.a,.n,.n,.p] (.s 46) [(46,49)]
       (.rg (.add 36 (.i 1))
(.again 0 [.z (.add 36 (.i 1)),.a 46,.e (.cQ 47 (.n 0)),.e (.cQ 48 (.n 0)),.p [(46,49)],.p [(5,44)]]))))))
(.ret (.au [.ptr 15 0,.k 0]) [(.b 15,.cells [4,.s 5,.s 20,.s 24,.val 11,.s 37,.s 28,.s 31,.val 13,.k 0,.z,.z] 73),(5,41),(20,23),(24,27),(11,12),(37,40),(28,35),(31,34),(13,14)]))))))))))))))
theorem Ln:tree Tryz.prog {fx:=[109,116,113,37,39,74,66,64],hv:=[(0,[.b 15]),(2,[.b 15,.a 5])],bz:=true,cx:=true,cel:=[(0,.b 15,[2,3]),(2,.b 15,[5])],cf:=[109,116,113,37,39,74,66,64],jn:=[((50,35),some {ss:=[.a,.n,.n,.a,.n,.n,.p,.p],n:=43,tv:=[(50,none),(51,none),(52,none),(53,none),(54,none),(55,none),(56,none),(57,none),(58,none),(59,none),(60,none),(61,none),(62,none),(63,none),(64,none),(65,none),(66,none),(67,none),(68,none),(69,none)],h:=[(.b 15,.cells [4,.s 5,.s 35,.s 38,.val 11,.z,.z,.z,.val 13,.k 0,.z,.z] 73),(38,41),(35,42),(13,14),(11,12),(.b 10,.cells [4,.s 5] 29),(5,8),(16,17)],lk:=[]}),((77,28),some {ss:=[.a,.n,.n,.a,.n,.n,.p,.p],n:=36,tv:=[(77,none),(78,none),(79,none),(80,none),(81,none),(82,none),(83,none),(84,none),(85,none),(86,none)],h:=[(.b 15,.cells [4,.s 5,.s 20,.s 24,.val 11,.z,.s 28,.s 31,.val 13,.k 0,.z,.z] 73),(31,34),(28,35),(13,14),(11,12),(.b 10,.cells [4,.s 5] 29),(5,8),(16,17),(20,23),(24,27)],lk:=[]})]} Tryz.f5 [0,1,2,3] [] 4=NX:=by kernel_rfl
end RX
section
open RX
theorem abn:pP s0=s0:=by
 unfold pP s0
 congr 1
 funext k
 split<;>rfl
theorem XX(n:Int)(h:n<1\/65536<n):ax Tryz.prog 18 #[.int .i64 n] HP.tt (λv=>HP.pure (v=.tuple #[.pointer none,.int .i64 2])):=by
 refine ah (ρ:=[.i n]) mixed Tryz.func18 zJ ?_
 unfold JO
 refine cY ?_
 refine⟨λ_=>.of λR h H=>trivial,λh1=>⟨λ_=>.of λR h H=>trivial,λh2=>by omega⟩⟩
def Lo:PK Nat:=⟨74,1,by decide,λx=>[.pointer (some ⟨x,0,none⟩)],λ_=>rfl,λx u hu=>by rw[List.mem_singleton.1 hu];rfl,λ_=>HP.tt⟩
theorem abo{e:TypeId}(h:(Tryz.prog.info? e).map (λi=>(i.zero.map (λz=>z.cells.size),i.size,i.bytes))=some (some 1,1,8)):∃i z,Tryz.prog.info? e=some i/\i.zero=some z/\z.cells.size=i.size/\i.size=1/\i.bytes<=1000:=by
 obtain⟨i,hi,hz⟩:=Option.map_eq_some_iff.1 h
 simp only[Prod.mk.injEq,Option.map_eq_some_iff]at hz
 obtain⟨⟨z,ZX,QT⟩,QV,WP⟩:=hz
 exact⟨i,z,hi,ZX,by rw[QT,QV],QV,by omega⟩
theorem abp:(Tryz.prog.info? 74).map (λi=>(i.zero.map (λz=>z.cells.size),i.size,i.bytes))=some (some 1,1,8):=by kernel_rfl
theorem abq:(Tryz.prog.info? 39).map (λi=>(i.zero.map (λz=>z.cells.size),i.size,i.bytes))=some (some 1,1,8):=by kernel_rfl
theorem abr:(Tryz.prog.info? 37).map (λi=>(i.zero.map (λz=>z.cells.size),i.size,i.bytes))=some (some 1,1,8):=by kernel_rfl
theorem abs:Tryz.prog.underlying 68=some (.slice 74):=by kernel_rfl
def lM(u c n p:Int):Int:=if(bT u c).2≠0 then(bT u c).2 else if p<1\/65536<p then 2 else if n<1\/8<n then 1 else 0
def uT(u c n:Int):gE mD:=⟨(bT u c).1,List.replicate u.toNat (s0,[]),⟨-1,0,λ_=> -1⟩,(List.range n.toNat).map λ(k:Nat)=>uK (8+(k:Int)) 0 u (bT u c).1 uQ,List.replicate n.toNat 0,List.replicate n.toNat 0,[],0,[],[]⟩
theorem aeM{a:Option Addr}{n c:Nat}{l:List Nat}{x y:Nat}(hb:n<=1000):aI Tryz.prog (kj 68 68 (.slice a n c) (.slice (some ⟨x,0,none⟩) 1 1)) (HP.an (PL Lo a n c l) (HP.an (HP.one x (.cells #[.pointer (some ⟨y,0,none⟩)] 74)) HP.tt)) (λv=>HP.ex λa'=>HP.ex λc'=>HP.and (v=.slice a' (n+1) c') (PL Lo a' (n+1) c' (l++[y]))):=by
 obtain⟨i,z,h1,h2,h3,h4,h5⟩:=abo abp
 exact(PL.app (K:=Lo) 68 68 abs h1 h2 h3 h4 h5 a n c l x y HP.tt (by omega)).ak (λR h H=>HP.ae H (λ_ h=>h) λ_ h=>HP.ae h (λ_ h=>h) λ_ _=>HP.az trivial) λv R h ⟨a',c',e,H⟩=>⟨a',c',e,HP.aj H⟩
theorem aeN{room:Int}{a:Option Addr}{n c:Nat}{l:List Q3}{x:Nat}{u:Q3}(hb:n<=1000):aI Tryz.prog (kj 69 69 (.slice a n c) (.slice (some ⟨x,0,none⟩) 1 1)) (HP.an (PL (tB room) a n c l) (HP.an (HP.one x (.cells #[.pointer (some ⟨u.ub,0,none⟩)] 39)) (UD u.ub u.bd room u.s u.ps))) (λv=>HP.ex λa'=>HP.ex λc'=>HP.and (v=.slice a' (n+1) c') (PL (tB room) a' (n+1) c' (l++[u]))):=by
 obtain⟨i,z,h1,h2,h3,h4,h5⟩:=abo abq
 exact(PL.app (K:=tB room) 69 69 Vu h1 h2 h3 h4 h5 a n c l x u HP.tt (by omega)).ak (λR h H=>HP.ae H (λ_ h=>h) λ_ h=>HP.ae h (λ_ h=>h) λ_ h=>HP.az h) λv R h ⟨a',c',e,H⟩=>⟨a',c',e,HP.aj H⟩
theorem aeO{I:tq}{a:Option Addr}{n c:Nat}{l:List (NR I)}{x:Nat}{u:NR I}(hb:n<=1000):aI Tryz.prog (kj 70 70 (.slice a n c) (.slice (some ⟨x,0,none⟩) 1 1)) (HP.an (PL (qE I) a n c l) (HP.an (HP.one x (.cells #[.pointer (some ⟨u.b,0,none⟩)] 37)) (b6 u.b u.g))) (λv=>HP.ex λa'=>HP.ex λc'=>HP.and (v=.slice a' (n+1) c') (PL (qE I) a' (n+1) c' (l++[u]))):=by
 obtain⟨i,z,h1,h2,h3,h4,h5⟩:=abo abr
 exact(PL.app (K:=qE I) 70 70 oU h1 h2 h3 h4 h5 a n c l x u HP.tt (by omega)).ak (λR h H=>HP.ae H (λ_ h=>h) λ_ h=>HP.ae h (λ_ h=>h) λ_ h=>HP.az h) λv R h ⟨a',c',e,H⟩=>⟨a',c',e,HP.aj H⟩
theorem VF{α:Type}(l:List α){R z:PH}:(aX (l.map λ_=>HP.tt)).p R z:=by
 induction l with
 |nil=>trivial
 |cons x l ih=>exact bE.2 (HP.yE (λ_=>trivial) ih)
def Lp(u c n p:Int)(v:Value):HP:=HP.ex λb:Nat=>HP.and (v=.tuple #[.pointer (if lM u c n p=0 then some ⟨b,0,none⟩else none),.int .i64 (lM u c n p)]) (if lM u c n p=0 then cw (I:=lO) p b (uT u c n)else HP.tt)
theorem Lp.bad{u c n p e:Int}(h:lM u c n p=e)(he:e≠0){A:HP}:HP.aV A (Lp u c n p (.tuple #[.pointer none,.int .i64 e])):=.of λR h' _=>⟨0,by rw[h,if_neg he],by rw[h,if_neg he];trivial⟩
set_option maxHeartbeats 8000000 in
theorem NY(u c n p:Int):ax Tryz.prog 5 #[.int .i64 u,.int .i64 c,.int .i64 n,.int .i64 p] HP.tt (Lp u c n p):=by
 refine ah (ρ:=[.i u,.i c,.i n,.i p]) mixed Tryz.func5 Ln ?_
 unfold NX
 refine cg ?_
 simp only[Bf]
 refine(SV u c).ak (λ_ _ h=>h) ?_
 rintro v R h ⟨fa,fc,xI,⟨rfl,CJ,hfx⟩,H⟩
 have hf0:∀ {x:rf×Int},bT u c=x->x.2=0->(1<=u/\u<=7/\1<=c/\c<=u)/\x.1.ch.length<=7:=λ{x} e h0=>by
  subst e
  unfold bT at h0⊢
  split
  ·rename_i hc;exact⟨hc,by show(gJ _ _).length<=7;unfold gJ;rw[List.length_map,List.length_range];omega⟩
  ·rename_i hc;rw[if_neg hc]at h0;cases h0
 refine⟨(bT u c).1.ep,fa,xI.length,fc,Ls fu fa xI.length xI,(bT u c).2,rfl,λ_=>⟨λhe=>Lp.bad (if_pos he) he,λhe=>?_⟩,H⟩
 clear H
 have he:(bT u c).2=0:=by simpa using he
 obtain⟨⟨u1,u2,_,_⟩,Wl⟩:=hf0 rfl he
 have xX:xI.length<=7:=by rw[<-List.length_map (f:=λx:iZ=>x.l),CJ];exact Wl
 refine Vk.ak (λ_ _ h=>h) ?_
 rintro v R h ⟨sq,rfl,H⟩
 refine⟨.pointer (some ⟨sq,0,none⟩),mE sq ⟨-1,0,λ_=> -1⟩,rfl,?_,H⟩
 clear H
 refine Xi.ak (λ_ _ h=>h) ?_
 rintro v R h ⟨nb,rfl,H⟩
 refine⟨.pointer (some ⟨nb,0,none⟩),fY nb [],rfl,λb=>?_,H⟩
 clear H
 refine⟨λ_ _ _ i da dn dc Pd ua un uc Pu=>∃(ds:List Nat) (us:List Q3),i=dn/\dn<=u.toNat/\dn=un/\(∀R h,Pd.p R h->(PL Lo da dn dc ds).p R h)/\(∀R h,Pu.p R h->(PL (tB p) ua dn uc us).p R h)/\us.map (·.bd)=ds/\us.map (λx=>(x.s,x.ps))=List.replicate dn (s0,[])/\(0<dn->1<=p/\p<=65536),λ_ _ _ i _ _ _ _ _ _ _ _=>u.toNat - i.toNat,⟨[],[],rfl,Nat.zero_le _,rfl,λR h _=>PL.nX _ R h,λR h _=>PL.nX _ R h,rfl,rfl,λh=>absurd h (by decide)⟩,?_⟩
 rintro v0 P0 e0 _ da k dc Pd ua _ uc Pu ⟨ds,us,rfl,hk,rfl,hPd,hPu,hds,hus,hpp⟩
 refine⟨λhlt=>?_,λlN=>?_⟩
 ·by_cases hp:1<=p/\p<=65536
  rotate_left
  ·refine(XX p (by omega)).ak (λ_ _ h=>h) ?_
   rintro v R h rfl
   exact⟨.pointer none,HP.tt,2,rfl,⟨λ_=>Lp.bad (by unfold lM;rw[if_neg (by omega),if_pos (by omega)]) (by decide),λh=>by simp at h⟩,trivial⟩
  refine(W8 p hp.1 hp.2).ak (λ_ _ h=>h) ?_
  rintro v R h ⟨bd,rfl,H⟩
  refine⟨.pointer (some ⟨bd,0,none⟩),dh bd p [] 0,0,rfl,⟨λh=>absurd rfl h,λ_=>?_⟩,H⟩
  clear H
  refine(Ug bd p [] 0 s0 rfl).ak (λ_ _ h=>h) ?_
  rintro v R h ⟨ub,rfl,H⟩
  refine⟨.pointer (some ⟨ub,0,none⟩),UD ub bd p s0 [],0,HP.tt,rfl,⟨λh=>absurd rfl h,λ_=>?_⟩,HP.az (by rw[abn]at H;exact H)⟩
  clear H
  let u1:Q3:=⟨ub,bd,s0,[]⟩
  have aD:∀x:Nat,aI Tryz.prog (kj 68 68 (.slice da k dc) (.slice (some ⟨x,0,none⟩) 1 1)) (HP.an Pd (HP.an (HP.one x (.cells #[.pointer (some ⟨bd,0,none⟩)] 74)) HP.tt)) (λv=>HP.ex λa'=>HP.ex λc'=>HP.and (v=.slice a' (k+1) c') (PL Lo a' (k+1) c' (ds++[bd]))):=λx=>(aeM (by omega)).ak (λR h H=>HP.ae H (λy hy=>hPd R y hy) λ_ h=>h) λv R h H=>H
  have aU:∀x:Nat,aI Tryz.prog (kj 69 69 (.slice ua k uc) (.slice (some ⟨x,0,none⟩) 1 1)) (HP.an Pu (HP.an (HP.one x (.cells #[.pointer (some ⟨ub,0,none⟩)] 39)) (UD ub bd p s0 []))) (λv=>HP.ex λa'=>HP.ex λc'=>HP.and (v=.slice a' (k+1) c') (PL (tB p) a' (k+1) c' (us++[u1]))):=λx=>(aeN (u:=u1) (by omega)).ak (λR h H=>HP.ae H (λy hy=>hPu R y hy) λ_ h=>h) λv R h H=>H
  refine⟨λa n' c' a2 n2 c2 P2 P1=>n'=k+1/\n2=k+1/\P1=PL Lo a (k+1) c' (ds++[bd])/\P2=PL (tB p) a2 (k+1) c2 (us++[u1]),?_,?_⟩
  ·refine⟨λx=>⟨?_,λy=>?_⟩,λx y=>?_⟩
   ·refine(aD x).ak (λ_ _ h=>h) ?_
    rintro v R h ⟨a',c',rfl,H⟩
    refine⟨a',k+1,c',_,rfl,λy=>?_,H⟩
    clear H
    refine(aU y).ak (λ_ _ h=>h) ?_
    rintro v R h ⟨a2,c2,rfl,H⟩
    exact⟨a2,k+1,c2,_,rfl,⟨rfl,rfl,rfl,rfl⟩,H⟩
   ·refine(aD x).ak (λ_ _ h=>h) ?_
    rintro v R h ⟨a',c',rfl,H⟩
    refine⟨a',k+1,c',_,rfl,?_,H⟩
    clear H
    refine(aU y).ak (λ_ _ h=>h) ?_
    rintro v R h ⟨a2,c2,rfl,H⟩
    exact⟨a2,k+1,c2,_,rfl,⟨rfl,rfl,rfl,rfl⟩,H⟩
   ·refine(aD y).ak (λ_ _ h=>h) ?_
    rintro v R h ⟨a',c',rfl,H⟩
    refine⟨a',k+1,c',_,rfl,?_,H⟩
    clear H
    refine(aU x).ak (λ_ _ h=>h) ?_
    rintro v R h ⟨a2,c2,rfl,H⟩
    exact⟨a2,k+1,c2,_,rfl,⟨rfl,rfl,rfl,rfl⟩,H⟩
  ·rintro a _ c' a2 _ c2 P2 P1 ⟨rfl,rfl,rfl,rfl⟩
   refine⟨aK _ (by omega) (by omega),λ_=>⟨⟨ds++[bd],us++[u1],by omega,by omega,rfl,λR h H=>H,λR h H=>H,by rw[List.map_append,hds];rfl,by rw[List.map_append,hus,List.replicate_succ'];rfl,λ_=>hp⟩,by dsimp only;omega⟩⟩
 have hku:k=u.toNat:=by omega
 have hp:=hpp (by omega)
 have ne0:lM u c n p=if n<1\/8<n then 1 else 0:=by unfold lM;rw[if_neg (by omega),if_neg (by omega)]
 refine⟨λh1=>Lp.bad (by rw[ne0,if_pos (.inl h1)]) (by decide),λh1=>⟨λh2=>Lp.bad (by rw[ne0,if_pos (.inr h2)]) (by decide),λh2=>?_⟩⟩
 have ne0:lM u c n p=0:=by rw[ne0,if_neg (by omega)]
 obtain⟨N,rfl⟩:∃N:Nat,n=N:=⟨n.toNat,by omega⟩
 obtain⟨ii,ia,ib,ic,id'⟩:=info_parts iG
 have mk:∀A:HP,aI Tryz.prog (mkS 71 (.int .i64 (N:Int)) (.int .i64 (N:Int))) A (λv=>HP.ex λx=>HP.and (v=.slice (some ⟨x,0,none⟩) N N) (HP.an (PL oT (some ⟨x,0,none⟩) N N (List.replicate N 0)) A)):=λA=>
  (St kE ia ib rfl ic N (by rw[id'];omega) (by unfold maxLen;omega) A).ak (λ_ _ h=>h) λv R h ⟨x,e,H⟩=>⟨x,e,HP.ae H (λy hy=>⟨by simp,HP.ao (HP.yE (λz=>VF (List.replicate N (0:Int))) (by rw[Zc,List.map_replicate];exact hy))⟩) λ_ h=>h⟩
 refine⟨λa n' c' a2 n2 c2 P2 P1=>N=n'/\N=n2/\P1=PL oT a N c' (List.replicate N 0)/\P2=PL oT a2 N c2 (List.replicate N 0),⟨?_,?_⟩,?_⟩
 ·refine(mk HP.tt).ak (λ_ _ h=>h) ?_
  rintro v R h ⟨x,rfl,H⟩
  refine⟨_,N,N,_,rfl,⟨?_,?_⟩,HP.aj H⟩
  all_goals
   refine(mk HP.tt).ak (λ_ _ h=>h) ?_
   rintro v R h ⟨x2,rfl,H⟩
   exact⟨_,N,N,_,rfl,⟨rfl,rfl,rfl,rfl⟩,HP.aj H⟩
 ·refine(mk HP.tt).ak (λ_ _ h=>h) ?_
  rintro v R h ⟨x,rfl,H⟩
  refine⟨_,N,N,_,rfl,?_,HP.aj H⟩
  refine(mk HP.tt).ak (λ_ _ h=>h) ?_
  rintro v R h ⟨x2,rfl,H⟩
  exact⟨_,N,N,_,rfl,⟨rfl,rfl,rfl,rfl⟩,HP.aj H⟩
 rintro ba _ bc ga _ gc P2 P1 ⟨rfl,rfl,rfl,rfl⟩
 refine⟨λi ca cn cc Pc P5=>∃cl:List (NR lO),i=cn/\cn<=N/\(∀R h,Pc.p R h->(PL (qE lO) ca cn cc cl).p R h)/\P5=Ls fu fa xI.length xI/\cl.map (·.g)=(List.range cn).map λ(k:Nat)=>uK (8+(k:Int)) 0 u (bT u c).1 uQ,λi _ _ _ _ _=>N - i.toNat,⟨[],rfl,Nat.zero_le _,λR h _=>PL.nX _ R h,rfl,rfl⟩,?_⟩
 rintro _ ca j cc Pc _ ⟨cl,rfl,hj,hPc,rfl,R8⟩
 refine⟨λhlt=>⟨aK _ (by omega) (by omega),λ_=>?_⟩,λlN=>?_⟩
 ·refine(Vg (I:=lO) uQ Qz (8+(j:Int)) 0 u (bT u c).1.ep fa xI.length fc xI (Ls fu fa xI.length xI) (λ_ _ h=>h) (by decide) (by omega) hfx).ak (λ_ _ h=>h) ?_
  rw[CJ]
  rintro v R h ⟨cb,rfl,H⟩
  refine⟨.pointer (some ⟨cb,0,none⟩),b6 (I:=lO) cb (uK (8+(j:Int)) 0 u (bT u c).1 uQ),Ls fu fa xI.length xI,rfl,λy=>?_,H⟩
  clear H
  refine(aeO (I:=lO) (u:=⟨cb,uK (8+(j:Int)) 0 u (bT u c).1 uQ⟩) (by omega)).ak (λR h H=>HP.ae H (λz hz=>hPc R z hz) λ_ h=>h) ?_
  rintro v R h ⟨a3,c3,rfl,H⟩
  exact⟨a3,j+1,c3,_,rfl,⟨aK _ (by omega) (by omega),λ_=>⟨⟨_,by omega,by omega,λ_ _ h=>h,rfl,by rw[List.map_append,R8,List.range_succ,List.map_append];rfl⟩,by dsimp only;omega⟩⟩,H⟩
 ·have ej:j=N:=by omega
  subst ej
  refine .of λR h H=>⟨b,by rw[if_pos ne0,ne0],?_⟩
  rw[if_pos ne0]
  have hul:us.length=k:=by have:=congrArg List.length hus;simpa using this
  have hrl:((List.range j).map λ(k:Nat)=>(uK (8+(k:Int)) 0 u (bT u c).1 uQ:cE mD)).length=j:=by rw[List.length_map,List.length_range]
  have aig:cl.length=j:=(List.length_map ..).symm.trans ((congrArg List.length R8).trans hrl)
  have YJ:∀l:List Q3,(l.map (·.bd)).flatMap Lo.aA=l.map λx=>Value.pointer (some ⟨x.bd,0,none⟩):=λl=>by
   induction l with
   |nil=>rfl
   |cons x l ih=>rw[List.map_cons,List.flatMap_cons,ih,List.map_cons];rfl
  have hwj:uT u c (j:Int)=⟨(bT u c).1,List.replicate u.toNat (s0,[]),⟨-1,0,λ_=> -1⟩,(List.range j).map λ(k:Nat)=>uK (8+(k:Int)) 0 u (bT u c).1 uQ,List.replicate j 0,List.replicate j 0,[],0,[],[]⟩:=by unfold uT;rw[Int.toNat_natCast]
  rw[hwj]
  have hRl:∀x:Int,(List.replicate j x).length=j:=λx=>List.length_replicate
  refine⟨⟨fa,fc,xI,da,dc,ua,uc,us,sq,ca,cc,cl,ba,bc,ga,gc,nb,none,0,[],none,0⟩,⟨CJ,⟨by show xI.length<=1000;omega,hfx⟩,by show us.map _=List.replicate u.toNat _;rw[hus,hku],R8,rfl,⟨by show(List.replicate u.toNat _).length<=7;rw[List.length_replicate];omega,Nat.le_trans (Nat.le_of_eq hrl) (by omega),(hRl 0).trans hrl.symm,(hRl 0).trans hrl.symm⟩,⟨Nat.zero_le _,Nat.zero_le _,λq hq=>by cases hq⟩⟩,?_⟩
  have H1:=HP.pick [_,Ls fu fa xI.length xI,Pd,Pu,_,Pc,_,_,_] [0,2,3,4,5,6,7,8,1] (by decide) rfl H
  unfold WW u7 u9
  dsimp only
  rw[hul,aig,hRl]
  refine HP.ae H1 (λ_ h=>h) λ_ h=>HP.ae h (λy hy=>?_) λ_ h=>HP.ae h (λy hy=>hPu R y hy) λ_ h=>HP.ae h (λ_ h=>h) λ_ h=>HP.ae h (λy hy=>hPc R y hy) λ_ h=>HP.ae h (λ_ h=>h) λ_ h=>HP.ae h (λ_ h=>h) λ_ h=>HP.ae h (λ_ h=>h) λ_ h=>HP.yE (λ_=>PL.nX _ _ _) (HP.yE (λ_=>PL.nX _ _ _) h)
  have h2:=HP.aj (hPd R y hy).2
  rw[<-hds,YJ]at h2
  exact h2
def CE(a:bY):Bool:=decide (0<=a.old.ep)&&(decide (a.old.ep<=2147483647)&&((decide (a.st≠2)||a.prop.isSome)&&match a.prop with|none=>true|some s=>decide (s.val.length<=100000000)))
theorem AJ{a:bY}(h:CE a=true):ny a:=by
 unfold CE at h
 simp only[Bool.and_eq_true,Bool.or_eq_true,decide_eq_true_eq]at h
 obtain⟨h1,h2,h3,h4⟩:=h
 refine⟨h1,h2,λe=>h3.resolve_left (λn=>n e),λs hs=>?_⟩
 rw[hs]at h4
 exact of_decide_eq_true h4
def XY(p:mD)(x:eS):Bool:=decide (p.nx<1000000)&&(decide (x.what≠1)||match tg x.data with
 |none=>true
 |some l=>decide (l.kind=1)&&match lg l.pl with
  |none=>true
  |some q=>decide (q.kind=1))
theorem NZ{p:mD}{x:eS}(h:XY p x=true):aa9 p x:=by
 unfold XY at h
 simp only[Bool.and_eq_true,Bool.or_eq_true,decide_eq_true_eq]at h
 refine⟨h.1,λhw l hl=>?_⟩
 have h2:=h.2.resolve_left (λn=>n hw)
 rw[hl]at h2
 simp only[Bool.and_eq_true,decide_eq_true_eq]at h2
 refine⟨h2.1,λq hq=>?_⟩
 have h3:=h2.2
 rw[hq]at h3
 exact of_decide_eq_true h3
def N0(o:fO):Bool:=decide (o.state≠1)||(decide (0<=o.place)&&decide (o.place<o.us.length))
theorem Hw{o:fO}(h:N0 o=true):K0 o:=by
 unfold N0 at h
 simp only[Bool.and_eq_true,Bool.or_eq_true,decide_eq_true_eq]at h
 exact λhs=>h.resolve_left (λn=>n hs)
def Hx(g:cE mD):Bool:=decide (0<=g.rM/\g.rM<=1000000000000)&&(decide (0<=g.fB/\g.fB<=1000000000)&&decide (0<=g.node/\g.node<=1000000))
theorem xN{g:cE mD}(h:Hx g=true):G4 (I:=lO) g:=by
 unfold Hx at h
 simp only[Bool.and_eq_true,decide_eq_true_eq]at h
 exact⟨h.1,h.2.1,h.2.2⟩
def Lq(g:cE mD):Bool:=match g.gx with
 |some a=>if a.st=5 then decide (g.bo.step≠3)else decide (a.st=6)||CE a
 |none=>if g.bo.step=0 then true else if g.bo.step=1 then Hx g&&(match g.bo.op with|none=>true|some o=>N0 o)
  else if g.bo.step=2 then Hx g&&(match g.bo.op with
   |none=>decide (g.rp.nx≠g.bo.at')||XY g.rp g.bo.cell
   |some o=>N0 o&&((decide (o.state≠2)||(XY g.rp (eP o)&&decide ((eP o).data.length<=1000000)))&&decide (o.state≠4)))
  else false
theorem QL{g:cE mD}(h:Lq g=true):rZ (I:=lO) g:=by
 unfold Lq at h
 unfold rZ
 cases ha:g.gx with
 |some a=>
  rw[ha]at h
  dsimp only at h⊢
  split at h
  ·rename_i h5;exact⟨λn=>absurd h5 n,λ_=>of_decide_eq_true h⟩
  ·rename_i h5
   rw[Bool.or_eq_true,decide_eq_true_eq]at h
   exact⟨λ_ h6=>AJ (h.resolve_left h6),λe=>absurd e h5⟩
 |none=>
  rw[ha]at h
  dsimp only at h⊢
  split
  ·trivial
  rename_i h0
  rw[if_neg h0]at h
  split
  ·rename_i h1
   rw[if_pos h1,Bool.and_eq_true]at h
   refine⟨xN h.1,λo ho=>?_⟩
   have h2:=h.2
   rw[ho]at h2
   exact Hw h2
  rename_i h1
  rw[if_neg h1]at h
  split
  ·rename_i h2
   rw[if_pos h2,Bool.and_eq_true]at h
   have h3:=h.2
   refine⟨xN h.1,λo ho=>?_,λho hn=>?_⟩
   ·rw[ho]at h3
    simp only[Bool.and_eq_true,Bool.or_eq_true,decide_eq_true_eq]at h3
    refine⟨Hw h3.1,λhs=>?_,λhs=>absurd hs h3.2.2⟩
    have h4:=h3.2.1.resolve_left (λn=>n hs)
    exact⟨NZ h4.1,h4.2⟩
   ·rw[ho]at h3
    rw[Bool.or_eq_true,decide_eq_true_eq]at h3
    exact NZ (h3.resolve_left (λn=>n hn))
  ·rename_i h2
   rw[if_neg h2]at h
   cases h
def abu(g:cE mD)(l:List MS):Bool:=(l.all λm=>decide (m.cell.data.length<=1000000/\m.val.length<=1000000))&&decide ((g.bK.length+l.length<=1000000/\g.out.length+l.length<=1000000)/\0<=g.num/\g.num+l.length<=4000000000000000000)
theorem XZ{g:cE mD}{l:List MS}(h:abu g l=true):WOk (I:=lO) g l:=by
 unfold abu at h
 rw[Bool.and_eq_true,decide_eq_true_eq,List.all_eq_true]at h
 exact⟨λm hm=>of_decide_eq_true (p:=m.cell.data.length<=1000000/\m.val.length<=1000000) (h.1 m hm),h.2.1.1,h.2.1.2,h.2.2⟩
def se:Nat->cE mD->Bool
 |0,_=>false
 |n+1,g=>if g.busy=true then Lq g&&(match i9 F1 g with
  |(g',some l)=>abu g' l
  |(g',none)=>se n g')else true
theorem ni:∀ {n:Nat} {g:cE mD},se n g=true->nf (I:=lO) n g
 |0,_,h=>by cases h
 |n+1,g,h=>λhb=>by
  unfold se at h
  rw[if_pos hb,Bool.and_eq_true]at h
  refine⟨QL h.1,λg' l e=>?_,λg' e=>?_⟩
  ·have h2:=h.2
   rw[show i9 F1 g=(g',some l)from e]at h2
   exact XZ h2
  ·have h2:=h.2
   rw[show i9 F1 g=(g',none)from e]at h2
   exact ni h2
def Lr(a:bY):Bool:=CE a&&((decide (a.st≠1)||cH a.old)&&(decide (a.cv<=10000/\a.own.length<=1000000)&&match a.prop with
 |none=>true
 |some s=>decide (s.aQ.length<=99999)&&((s.aQ.all λx=>decide (x.2.val.length<=100000000))&&decide (s.val.length<=100000000/\0<=s.iA/\s.iA<=1000000000))))
theorem QM{a:bY}(h:Lr a=true):Nt a:=by
 unfold Lr at h
 simp only[Bool.and_eq_true,Bool.or_eq_true,decide_eq_true_eq]at h
 obtain⟨h1,h2,h3,h4⟩:=h
 refine⟨AJ h1,λe=>h2.resolve_left (λn=>n e),h3.1,h3.2,λs hs=>?_⟩
 rw[hs]at h4
 simp only[Bool.and_eq_true,decide_eq_true_eq,List.all_eq_true]at h4
 exact⟨⟨by omega,λx hx=>h4.2.1 x hx,h4.2.2.1,h4.2.2.2⟩,h4.1⟩
def Ze(g:cE mD)(m:MS):Option bY:=match g.gx with
 |none=>some (g9 g.bt g.cv 0)
 |some a=>Lc a m
def CF(g:cE mD)(m:MS):Bool:=(match g.gx with
 |some a=>Lr a
 |none=>decide (g.bo.step≠3)&&(if g.bo.step=0 then Hx g else match g.bo.op with
  |some o=>decide (0<=o.place/\o.place<=1000000000)
  |none=>false))&&match Ze g m with
 |none=>false
 |some a'=>se 9 (kB g m a')
theorem Lt{g:cE mD}{m:MS}(h:CF g m=true):K7 (I:=lO) g m:=by
 unfold CF at h
 rw[Bool.and_eq_true]at h
 obtain⟨h1,h2⟩:=h
 have hs:∀a',(∀a,g.gx=some a->mr a m a')->nf (I:=lO) 9 (kB (α:=lO.α) g m a'):=λa' ht=>by
  unfold Ze at h2
  cases ha:g.gx with
  |none=>
   rw[ha]at h2
   rw[AG (I:=lO) (g:=g) ha m a' (g9 g.bt g.cv 0)]
   exact ni h2
  |some a=>
   rw[ha]at h2
   dsimp only at h2
   cases ht2:Lc a m with
   |none=>rw[ht2]at h2;cases h2
   |some a0=>
    rw[ht2]at h2
    rw[NN ht2 (ht a ha)]
    exact ni h2
 cases ha:g.gx with
 |some a=>
  rw[ha]at h1
  exact⟨λa' e=>(by rw[ha]at e;cases e;exact QM h1),λe=>(by rw[ha]at e;cases e),λe=>(by rw[ha]at e;cases e),λe=>(by rw[ha]at e;cases e),hs⟩
 |none=>
  rw[ha]at h1
  dsimp only at h1
  rw[Bool.and_eq_true,decide_eq_true_eq]at h1
  refine⟨λa e=>(by rw[ha]at e;cases e),λ_ h0=>?_,λ_=>h1.1,λ_ h0=>?_,hs⟩
  ·have:=h1.2
   rw[if_pos h0]at this
   exact xN this
  ·have h3:=h1.2
   rw[if_neg h0]at h3
   cases ho:g.bo.op with
   |none=>rw[ho]at h3;cases h3
   |some o=>rw[ho]at h3;exact⟨o,rfl,of_decide_eq_true h3⟩
def abv(w:gE mD)(m:MS):Bool:=decide (m.cell.data.length<=1000000/\m.val.length<=1000000)&&((decide (m.to≠7)||(decide (m.bf=false)&&decide ((m.kind=8\/m.kind=9)/\0<=w.sq.n)))&&(decide (m.to<8)||match w.cls[(m.to - 8).toNat]? with
 |none=>true
 |some g=> !(oP (I:=lO) g m)||CF {g with bK:=pU g.bK m.fr} m))
theorem X0{w:gE mD}{m:MS}(h:abv w m=true):Hq (I:=lO) w m:=by
 unfold abv at h
 simp only[Bool.and_eq_true,Bool.or_eq_true,decide_eq_true_eq]at h
 obtain⟨h1,h2,h3⟩:=h
 refine⟨h1,λe=>?_,λe g hg ht=>?_⟩
 ·have:=h2.resolve_left (λn=>n e)
  exact⟨this.1,this.2⟩
 ·have h4:=h3.resolve_left (λn=>by omega)
  rw[show w.cls[(m.to - 8).toNat]? =some g from hg]at h4
  simp only[Bool.or_eq_true,Bool.not_eq_true']at h4
  exact Lt (h4.resolve_left (λn=>by rw[ht]at n;cases n))
def VG(room:Int):Nat->gE mD->Option (gE mD)
 |0,w=>if w.fK.isEmpty=true then some w else none
 |n+1,w=>if w.fK.isEmpty=true then some w else match w.fK[oy w.fK.length 0]? with
  |none=>none
  |some m=>if(decide (0<=w.ft/\w.ft<=1000000000000)&&abv {w with ft:=w.ft+1,fK:=takeN w.fK 0 false} m)=true then(match qD F1 room {w with ft:=w.ft+1,fK:=takeN w.fK 0 false} m with
   |none=>none
   |some x=>VG room n (Cz x.1 x.2 w.ft))else none
theorem N1{room:Int}:∀ {n:Nat} {w w':gE mD},VG room n w=some w'->uv (I:=lO) room n w w'
 |0,w,w',h=>by
  unfold VG at h
  split at h
  ·rename_i hn;exact⟨List.isEmpty_iff.1 hn,(Option.some.inj h).symm⟩
  ·cases h
 |n+1,w,w',h=>by
  unfold VG at h
  show ite (w.fK=[]) _ _
  by_cases hn:w.fK=[]
  ·rw[if_pos hn]
   rw[if_pos (List.isEmpty_iff.2 hn)]at h
   exact(Option.some.inj h).symm
  ·rw[if_neg hn]
   rw[if_neg (λe=>hn (List.isEmpty_iff.1 e))]at h
   split at h
   ·cases h
   rename_i m hm
   split at h
   ·rename_i hc
    rw[Bool.and_eq_true,decide_eq_true_eq]at hc
    split at h
    ·cases h
    rename_i x hx
    exact⟨m,x.1,x.2,hm,hc.1,X0 hc.2,hx,N1 h⟩
   ·cases h
def Hy:gE mD:=(NO F1 oS 8 xE).1
def aeP(w':gE mD):Bool:=(!(w'.cls.any (·.busy)))&&match w'.cq with
 |[d]=>decide (0<d.ended)&&(decide (d.aQ.bM=0)&&(decide (d.id.2.2=1)&&decide (d.call.data.length<=1000000/\d.aQ.data.length<=1000000/\d.aQ.aL.length<=1000000)))
 |_=>false
theorem X1:(match VG 100 199 Hy with
 |some w'=>aeP w'
 |none=>false)=true:=by kernel_rfl
theorem N2:(se 9 (kA (uK 8 0 1 ⟨0,[[0]]⟩ uQ) (Vf xE))&&(decide ((NO F1 oS 8 xE).2=0)&&(decide (Hy.fK.length=1)&&Hy.cls.any (·.busy))))=true:=by kernel_rfl
theorem X3:uT 1 1 1=oS:=by
 have e:(bT 1 1).1=⟨0,[[0]]⟩:=by kernel_rfl
 unfold uT oS
 rw[e]
 rfl
end
namespace RX
-- eC/VX.aij:ρ:=[]
def xO:T:=
(.call 5 [.k 1,.k 1,.k 1,.k 100] [] [.v,.p,.i] (.au [.val 0,2]) [(0,1)]
(.br (.not (.eq 2 (.i 0)))
(.ret (.bool (.c false)) [])
(.read (.binOp .eql 23 (.tmp 12) (.const (.pointer none)) 23) 4 [(12,.val 0)] [(0,1)] [.c] (.bool 3)
(.br 3
(.ret (.bool (.c false)) [])
(.call 13 [.val 0,.agg [.k 1,.k 8,.k 0,.bool (.c false),.k 1,.str (.s [47,97]),.str (.s []),.k 0,.k 0,.z,.z]] [(0,1)] [.i,.p] 4 [(0,5)]
(.br (.not (.eq 4 (.i 0)))
(.ret (.bool (.c false)) [])
(.call 8 [.val 0] [(0,5)] [.a,.n,.n,.p,.p] (.s 6) [(6,9),(0,10)]
(.br (.not (.eq (.of 7) (.i 1)))
(.ret (.bool (.c false)) [])
(.call 14 [.val 0] [(0,10)] [.c,.p] (.bool 11) [(0,12)]
(.call 9 [.val 0] [(0,12)] [.a,.n,.n,.p,.p] (.s 13) [(13,16),(0,17)]
(.br 11
(.br (.eq (.of 14) (.i 1))
(.need (.lt (.i 0) (.of 14))
(.need (.is 13)
  (.ld 3 41 (.aW 13 (.i 0) 17 10) [(13,16)] [.i] 18
(.br (.lt (.i 0) 18)
       (.ld 24 49 (.aW 13 (.i 0) 17 11) [(13,16)] [.i] 19
(.br (.eq 19 (.i 0))
       (.ld 3 57 (.aW 13 (.i 0) 17 2) [(13,16)] [.i] 20
(.ret (.bool (.eq 20 (.i 1))) []))
(.ret (.bool (.c false)) [])))
(.ret (.bool (.c false)) [])))))
(.ret (.bool (.c false)) []))
(.ret (.bool (.c false)) []))))))))))))
theorem yG:tree Tryz.prog {fx:=[23,37,39],aB:=[7,10,11,12,6],bz:=true,cx:=true,cf:=[23,37,39]} Tryz.f4 [] [] 0=xO:=by kernel_rfl
def xP:T:=
(.call 4 [] [] [.c] (.bool 4) []
(.br (.not 4)
(.ret (.bool (.c false)) [])
(.call 5 [0,1,2,3] [] [.v,.p,.i] (.au [.val 5,7]) [(5,6)]
(.call 6 [0,1] [] [.i,.a,.n,.n,.p,.i] (.au [.agg [8,.s 9],13]) [(9,12)]
(.new
(.br (.eq 13 (.i 0))
(.br (.lt 3 (.i 1))
(.br (.eq 7 (.i 2))
(.read (.binOp .eql 23 (.tmp 55) (.const (.pointer none)) 23) 4 [(55,.val 5)] [(5,6)] [.c] (.bool 15)
(.ret (.bool 15) []))
(.ret (.bool (.c false)) []))
(.br (.lt (.i 65536) 3)
(.br (.eq 7 (.i 2))
(.read (.binOp .eql 23 (.tmp 55) (.const (.pointer none)) 23) 4 [(55,.val 5)] [(5,6)] [.c] (.bool 15)
(.ret (.bool 15) []))
(.ret (.bool (.c false)) []))
(.br (.lt 2 (.i 1))
(.br (.eq 7 (.i 1))
(.read (.binOp .eql 23 (.tmp 55) (.const (.pointer none)) 23) 4 [(55,.val 5)] [(5,6)] [.c] (.bool 15)
(.ret (.bool 15) []))
(.ret (.bool (.c false)) []))
(.br (.lt (.i 8) 2)
(.br (.eq 7 (.i 1))
(.read (.binOp .eql 23 (.tmp 55) (.const (.pointer none)) 23) 4 [(55,.val 5)] [(5,6)] [.c] (.bool 15)
(.ret (.bool 15) []))
(.ret (.bool (.c false)) []))
(.br (.eq 7 (.i 0))
(.read (.binOp .neq 23 (.tmp 61) (.const (.pointer none)) 23) 4 [(61,.val 5)] [(5,6)] [.c] (.bool 15)
(.br 15
(.call 7 [.val 5] [(5,6)] [.i] 16 [(5,6)]
(.br (.eq 16 (.i 0))
(.call 8 [.val 5] [(5,6)] [.a,.n,.n,.p,.p] (.s 17) [(17,20),(5,21)]
(.br (.eq (.of 18) (.i 0))
(.call 9 [.val 5] [(5,21)] [.a,.n,.n,.p,.p] (.s 22) [(22,25),(5,26)]
(.br (.eq (.of 23) (.i 0))
           (.rg (.add (.i 7) 2)
(.call 10 [.val 5,.a (.int .i64 (.add (.i 7) 2))] [(5,26)] [.v,.p] (.val 27) [(27,28),(5,26)]
(.read (.binOp .neq 37 (.tmp 85) (.const (.pointer none)) 37) 4 [(85,.val 27)] [(27,28)] [.c] (.bool 29)
(.br 29
  (.rg (.add (.i 8) 2)
(.call 10 [.val 5,.a (.int .i64 (.add (.i 8) 2))] [(5,26)] [.v,.p] (.val 30) [(30,31),(5,26)]
(.read (.binOp .eql 37 (.tmp 92) (.const (.pointer none)) 37) 4 [(92,.val 30)] [(30,31)] [.c] (.bool 32)
(.br 32
  (.rg (.sub 0 (.i 1))
(.call 11 [.val 5,.a (.int .i64 (.sub 0 (.i 1)))] [(5,26)] [.v,.p] (.val 33) [(33,34),(5,26)]
(.read (.binOp .neq 39 (.tmp 99) (.const (.pointer none)) 39) 4 [(99,.val 33)] [(33,34)] [.c] (.bool 35)
(.br 35
(.call 11 [.val 5,0] [(5,26)] [.v,.p] (.val 36) [(36,37),(5,26)]
(.read (.binOp .eql 39 (.tmp 105) (.const (.pointer none)) 39) 4 [(105,.val 36)] [(36,37)] [.c] (.bool 38)
(.br 38
(.call 12 [.agg [.k 0,.k 0,.k 0,.bool (.c false),.k 0,.k 0,.k 0,.k 0,.z,.k 0,.k 0,.z,.k 0,.k 0,.k 0,.k 0],.agg [.k 0,.k 0,.k 0,.bool (.c false),.k 0,.k 0,.k 0,.k 0,.z,.k 0,.k 0,.z,.k 0,.k 0,.k 0,.k 0]] [] [.c] (.bool 39) []
(.ret (.bool 39) []))
(.ret (.bool (.c false)) []))))
(.ret (.bool (.c false)) [])))))
(.ret (.bool (.c false)) [])))))
(.ret (.bool (.c false)) [])))))
(.ret (.bool (.c false)) [])))
(.ret (.bool (.c false)) [])))
(.ret (.bool (.c false)) [])))
(.ret (.bool (.c false)) [])))
(.ret (.bool (.c false)) []))))))
(.br (.eq 7 13)
(.read (.binOp .eql 23 (.tmp 55) (.const (.pointer none)) 23) 4 [(55,.val 5)] [(5,6)] [.c] (.bool 15)
(.ret (.bool 15) []))
(.ret (.bool (.c false)) []))))))))
theorem yH:tree Tryz.prog {fx:=[23,37,39],aB:=[7,10,11,12,6],bz:=true,cx:=true,cf:=[23,37,39]} Tryz.f3 [0,1,2,3] [] 4=xP:=by kernel_rfl
def Hz:T:=
(.new
(.new
(.br (.lt 0 (.i 1))
(.ret (.au [.agg [.k 0,.z],.k 1]) [])
(.br (.lt (.i 7) 0)
(.ret (.au [.agg [.k 0,.z],.k 1]) [])
(.br (.lt 1 (.i 1))
(.ret (.au [.agg [.k 0,.z],.k 1]) [])
(.br (.lt 0 1)
(.ret (.au [.agg [.k 0,.z],.k 1]) [])
(.loop [.i,.i,.a,.n,.n,.p] [.z (.i 0),.z (.i 0),.a .nil,.e (.cQ (.n 0) (.n 0)),.e (.cQ (.n 0) (.n 0)),.p []]
(.br (.lt 4 1)
(.new
(.loop [.a,.n,.n,.i,.p] [.a (.b 10 0),.e (.cQ (.n 0) (.n 0)),.e (.cQ (.n 0) (.n 0)),.z 4,.p [(.b 10,.cells [] 3)]]
(.br (.lt 14 0)
(.new
(.op (.call ⟨.builtin .append,#[.tmp 40,.tmp 42],#[71,71]⟩) 71 [(40,.s 11),(42,.sl (.b 16 0) (.n 1) (.n 1))] [(11,15),(.b 16,.cells [14] 3)] [.a,.n,.n,.p] (.s 17) [(17,20),(.b 16,.cells [14] 3)]
       (.rg (.add 14 1)
(.again 0 [.a 17,.e (.cQ 18 (.n 0)),.e (.cQ 19 (.n 0)),.z (.add 14 1),.p [(17,20)]]))))
(.new
(.op (.call ⟨.builtin .append,#[.tmp 45,.tmp 47],#[27,27]⟩) 27 [(45,.s 6),(47,.sl (.b 16 0) (.n 1) (.n 1))] [(6,9),(.b 16,.cells [.s 11] 71),(11,15)] [.a,.n,.n,.p] (.s 17) [(17,20),(.b 16,.cells [.s 11] 71),(11,15)]
       (.rg (.add 4 (.i 1))
(.again 1 [.z (.add 4 (.i 1)),.z 5,.a 17,.e (.cQ 18 (.n 0)),.e (.cQ 19 (.n 0)),.p [(17,20)]])))))))
(.ret (.au [.agg [5,.s 6],.k 0]) [(6,9)])))))))))
theorem HE:tree Tryz.prog {hv:=[(0,[.b 3]),(2,[.b 10])],bz:=true,cx:=true} Tryz.f6 [0,1] [] 2=Hz:=by kernel_rfl
def AK:T:=
(.new
(.new
(.br (.not (.eq 0 22))
(.ret (.bool (.c false)) [(8,11),(14,17),(30,33),(36,39)])
(.br (.not (.eq 1 23))
(.ret (.bool (.c false)) [(8,11),(14,17),(30,33),(36,39)])
(.br (.not (.eq 2 24))
(.ret (.bool (.c false)) [(8,11),(14,17),(30,33),(36,39)])
(.br (.not (.o2 .beq 3 25))
(.ret (.bool (.c false)) [(8,11),(14,17),(30,33),(36,39)])
(.br (.not (.eq 4 26))
(.ret (.bool (.c false)) [(8,11),(14,17),(30,33),(36,39)])
(.br (.not (.eq 5 27))
(.ret (.bool (.c false)) [(8,11),(14,17),(30,33),(36,39)])
(.br (.not (.eq 6 28))
(.ret (.bool (.c false)) [(8,11),(14,17),(30,33),(36,39)])
(.call 26 [.agg [7,.s 8],.agg [29,.s 30]] [(8,11),(30,33)] [.c,.p,.p] (.bool 46) [(8,47),(30,48)]
(.br 46
(.read (.binOp .eql 46 (.tmp 59) (.tmp 61) 46) 4 [(59,.agg [12,13]),(61,.agg [34,35])] [] [.c] (.bool 49)
(.br 49
(.call 27 [.s 14,.s 36] [(14,17),(36,39)] [.c,.p,.p] (.bool 50) [(14,51),(36,52)]
(.br 50
(.br (.eq 18 40)
(.br (.eq 19 41)
(.br (.eq 20 42)
(.ret (.bool (.eq 21 43)) [(8,47),(14,51),(30,48),(36,52)])
(.ret (.bool (.c false)) [(8,47),(14,51),(30,48),(36,52)]))
(.ret (.bool (.c false)) [(8,47),(14,51),(30,48),(36,52)]))
(.ret (.bool (.c false)) [(8,47),(14,51),(30,48),(36,52)]))
(.ret (.bool (.c false)) [(8,47),(14,51),(30,48),(36,52)])))
(.ret (.bool (.c false)) [(8,47),(14,17),(30,48),(36,39)])))
(.ret (.bool (.c false)) [(8,47),(14,17),(30,48),(36,39)]))))))))))))
theorem CG:tree Tryz.prog {bz:=true,cx:=true} Tryz.f12 [.agg [0,1,2,.bool 3,4,5,6,7,.s 8,12,13,.s 14,18,19,20,21],.agg [22,23,24,.bool 25,26,27,28,29,.s 30,34,35,.s 36,40,41,42,43]] [(8,11),(14,17),(30,33),(36,39)] 44=AK:=by kernel_rfl
def AM:T:=
(.new
(.new
(.br (.eq 0 5)
(.call 27 [.s 1,.s 6] [(1,4),(6,9)] [.c,.p,.p] (.bool 12) [(1,13),(6,14)]
(.ret (.bool 12) [(1,13),(6,14)]))
(.ret (.bool (.c false)) [(1,4),(6,9)]))))
theorem CH:tree Tryz.prog {} Tryz.f26 [.agg [0,.s 1],.agg [5,.s 6]] [(1,4),(6,9)] 10=AM:=by kernel_rfl
def AN:T:=
(.br (.not (.eq (.of 1) (.of 5)))
(.ret (.bool (.c false)) [(0,3),(4,7)])
(.loop [.c,.i] [.e (.not (.not (.c false))),.z (.i 0)]
(.br (.lt 9 (.of 1))
(.need (.le (.i 0) 9)
(.need (.is 0)
(.need (.lt 9 (.of 5))
(.need (.is 4)
  (.all
   (.ld 5 19 (.aW 0 9 1 0) [(0,3)] [.i] (.w (.a (.int .u8 10)))
   (.ld 5 23 (.aW 4 9 1 0) [(4,7)] [.i] (.w (.a (.int .u8 11)))
(.br (.not (.eq 10 11))
(.ret (.bool (.c false)) [(0,3),(4,7)])
  (.rg (.add 9 (.i 1))
(.again 0 [.e (.not (.not 8)),.z (.add 9 (.i 1))])))))
  (.ld 5 23 (.aW 4 9 1 0) [(4,7)] [.i] (.w (.a (.int .u8 10)))
  (.ld 5 19 (.aW 0 9 1 0) [(0,3)] [.i] (.w (.a (.int .u8 11)))
(.br (.not (.eq 11 10))
(.ret (.bool (.c false)) [(0,3),(4,7)])
  (.rg (.add 9 (.i 1))
(.again 0 [.e (.not (.not 8)),.z (.add 9 (.i 1))]))))))))))
(.ret (.bool (.c true)) [(0,3),(4,7)]))))
theorem CI:tree Tryz.prog {} Tryz.f27 [.s 0,.s 4] [(0,3),(4,7)] 8=AN:=by kernel_rfl
end RX
section
open RX
theorem qH:Tryz.prog.underlying 23=some (.pointer 73):=by kernel_rfl
def aeQ:Q4:=⟨1,8,0,false,xE⟩
theorem QN:Vz (I:=lO) {oS with ft:=1} 8 xE:=by
 have h:=N2
 simp only[Bool.and_eq_true,decide_eq_true_eq]at h
 refine⟨λ_ g hg=>?_,⟨by decide,by decide,by decide⟩,λk hk=>?_,by decide,by decide⟩
 ·have e:g=uK 8 0 1 ⟨0,[[0]]⟩ uQ:=(Option.some.inj (show some (uK 8 0 1 ⟨0,[[0]]⟩ uQ)=some g from hg)).symm
  subst e
  exact⟨⟨by decide,by decide⟩,λ_ _=>ni h.1⟩
 ·rw[List.mem_singleton.1 (show k∈[(0:Int)]from hk)]
  exact⟨by decide,by decide⟩
theorem X4:∃w':gE mD,uv (I:=lO) 100 199 Hy w'/\nE (I:=lO) w'=false/\∃d,w'.cq=[d]/\0<d.ended/\d.aQ.bM=0/\d.id.2.2=1/\d.call.data.length<=1000000/\d.aQ.data.length<=1000000/\d.aQ.aL.length<=1000000:=by
 have h:=X1
 split at h
 ·rename_i w' hr
  unfold aeP at h
  rw[Bool.and_eq_true]at h
  refine⟨w',N1 hr,by have h3:=h.1;rw[Bool.not_eq_true']at h3;exact h3,?_⟩
  have h2:=h.2
  split at h2
  ·rename_i d hd
   simp only[Bool.and_eq_true,decide_eq_true_eq]at h2
   exact⟨d,hd,h2.1,h2.2.1,h2.2.2.1,h2.2.2.2⟩
  ·cases h2
 ·cases h
theorem ne1:lM 1 1 1 100=0:=by kernel_rfl
set_option maxHeartbeats 4000000 in
theorem HF:ax Tryz.prog 4 #[] HP.tt (λv=>HP.pure (v=.bool true)):=by
 refine ah (ρ:=[]) mixed Tryz.func4 yG ?_
 unfold xO
 refine cg ?_
 have ha:=N2
 simp only[Bool.and_eq_true,decide_eq_true_eq]at ha
 obtain⟨w',e7,aeR,d,hd,d1,d2,d3,d4⟩:=X4
 refine(NY 1 1 1 100).ak (λ_ _ h=>h) ?_
 rintro v R h ⟨b,rfl,H⟩
 rw[if_pos ne1,X3]at H
 rw[if_pos ne1,ne1]
 refine⟨.pointer (some ⟨b,0,none⟩),cw (I:=lO) 100 b oS,0,rfl,⟨λh=>absurd rfl h,λ_=>⟨_,jM (by kernel_rfl) qH,λh=>(by cases h),λ_=>?_⟩⟩,H⟩
 clear H
 have hdo:=VC (I:=lO) (b:=b) (w:=oS) (room:=100) aeQ none 0 none 0 0 HP.tt (by decide) (Ht (I:=lO) (w:={oS with ft:=1}) (b:=b) (room:=100) aeQ none 0 none 0 0 HP.tt rfl QN)
 refine hdo.ak (λR h H=>HP.ae (HP.az H) (λ_ h=>h) λz _=>HP.yE (A:=aO none 0 []) (λ_=>bb.nil _ _ _ _) (show HP.tt.p R z from trivial)) ?_
 rintro v R h ⟨rfl,H⟩
 obtain⟨r,hk,H⟩:=HP.aj H
 refine⟨_,WW (I:=lO) 100 b Hy r,rfl,⟨λh=>absurd ha.2.1 h,λ_=>?_⟩,H⟩
 clear H
 refine AH.ak (λ_ _ h=>h) ?_
 rintro v R h ⟨a,c,rfl,H⟩
 refine⟨a,Hy.fK.length,c,HP.tt,WW (I:=lO) 100 b Hy r,rfl,⟨λh=>?_,λ_=>?_⟩,HP.aM H⟩
 ·exact absurd (show((Hy.fK.length:Nat):Int)=1 by rw[ha.2.2.1];rfl) h
 clear H
 refine(Lm (I:=lO) hk 199 (by decide) e7 ha.2.2.2 aeR).ak (λ_ _ h=>h) ?_
 rintro v R h ⟨r2,⟨rfl,VP⟩,H⟩
 refine⟨true,WW (I:=lO) 100 b w' r2,rfl,?_,H⟩
 clear H
 refine(AI (I:=lO) VP (λx hx=>by rw[hd]at hx;rw[List.mem_singleton.1 hx];exact d4)).ak (λ_ _ h=>h) ?_
 rintro v R h ⟨a2,c2,es,⟨rfl,he⟩,H⟩
 have HQ:es.length=1:=by have:=congrArg List.length he;rw[hd]at this;simpa using this
 obtain⟨x,rfl⟩:∃x,es=[x]:=by
  cases es with
  |nil=>cases HQ
  |cons x l=>cases l with
   |nil=>exact⟨x,rfl⟩
   |cons y l=>simp at HQ
 have hxd:x.d=d:=by rw[hd]at he;simpa using he
 have QW:a2.isSome=true:=PL.nG (HP.aj H) (by simp)
 have ld:∀ {t:TypeId} (off:Nat) (v:Int),off<17->(xT.aA x)[off]? =some (.int .i64 v)->Tryz.prog.underlying t=some (.int .i64)->gF Tryz.prog t=false->gr Tryz.prog t=1->aH Tryz.prog (bG t (.pointer (a2.map λy=>(y.add (0*17)).add off))) (PL gz a2 1 c2 [x]) (.int .i64 v):=λ{t} off v ho hv hu hg hz=>
  b7 hu hg hz (PL.rd (K:=gz) a2 1 c2 [x]) (k:=0*17) (off:=off) ((cZ gz.aA 17 (λ_=>rfl) [x] 0 off x rfl ho).trans hv)
 refine⟨a2,1,c2,PL gz a2 1 c2 [x],HP.tt,rfl,⟨λ_=>⟨λ_=>⟨by decide,λ_=>⟨QW,λ_=>⟨x.d.ended,ld 10 _ (by decide) rfl pE A7 L7,λ_=>⟨x.d.aQ.bM,ld 11 _ (by decide) rfl (by kernel_rfl) (by kernel_rfl) (by kernel_rfl),λ_=>⟨x.d.id.2.2,ld 2 _ (by decide) rfl pE A7 L7,.of λR h H=>?_⟩,λh=>absurd (by rw[hxd];exact d2) h⟩,λh=>absurd (by rw[hxd];exact d1) h⟩⟩⟩,λh=>absurd rfl h⟩,λh=>absurd rfl h⟩,HP.ae H (λ_ h=>h) λ_ _=>trivial⟩
 rw[hxd,d3]
 show(Value.bool (decide ((1:Int)=1)))=Value.bool true
 rfl
theorem abw(b:Nat):HP.aV (HP.one b (.cells #[] 3 (0,0))) (o5 (some ⟨b,0,none⟩) 0 0 []):=.of λR h H=>⟨rfl,.inr ⟨b,#[],rfl,H,Nat.le_refl _,Nat.zero_le _,rfl,rfl⟩⟩
set_option maxHeartbeats 1000000 in
theorem QO(u c:Int):ax Tryz.prog 6 #[.int .i64 u,.int .i64 c] HP.tt
 (λv=>HP.ex λe:Int=>HP.ex λa:Option Addr=>HP.ex λn:Nat=>HP.ex λk:Nat=>HP.pure (v=.tuple #[.agg #[.int .i64 e,.slice a n k],.int .i64 (bT u c).2])):=by
 refine ah (ρ:=[.i u,.i c]) mixed Tryz.func6 HE ?_
 unfold Hz
 refine cg ?_
 have bad:∀ {K:HP},¬(1<=u/\u<=7/\1<=c/\c<=u)->HP.aV K (HP.ex λe:Int=>HP.ex λa:Option Addr=>HP.ex λn:Nat=>HP.ex λk:Nat=>HP.pure (Value.tuple #[.agg #[.int .i64 0,.slice none 0 0],.int .i64 1]=.tuple #[.agg #[.int .i64 e,.slice a n k],.int .i64 (bT u c).2])):=λh=>.of λR h' H=>⟨0,none,0,0,by rw[show bT u c=_ from if_neg h];exact rfl⟩
 intro _ _
 refine⟨λh=>bad (by omega),λh1=>⟨λh=>bad (by omega),λh2=>⟨λh=>bad (by omega),λh3=>⟨λh=>bad (by omega),λh4=>?_⟩⟩⟩⟩
 obtain⟨i,hi,z1,z2,z3⟩:=info_parts ql
 refine⟨λi _ a n k P=>∃l:List Value,0<=i/\i<=c/\(n:Int)=i/\HP.aV P (cp 71 1 a n k l),λi _ _ _ _ _=>(c - i).toNat,⟨[],by omega,by omega,by omega,.of λR h _=>cp.nil _ _ R h⟩,?_⟩
 rintro x e a n k P ⟨l,x0,xc,hn,hP⟩
 refine⟨λhlt b=>?_,λlN=>?_⟩
 ·refine⟨λa2 n2 k2 y P2=>∃l2:List Int,0<=y/\(n2:Int)<=y/\y<=14/\HP.aV P2 (o5 a2 n2 k2 l2),λ_ _ _ y _=>(14 - y).toNat,⟨[],by omega,by omega,by omega,abw b⟩,?_⟩
  rintro a2 n2 k2 y P2 ⟨l2,y0,yn,y1,hP2⟩
  refine⟨λhy b2=>?_,λhy b2=>?_⟩
  ·refine(o6 a2 n2 k2 l2 (HP.one b2 (.cells #[.int .i64 y] 3 (0,0))) ⟨b2,0,none⟩ 1 1 [y] (dW b2 #[.int .i64 y] 3) rfl (by omega)).be (K:=HP.tt) ((hP2.an _).trans (.of λR h H=>HP.az H)) λv=>.of λR h H=>?_
   obtain⟨a',c',rfl,H1⟩:=HP.aj H
   exact⟨a',n2+1,c',_,rfl,⟨aK _ (by omega) (by omega),λ_=>⟨⟨l2++[y],by omega,by omega,by omega,.refl _⟩,by dsimp only;omega⟩⟩,H1⟩
  ·refine(fG 27 27 71 i (.slice none 0 0) zl hi z1 (by rw[z2];rfl) (by omega) a n k l (HP.one b2 (.cells #[.slice a2 n2 k2] 71 (0,0))) ⟨b2,0,none⟩ 1 1 [.slice a2 n2 k2] (dW b2 #[.slice a2 n2 k2] 71) (by rw[z2];rfl) (λu hu=>by rw[List.mem_singleton.1 hu];rfl) (by unfold maxLen;omega) (by rw[z3];omega)).be (K:=P2) ((hP.an _).trans (.of λR h H=>by rw[z2];exact HP.ay H)) λv=>.of λR h H=>?_
   rw[z2]at H
   obtain⟨h1,h2,dd,l1,l2',⟨a',c',rfl,H1⟩,H2⟩:=H
   exact⟨a',n+1,c',_,rfl,⟨aK _ (by omega) (by omega),λ_=>⟨⟨_,by omega,by omega,by omega,.refl _⟩,by dsimp only;omega⟩⟩,HP.aq ⟨h1,h2,dd,l1,l2',H1,H2⟩⟩
 ·exact .of λR h H=>⟨e,a,n,k,by rw[show bT u c=_ from if_pos (by omega)];exact rfl⟩
theorem N3:ax Tryz.prog 27 #[.slice none 0 0,.slice none 0 0] (HP.an HP.tt HP.tt) (λv=>HP.and (v=.bool true) (HP.an HP.tt HP.tt)):=by
 refine ah (ρ:=[.a none,.n 0,.n 0,.p HP.tt,.a none,.n 0,.n 0,.p HP.tt]) mixed Tryz.func27 CI ?_
 unfold AN
 refine cg ?_
 refine⟨λh=>absurd trivial h,λ_=>?_⟩
 refine⟨λ_ i=>i=0,λ_ _=>(0:Nat),rfl,?_⟩
 rintro x _ rfl
 exact⟨λh=>absurd h (by decide),λ_=>.of λR h' H=>⟨trivial,H⟩⟩
theorem X5:ax Tryz.prog 26 #[.agg #[.int .i64 0,.slice none 0 0],.agg #[.int .i64 0,.slice none 0 0]] (HP.an HP.tt HP.tt) (λv=>HP.and (v=.bool true) (HP.an HP.tt HP.tt)):=by
 refine ah (ρ:=[.i 0,.a none,.n 0,.n 0,.p HP.tt,.i 0,.a none,.n 0,.n 0,.p HP.tt]) mixed Tryz.func26 CH ?_
 unfold AM
 refine cg ?_
 intro _ _
 refine⟨λ_=>?_,λh=>absurd trivial h⟩
 refine N3.ak (λ_ _ h=>h) ?_
 rintro v R h' ⟨rfl,H⟩
 exact⟨_,_,_,rfl,.of λR h'' H=>⟨rfl,H⟩,H⟩
set_option maxHeartbeats 1000000 in
theorem VH:ax Tryz.prog 12 #[.agg #[.int .i64 0,.int .i64 0,.int .i64 0,.bool false,.int .i64 0,.int .i64 0,.int .i64 0,.int .i64 0,.slice none 0 0,.int .i64 0,.int .i64 0,.slice none 0 0,.int .i64 0,.int .i64 0,.int .i64 0,.int .i64 0],.agg #[.int .i64 0,.int .i64 0,.int .i64 0,.bool false,.int .i64 0,.int .i64 0,.int .i64 0,.int .i64 0,.slice none 0 0,.int .i64 0,.int .i64 0,.slice none 0 0,.int .i64 0,.int .i64 0,.int .i64 0,.int .i64 0]] (HP.an HP.tt (HP.an HP.tt (HP.an HP.tt HP.tt))) (λv=>HP.pure (v=.bool true)):=by
 refine ah (ρ:=[.i 0,.i 0,.i 0,.c false,.i 0,.i 0,.i 0,.i 0,.a none,.n 0,.n 0,.p HP.tt,.i 0,.i 0,.a none,.n 0,.n 0,.p HP.tt,.i 0,.i 0,.i 0,.i 0,.i 0,.i 0,.i 0,.c false,.i 0,.i 0,.i 0,.i 0,.a none,.n 0,.n 0,.p HP.tt,.i 0,.i 0,.a none,.n 0,.n 0,.p HP.tt,.i 0,.i 0,.i 0,.i 0]) mixed Tryz.func12 CG ?_
 unfold AK
 refine cg ?_
 intro _ _
 refine⟨λh=>absurd trivial h,λ_=>⟨λh=>absurd trivial h,λ_=>⟨λh=>absurd trivial h,λ_=>⟨λh=>absurd rfl h,λ_=>⟨λh=>absurd trivial h,λ_=>⟨λh=>absurd trivial h,λ_=>⟨λh=>absurd trivial h,λ_=>?_⟩⟩⟩⟩⟩⟩⟩
 refine X5.ak (λ_ _ h=>h) ?_
 rintro v R h ⟨rfl,H⟩
 refine⟨_,HP.tt,HP.tt,rfl,⟨λ_=>?_,λh=>absurd rfl h⟩,H⟩
 refine⟨_,Wv (by decide),λ_=>?_,λh=>absurd rfl h⟩
 refine N3.ak (λ_ _ h=>h) ?_
 rintro v R h ⟨rfl,H⟩
 refine⟨_,HP.tt,HP.tt,rfl,?_,H⟩
 exact⟨λ_=>⟨λ_=>⟨λ_=>⟨λ_=>.of λR h H=>by rw[decide_eq_true trivial];exact rfl,λh=>absurd trivial h⟩,λh=>absurd trivial h⟩,λh=>absurd trivial h⟩,λh=>absurd rfl h⟩
theorem VI:Tryz.prog.underlying 39=some (.pointer 104):=by kernel_rfl
section
variable {b:Nat}{w:gE mD}{p:Int}
theorem aim:ax Tryz.prog 7 #[.pointer (some ⟨b,0,none⟩)] (cw (I:=lO) p b w) (λv=>HP.and (v=.int .i64 w.ft) (cw (I:=lO) p b w)):=
 cw.kx λr hk=>XP.ak (λ_ _ h=>h) λv R h ⟨e,H⟩=>⟨e,r,hk,H⟩
theorem abx:ax Tryz.prog 8 #[.pointer (some ⟨b,0,none⟩)] (cw (I:=lO) p b w) (λv=>HP.ex λa=>HP.ex λc=>HP.and (v=.slice a w.fK.length c) (cw (I:=lO) p b w)):=
 cw.kx λr hk=>AH.ak (λ_ _ h=>h) λv R h ⟨a,c,e,H⟩=>⟨a,c,e,r,hk,H⟩
theorem aby(hd:w.cq=[]):ax Tryz.prog 9 #[.pointer (some ⟨b,0,none⟩)] (cw (I:=lO) p b w) (λv=>HP.ex λa=>HP.ex λc=>HP.and (v=.slice a 0 c) (cw (I:=lO) p b w)):=
 cw.kx λr hk=>(AI hk (λd h=>by rw[hd]at h;cases h)).ak (λ_ _ h=>h) λv R h ⟨a,c,es,⟨e,e2⟩,H⟩=>by
  have e3:es.length=0:=by have:=congrArg List.length e2;rw[List.length_map,hd]at this;exact this
  rw[e3]at e
  exact⟨a,c,e,r,hk,HP.ai H⟩
theorem N4(n:Int):ax Tryz.prog 10 #[.pointer (some ⟨b,0,none⟩),.int .i64 n] (cw (I:=lO) p b w) (λv=>HP.ex λq:Option Addr=>HP.and (v=.pointer q/\(q.isSome=decide (8<=n/\(n - 8).toNat<w.cls.length))) (cw (I:=lO) p b w)):=
 cw.kx λr hk=>by
  have hl:r.cls.length=w.cls.length:=by rw[<-hk.c];exact(List.length_map _).symm
  have:=hk.n.2.1
  refine(qG n (Nat.le_trans (Nat.le_of_eq hl) this)).ak (λ_ _ h=>h) λv R h ⟨e,H⟩=>⟨_,⟨e,?_⟩,r,hk,H⟩
  unfold i6
  rw[Option.isSome_map]
  by_cases h8:n<8
  ·rw[if_pos h8,decide_eq_false (by omega)];rfl
  ·rw[if_neg h8,<-hl]
   by_cases hx:(n - 8).toNat<r.cls.length
   ·rw[List.getElem?_eq_getElem hx,decide_eq_true ⟨by omega,hx⟩];rfl
   ·rw[List.getElem?_eq_none (by omega),decide_eq_false (λh=>hx h.2)];rfl
theorem Zf(n:Int):ax Tryz.prog 11 #[.pointer (some ⟨b,0,none⟩),.int .i64 n] (cw (I:=lO) p b w) (λv=>HP.ex λq:Option Addr=>HP.and (v=.pointer q/\(q.isSome=decide (0<=n/\n.toNat<w.us.length))) (cw (I:=lO) p b w)):=
 cw.kx λr hk=>by
  have hl:r.mB.length=w.us.length:=by rw[<-hk.u];exact(List.length_map _).symm
  have:=hk.n.1
  refine(Hn n (by omega)).ak (λ_ _ h=>h) λv R h ⟨e,H⟩=>⟨_,⟨e,?_⟩,r,hk,H⟩
  unfold oX
  rw[Option.isSome_map]
  by_cases h8:n<0
  ·rw[if_pos h8,decide_eq_false (by omega)];rfl
  ·rw[if_neg h8,<-hl]
   by_cases hx:n.toNat<r.mB.length
   ·rw[List.getElem?_eq_getElem hx,decide_eq_true ⟨by omega,hx⟩];rfl
   ·rw[List.getElem?_eq_none (by omega),decide_eq_false (λh=>hx h.2)];rfl
end
set_option maxHeartbeats 4000000 in
theorem HH(u c n p:Int):ax Tryz.prog 3 #[.int .i64 u,.int .i64 c,.int .i64 n,.int .i64 p] HP.tt (λv=>HP.pure (v=.bool true)):=by
 refine ah (ρ:=[.i u,.i c,.i n,.i p]) mixed Tryz.func3 yH ?_
 unfold xP
 refine cg ?_
 refine HF.ak (λ_ _ h=>h) ?_
 rintro v R h rfl
 refine⟨_,rfl,⟨λh=>absurd rfl h,λ_=>?_⟩,trivial⟩
 refine(NY u c n p).ak (λ_ _ h=>h) ?_
 rintro v R h ⟨b,rfl,H⟩
 refine⟨.pointer (if lM u c n p=0 then some ⟨b,0,none⟩else none),(if lM u c n p=0 then cw (I:=lO) p b (uT u c n)else HP.tt),lM u c n p,rfl,?_,H⟩
 clear H
 refine(QO u c).ak (λ_ _ h=>h) ?_
 rintro v R h ⟨fe,fa,fn,fk,rfl⟩
 refine⟨fe,fa,fn,fk,HP.tt,(bT u c).2,rfl,λ_=>?_,trivial⟩
 by_cases h0:lM u c n p=0
 ·have hf:(bT u c).2=0:=by
   unfold lM at h0
   split at h0
   ·exact h0
   ·rename_i g;exact Decidable.not_not.1 g
  have hpn:¬(p<1\/65536<p)/\¬(n<1\/8<n):=by
   unfold lM at h0
   rw[if_neg (λg=>g hf)]at h0
   split at h0
   ·cases h0
   ·split at h0
    ·cases h0
    ·rename_i g k;exact⟨g,k⟩
  have hu:1<=u/\u<=7:=by
   unfold bT at hf
   split at hf
   ·omega
   ·cases hf
  obtain⟨hp,hn⟩:=hpn
  rw[if_pos h0,if_pos h0,h0]
  refine⟨λ_=>⟨λh=>(by omega),λ_=>⟨λh=>(by omega),λ_=>⟨λh=>(by omega),λ_=>⟨λh=>(by omega),λ_=>⟨λ_=>?_,λh=>absurd rfl h⟩⟩⟩⟩⟩,λh=>absurd hf h⟩
  have lc:(uT u c n).cls.length=n.toNat:=by unfold uT;simp
  have lu:(uT u c n).us.length=u.toNat:=by unfold uT;simp
  refine⟨_,lf (by kernel_rfl) qH,λ_=>?_,λh=>absurd rfl h⟩
  refine aim.ak (λ_ _ h=>h) ?_
  rintro v R h ⟨rfl,H⟩
  refine⟨_,rfl,⟨λ_=>?_,λh=>absurd rfl h⟩,H⟩
  clear H
  refine abx.ak (λ_ _ h=>h) ?_
  rintro v R h ⟨a1,c1,rfl,H⟩
  refine⟨a1,_,c1,HP.tt,cw (I:=lO) p b (uT u c n),rfl,⟨λ_=>?_,λh=>absurd rfl h⟩,HP.ao (HP.az H)⟩
  clear H
  refine(aby rfl).ak (λ_ _ h=>h) ?_
  rintro v R h ⟨a2,c2,rfl,H⟩
  refine⟨a2,_,c2,HP.tt,cw (I:=lO) p b (uT u c n),rfl,⟨λ_=>?_,λh=>absurd rfl h⟩,HP.ao (HP.az H)⟩
  clear H
  refine⟨aK _ (by omega) (by omega),λ_=>?_⟩
  refine(N4 (7+n)).ak (λ_ _ h=>h) ?_
  rintro v R h ⟨q1,⟨rfl,hq1⟩,H⟩
  rw[decide_eq_true (by rw[lc];omega)]at hq1
  refine⟨.pointer q1,HP.tt,rfl,⟨_,lf (by kernel_rfl) xJ,λ_=>?_,λh=>absurd hq1 h⟩,HP.ao (HP.az H)⟩
  clear H
  refine⟨aK _ (by omega) (by omega),λ_=>?_⟩
  refine(N4 (8+n)).ak (λ_ _ h=>h) ?_
  rintro v R h ⟨q2,⟨rfl,hq2⟩,H⟩
  rw[decide_eq_false (by rw[lc];omega)]at hq2
  refine⟨.pointer q2,HP.tt,rfl,⟨_,jM (by kernel_rfl) xJ,λ_=>?_,λh=>absurd (by rw[hq2];rfl) h⟩,HP.ao (HP.az H)⟩
  clear H
  refine⟨aK _ (by omega) (by omega),λ_=>?_⟩
  refine(Zf (u - 1)).ak (λ_ _ h=>h) ?_
  rintro v R h ⟨q3,⟨rfl,hq3⟩,H⟩
  rw[decide_eq_true (by rw[lu];omega)]at hq3
  refine⟨.pointer q3,HP.tt,rfl,⟨_,lf (by kernel_rfl) VI,λ_=>?_,λh=>absurd hq3 h⟩,HP.ao (HP.az H)⟩
  clear H
  refine(Zf u).ak (λ_ _ h=>h) ?_
  rintro v R h ⟨q4,⟨rfl,hq4⟩,H⟩
  rw[decide_eq_false (by rw[lu];omega)]at hq4
  refine⟨.pointer q4,HP.tt,rfl,⟨_,jM (by kernel_rfl) VI,λ_=>?_,λh=>absurd (by rw[hq4];rfl) h⟩,HP.ao (HP.az H)⟩
  clear H
  refine VH.ak (λR h H=>HP.aq (HP.aq (HP.az (HP.az (HP.az H))))) ?_
  rintro v R h rfl
  exact⟨_,rfl,.of λR h H=>rfl,trivial⟩
 ·rw[if_neg h0,if_neg h0]
  have e0:(bT u c).2=0->lM u c n p=if p<1\/65536<p then 2 else if n<1\/8<n then 1 else 0:=λh=>by unfold lM;rw[if_neg (λg=>g h)]
  have e1:(bT u c).2≠0->lM u c n p=(bT u c).2:=λh=>by unfold lM;rw[if_pos h]
  have e2:(bT u c).2=0->(p<1\/65536<p)->lM u c n p=2:=λh g=>by rw[e0 h,if_pos g]
  have e3:(bT u c).2=0->¬(p<1\/65536<p)->(n<1\/8<n)->lM u c n p=1:=λh g k=>by rw[e0 h,if_neg g,if_pos k]
  have e4:(bT u c).2=0->¬(p<1\/65536<p)->¬(n<1\/8<n)->False:=λh g k=>h0 (by rw[e0 h,if_neg g,if_neg k])
  refine⟨λhf=>⟨λhp=>⟨λ_=>⟨_,jM (by kernel_rfl) qH,.of λ_ _ _=>rfl⟩,λh=>absurd (e2 hf (.inl hp)) h⟩,λhp=>⟨λhq=>⟨λ_=>⟨_,jM (by kernel_rfl) qH,.of λ_ _ _=>rfl⟩,λh=>absurd (e2 hf (.inr hq)) h⟩,λhq=>⟨λhn=>⟨λ_=>⟨_,jM (by kernel_rfl) qH,.of λ_ _ _=>rfl⟩,λh=>absurd (e3 hf (by omega) (.inl hn)) h⟩,λhn=>⟨λhm=>⟨λ_=>⟨_,jM (by kernel_rfl) qH,.of λ_ _ _=>rfl⟩,λh=>absurd (e3 hf (by omega) (.inr hm)) h⟩,λhm=>(e4 hf (by omega) (by omega)).elim⟩⟩⟩⟩,λhf=>⟨λ_=>⟨_,jM (by kernel_rfl) qH,.of λ_ _ _=>rfl⟩,λh=>absurd (e1 hf) h⟩⟩
end
section
open Go.ChangeAt Go.ChangeShapes Go.RowKit Go.WideShapes RX
theorem xQ:Tryz.prog.globalNamed "tideline/check.fours" =some 0:=by kernel_rfl
theorem Lu:(Tryz.prog.globals[(0:Nat)]?).map (·.type)=some 296:=by kernel_rfl
theorem X6:Tryz.prog.cellsOf 211=1:=by kernel_rfl
theorem aeS{w:World}{x:String×DataW Unit}{r:List (String×DataW Unit)}{ps:List MemPlace}(h:DataW.LaidVars Tryz.prog w (x::("tideline/check.fours",Rows.laid_tideline_check_fours)::r) ps):GR (tJ w):=by
 obtain⟨_,_,_,_,_,q1,_,_,_,_,h2,_⟩:=h
 obtain⟨g,t,cs,fuel,p,q,hg,ht,hv,htr,_,_⟩:=h2
 rw[xQ]at hg
 cases hg
 rw[Lu]at ht
 cases ht
 unfold World.var? at hv
 rw[xQ]at hv
 simp only[Option.bind_some]at hv
 obtain⟨ty,fr,hh⟩:∃ty fr,w.heap[(0:Nat)]? =some (.cells cs ty fr):=by
  split at hv
  ·rename_i c ty fr e;cases hv;exact⟨ty,fr,e⟩
  ·cases hv
 refine⟨cs,ty,fr,hh,λi v hi=>?_⟩
 obtain⟨xs,m,_,hx,hl,hn,HQ⟩:=DataW.trod_array acV htr
 have ain:i<16:=(List.getElem?_eq_some_iff.1 hi).1
 have hd:xs.map (·.1)=nk.map λn:Nat=>DataW.lit (.int .u32 ((n:Nat):Int)):=by
  have:=congrArg Prod.fst hx
  unfold Rows.laid_tideline_check_fours at this
  injection this with this
  exact this.symm
 have h1:=HQ i ain
 rw[X6,Nat.mul_one]at h1
 have h3:(xs.map (·.1))[i]? =some (DataW.lit (.int .u32 (v:Int))):=by rw[hd,List.getElem?_map,hi];rfl
 rw[List.getElem?_map]at h3
 obtain⟨y,hy,hy2⟩:=Option.map_eq_some_iff.1 h3
 rw[hy]at h1
 obtain⟨z,hz,YA,_⟩:=DataW.trod_int YC h1
 rw[YA]at hy2
 have e:z=(v:Int):=by
  injection hy2 with e
  injection e
 subst e
 have h5:(List.take 1 (cs.toList.drop i))[0]? =some (Value.int .u32 (v:Int)):=by rw[hz];rfl
 rw[List.getElem?_take,if_pos (by decide),List.getElem?_drop,Nat.add_zero]at h5
 simpa using h5
end
section
open Go.ChangeShapes Go.Deep Go.RowKit Go.WideShapes RX
set_option maxRecDepth 100000 in
theorem yI{H:Type}(enc:TypeId×Value->H)(base:Nat)(v0 v1 v2 v3:Value)(w:World)
 (k0:Value.okWide Tryz.prog w .any base 3 v0) (h0:∃d p,DataW.Trod enc Tryz.prog w 0 (λ_=>true) true 3 v0 d p/\Small Tryz.prog 3 d)
 (k1:Value.okWide Tryz.prog w .any base 3 v1) (h1:∃d p,DataW.Trod enc Tryz.prog w 0 (λ_=>true) true 3 v1 d p/\Small Tryz.prog 3 d)
 (k2:Value.okWide Tryz.prog w .any base 3 v2) (h2:∃d p,DataW.Trod enc Tryz.prog w 0 (λ_=>true) true 3 v2 d p/\Small Tryz.prog 3 d)
 (k3:Value.okWide Tryz.prog w .any base 3 v3) (h3:∃d p,DataW.Trod enc Tryz.prog w 0 (λ_=>true) true 3 v3 d p/\Small Tryz.prog 3 d) (hG:GR (tJ w)):
 Calls Tryz.prog 3 #[v0,v1,v2,v3] w λe w'=>e=.returned (.bool true)/\Below w.heap.size w w':=by
 obtain⟨n0,rfl,r0⟩:=o7 k0 h0
 obtain⟨n1,rfl,r1⟩:=o7 k1 h1
 obtain⟨n2,rfl,r2⟩:=o7 k2 h2
 obtain⟨n3,rfl,r3⟩:=o7 k3 h3
 exact ax.run (HH n0 n1 n2 n3) trivial hG
end
end Go.Proofs.YtbkifafpjnjaiaaGreatDoor
namespace Go.Proofs.YtbkifafpjnjaiaaGreatDoor.worldNew
open Go.ChangeShapes Go.WideShapes Go.ChangeAt Go.RowKit
set_option linter.unusedVariables false
theorem own:ownKnob Tryz.prog.godebug=none:=by kernel_rfl
theorem ve:laidOutB Tryz.prog=true:=by kernel_rfl
def uw:List (String×DataW Unit):=[("unicode/utf8.acceptRanges",Rows.laid_unicode_utf8_acceptRanges),("tideline/check.fours",Rows.laid_tideline_check_fours),("unicode/utf8.first",Rows.laid_unicode_utf8_first)]
set_option maxRecDepth 100000 in
theorem VJ(w:World):laidMetH Tryz.prog uw w=laidMet Tryz.prog uw w:=MakeChecks.laidMetH_plain _ _ _ (by kernel_rfl)
set_option maxRecDepth 100000 in
theorem VK(os:Os)(args:Array Value):laidMetH Tryz.prog uw ((World.laidAll Tryz.prog os uw).forCall (λ_ _=>0) ⟨#[],args,[]⟩).memory:=by
 rw[VJ]
 exact laidMet_laidAll _ (by kernel_rfl) (by kernel_rfl)
end Go.Proofs.YtbkifafpjnjaiaaGreatDoor.worldNew
namespace Go.Proofs.YtbkifafpjnjaiaaGreatDoor
set_option maxRecDepth 100000
end Go.Proofs.YtbkifafpjnjaiaaGreatDoor
namespace Go.Proofs.YtbkifafpjnjaiaaGreatDoor.worldNew
open Go.ChangeShapes Go.WideShapes Go.ChangeAt Go.RowKit
set_option linter.unusedVariables false
set_option maxRecDepth 100000 in
theorem lifted(os:Os)(started:os.Started)(H:Type)(enc:TypeId×Value->H):
 ReturnsInHanded {} Tryz.checked os 3 .any (λw args=>(Rows.worldNewSpec.pre enc Tryz.prog Tryz.f3 [] false w args/\laidMetH Tryz.prog uw w)/\sizedMet enc Tryz.prog Tryz.f3 (OpenSpec.ofChange Rows.worldNewSpec) false w args) (Rows.worldNewSpec.post enc Tryz.prog Tryz.f3 false true false false):=by
 refine returnsInHanded_of_change_and (C:=Tryz.checked) (X:=λw _=>laidMetH Tryz.prog uw w) (λ_ _ _ hh h=>h.of_heap hh) own started (by kernel_rfl) Tryz.func3
  (ChangeSpec.witness_shaped (enc:=enc) (C:=Tryz.checked) (os:=os) (X:=λw _=>laidMetH Tryz.prog uw w) false (World.laidAll Tryz.prog os uw) #[.int .i64 0,.int .i64 0,.int .i64 0,.int .i64 0] 8 (World.laidAll_os _ _ _) (World.shaped_of_ZipB (by kernel_rfl) (by kernel_rfl)) (by kernel_rfl) (by kernel_rfl) (by kernel_rfl) (VK os _)) ?_
 intro W base args ds gs aio aeT hW al4 aeU hX _
 have hG:GR (tJ W):=by rw[VJ]at hX;obtain⟨_,hv,_⟩:=hX;exact aeS hv
 have qs:∀(j:Nat) t v,Tryz.f3.params[j]? =some t->args[j]? =some v->Value.okWide Tryz.prog W .any base t v:=aeT
 have hW':=hW
 obtain⟨p,q,hA0,hV,rfl,hfz,po⟩:=hW
 have hA:DataW.TrodAll enc Tryz.prog W 0 (λ_=>true) true Tryz.f3.params.toList args.toList ds p:=hA0
 have hsz:(DataW.weightsEach Tryz.prog (Tryz.f3.params.toList++Rows.worldNewSpec.plain.varTypes Tryz.prog) (ds++gs)).all (· <=reachBytes)=true:=aeU
 clear aeU
 rw[Tryz.params3]at hA qs hsz
 obtain⟨v0,vs0,d0,ds0,p0,q0,Dh,rfl,rfl,h0,r0⟩:=trodAll_cons hA
 obtain⟨v1,vs1,d1,ds1,p1,q1,rfl,rfl,rfl,h1,r1⟩:=trodAll_cons r0
 obtain⟨v2,vs2,d2,ds2,p2,q2,rfl,rfl,rfl,h2,r2⟩:=trodAll_cons r1
 obtain⟨v3,vs3,d3,ds3,p3,q3,rfl,rfl,rfl,h3,r3⟩:=trodAll_cons r2
 obtain⟨rfl,rfl,rfl⟩:=trodAll_nil r3
 obtain rfl:args= #[v0,v1,v2,v3]:=by cases args;simp_all
 obtain⟨rfl,rfl⟩:=trodVars_none hV
 have lt0:∀x∈p0,x.block<W.heap.size:=by obtain⟨m,hm⟩:=h0;exact DataW.trod_lt m _ _ _ hm
 have lt1:∀x∈p1,x.block<W.heap.size:=by obtain⟨m,hm⟩:=h1;exact DataW.trod_lt m _ _ _ hm
 have lt2:∀x∈p2,x.block<W.heap.size:=by obtain⟨m,hm⟩:=h2;exact DataW.trod_lt m _ _ _ hm
 have lt3:∀x∈p3,x.block<W.heap.size:=by obtain⟨m,hm⟩:=h3;exact DataW.trod_lt m _ _ _ hm
 refine(yI enc base v0 v1 v2 v3 W (qs 0 3 v0 rfl rfl) ⟨_,_,h0,Small.arg hsz (j:=0) rfl rfl⟩ (qs 1 3 v1 rfl rfl) ⟨_,_,h1,Small.arg hsz (j:=1) rfl rfl⟩ (qs 2 3 v2 rfl rfl) ⟨_,_,h2,Small.arg hsz (j:=2) rfl rfl⟩ (qs 3 3 v3 rfl rfl) ⟨_,_,h3,Small.arg hsz (j:=3) rfl rfl⟩ hG).mono λe W' ⟨he,dK⟩=>?_
 subst he
 exact⟨_,rfl,_,_,_,[],_,[],hW',trodAll_mk1 (shut_bool Tryz.underlying4 _),(trodAll_cons_mk (Below.trod ve (by kernel_rfl) (of_decide_eq_true (by kernel_rfl)) h0 dK lt0) (trodAll_cons_mk (Below.trod ve (by kernel_rfl) (of_decide_eq_true (by kernel_rfl)) h1 dK lt1) (trodAll_cons_mk (Below.trod ve (by kernel_rfl) (of_decide_eq_true (by kernel_rfl)) h2 dK lt2) (trodAll_cons_mk (Below.trod ve (by kernel_rfl) (of_decide_eq_true (by kernel_rfl)) h3 dK lt3) trodAll_mk0)))),rfl,dK.frame _,λh=>by cases h⟩
end Go.Proofs.YtbkifafpjnjaiaaGreatDoor.worldNew
namespace Go.Proofs.YtbkifafpjnjaiaaGreatDoor
set_option maxRecDepth 100000
end Go.Proofs.YtbkifafpjnjaiaaGreatDoor
namespace Go.Proofs.YtbkifafpjnjaiaaGreatDoor.worldNew
open Go.ChangeShapes Go.WideShapes Go.ChangeAt Go.RowKit
set_option linter.unusedVariables false
theorem hU{a b:Bool}(h1:a=true)(h2:b=true):(a&&b)=true:=by rw[h1,h2];rfl
theorem c0:(λ(P:Program) (f:FuncId) (fn:Func) (s:ChangeSpec) (c:OpenClaim)=>(c.wf (OpenSpec.ofChange s):Bool)) Tryz.pinned.checked.prog 3 Tryz.f3 Rows.worldNewSpec Rows.worldNewRow=true:=by kernel_rfl
theorem c1:(λ(P:Program) (f:FuncId) (fn:Func) (s:ChangeSpec) (c:OpenClaim)=>(laidOutB P:Bool)) Tryz.pinned.checked.prog 3 Tryz.f3 Rows.worldNewSpec Rows.worldNewRow=true:=by kernel_rfl
theorem c2:(λ(P:Program) (f:FuncId) (fn:Func) (s:ChangeSpec) (c:OpenClaim)=>(mapsRowed P:Bool)) Tryz.pinned.checked.prog 3 Tryz.f3 Rows.worldNewSpec Rows.worldNewRow=true:=by kernel_rfl
theorem c3:(λ(P:Program) (f:FuncId) (fn:Func) (s:ChangeSpec) (c:OpenClaim)=>(fn.params.all (P.readableRec ·):Bool)) Tryz.pinned.checked.prog 3 Tryz.f3 Rows.worldNewSpec Rows.worldNewRow=true:=by kernel_rfl
theorem c4:(λ(P:Program) (f:FuncId) (fn:Func) (s:ChangeSpec) (c:OpenClaim)=>(namedTie P c.named s.vars:Bool)) Tryz.pinned.checked.prog 3 Tryz.f3 Rows.worldNewSpec Rows.worldNewRow=true:=by kernel_rfl
theorem c5:(λ(P:Program) (f:FuncId) (fn:Func) (s:ChangeSpec) (c:OpenClaim)=>((c.stops==[]):Bool)) Tryz.pinned.checked.prog 3 Tryz.f3 Rows.worldNewSpec Rows.worldNewRow=true:=by kernel_rfl
theorem c6:(λ(P:Program) (f:FuncId) (fn:Func) (s:ChangeSpec) (c:OpenClaim)=>((P.stops==[]):Bool)) Tryz.pinned.checked.prog 3 Tryz.f3 Rows.worldNewSpec Rows.worldNewRow=true:=by kernel_rfl
theorem c7:(λ(P:Program) (f:FuncId) (fn:Func) (s:ChangeSpec) (c:OpenClaim)=>((c.knobs==[]):Bool)) Tryz.pinned.checked.prog 3 Tryz.f3 Rows.worldNewSpec Rows.worldNewRow=true:=by kernel_rfl
theorem c8:(λ(P:Program) (f:FuncId) (fn:Func) (s:ChangeSpec) (c:OpenClaim)=>((P.stopKnobs==[]):Bool)) Tryz.pinned.checked.prog 3 Tryz.f3 Rows.worldNewSpec Rows.worldNewRow=true:=by kernel_rfl
theorem c9:(λ(P:Program) (f:FuncId) (fn:Func) (s:ChangeSpec) (c:OpenClaim)=>((c.inPlace==P.inPlace f):Bool)) Tryz.pinned.checked.prog 3 Tryz.f3 Rows.worldNewSpec Rows.worldNewRow=true:=by kernel_rfl
theorem c10:(λ(P:Program) (f:FuncId) (fn:Func) (s:ChangeSpec) (c:OpenClaim)=>((c.unfollowed==P.unfollowed f):Bool)) Tryz.pinned.checked.prog 3 Tryz.f3 Rows.worldNewSpec Rows.worldNewRow=true:=by kernel_rfl
theorem c11:(λ(P:Program) (f:FuncId) (fn:Func) (s:ChangeSpec) (c:OpenClaim)=>((c.recurses==P.recurses f):Bool)) Tryz.pinned.checked.prog 3 Tryz.f3 Rows.worldNewSpec Rows.worldNewRow=true:=by kernel_rfl
theorem c12:(λ(P:Program) (f:FuncId) (fn:Func) (s:ChangeSpec) (c:OpenClaim)=>((c.named==P.varsNamed f):Bool)) Tryz.pinned.checked.prog 3 Tryz.f3 Rows.worldNewSpec Rows.worldNewRow=true:=by kernel_rfl
theorem c13:(λ(P:Program) (f:FuncId) (fn:Func) (s:ChangeSpec) (c:OpenClaim)=>((c.maps==(fn.params.toList++s.plain.varTypes P).any (P.mapsRec ·)):Bool)) Tryz.pinned.checked.prog 3 Tryz.f3 Rows.worldNewSpec Rows.worldNewRow=true:=by kernel_rfl
theorem c14:(λ(P:Program) (f:FuncId) (fn:Func) (s:ChangeSpec) (c:OpenClaim)=>((c.ifaces==(fn.params.toList++s.plain.varTypes P).any (P.ifacesRec ·)):Bool)) Tryz.pinned.checked.prog 3 Tryz.f3 Rows.worldNewSpec Rows.worldNewRow=true:=by kernel_rfl
theorem c15:(λ(P:Program) (f:FuncId) (fn:Func) (s:ChangeSpec) (c:OpenClaim)=>((c.mapsOut==P.mapsAmong fn.resultTypes.toList):Bool)) Tryz.pinned.checked.prog 3 Tryz.f3 Rows.worldNewSpec Rows.worldNewRow=true:=by kernel_rfl
theorem c16:(λ(P:Program) (f:FuncId) (fn:Func) (s:ChangeSpec) (c:OpenClaim)=>((c.loops==(fn.params.toList++s.plain.varTypes P).any (P.loopsFrom ·)):Bool)) Tryz.pinned.checked.prog 3 Tryz.f3 Rows.worldNewSpec Rows.worldNewRow=true:=by kernel_rfl
theorem c17:(λ(P:Program) (f:FuncId) (fn:Func) (s:ChangeSpec) (c:OpenClaim)=>((c.wideKeys==(fn.params.toList++s.plain.varTypes P++fn.resultTypes.toList).any (P.wideKeysFrom ·)):Bool)) Tryz.pinned.checked.prog 3 Tryz.f3 Rows.worldNewSpec Rows.worldNewRow=true:=by kernel_rfl
theorem c18:(λ(P:Program) (f:FuncId) (fn:Func) (s:ChangeSpec) (c:OpenClaim)=>(s.vars.all (P.varReadable ·):Bool)) Tryz.pinned.checked.prog 3 Tryz.f3 Rows.worldNewSpec Rows.worldNewRow=true:=by kernel_rfl
theorem c19:(λ(P:Program) (f:FuncId) (fn:Func) (s:ChangeSpec) (c:OpenClaim)=>(fn.resultTypes.all (λt=>P.readableRec t&&decide (t<P.types.size)):Bool)) Tryz.pinned.checked.prog 3 Tryz.f3 Rows.worldNewSpec Rows.worldNewRow=true:=by kernel_rfl
theorem c20:(λ(P:Program) (f:FuncId) (fn:Func) (s:ChangeSpec) (c:OpenClaim)=>((c.ifacesOut==fn.resultTypes.toList.any (P.ifacesRec ·)):Bool)) Tryz.pinned.checked.prog 3 Tryz.f3 Rows.worldNewSpec Rows.worldNewRow=true:=by kernel_rfl
theorem c21:(λ(P:Program) (f:FuncId) (fn:Func) (s:ChangeSpec) (c:OpenClaim)=>((c.loopsOut==fn.resultTypes.toList.any (P.loopsFrom ·)):Bool)) Tryz.pinned.checked.prog 3 Tryz.f3 Rows.worldNewSpec Rows.worldNewRow=true:=by kernel_rfl
theorem c22:(λ(P:Program) (f:FuncId) (fn:Func) (s:ChangeSpec) (c:OpenClaim)=>((c.plainKeys==P.plainKeys):Bool)) Tryz.pinned.checked.prog 3 Tryz.f3 Rows.worldNewSpec Rows.worldNewRow=true:=by kernel_rfl
theorem c23:(λ(P:Program) (f:FuncId) (fn:Func) (s:ChangeSpec) (c:OpenClaim)=>(c.shortTexts.isNone:Bool)) Tryz.pinned.checked.prog 3 Tryz.f3 Rows.worldNewSpec Rows.worldNewRow=true:=by kernel_rfl
theorem c24:(λ(P:Program) (f:FuncId) (fn:Func) (s:ChangeSpec) (c:OpenClaim)=>(P.stopsHeard:Bool)) Tryz.pinned.checked.prog 3 Tryz.f3 Rows.worldNewSpec Rows.worldNewRow=true:=by kernel_rfl
theorem c25:(λ(P:Program) (f:FuncId) (fn:Func) (s:ChangeSpec) (c:OpenClaim)=>(P.mayEnter:Bool)) Tryz.pinned.checked.prog 3 Tryz.f3 Rows.worldNewSpec Rows.worldNewRow=true:=by kernel_rfl
theorem c26:(λ(P:Program) (f:FuncId) (fn:Func) (s:ChangeSpec) (c:OpenClaim)=>((c.lifted==P.liftsFinal):Bool)) Tryz.pinned.checked.prog 3 Tryz.f3 Rows.worldNewSpec Rows.worldNewRow=true:=by kernel_rfl
theorem c27:(λ(P:Program) (f:FuncId) (fn:Func) (s:ChangeSpec) (c:OpenClaim)=>((P.make==some c.make):Bool)) Tryz.pinned.checked.prog 3 Tryz.f3 Rows.worldNewSpec Rows.worldNewRow=true:=by kernel_rfl
theorem c28:(λ(P:Program) (f:FuncId) (fn:Func) (s:ChangeSpec) (c:OpenClaim)=>((c.kinds==(if c.domain.isEmpty then[]else fn.params.toList.map λt=>match P.underlying t with|some (.int k)=>some k|_=>none)):Bool)) Tryz.pinned.checked.prog 3 Tryz.f3 Rows.worldNewSpec Rows.worldNewRow=true:=by kernel_rfl
theorem c29:(λ(P:Program) (f:FuncId) (fn:Func) (s:ChangeSpec) (c:OpenClaim)=>((c.pinned==c.pinnedBy):Bool)) Tryz.pinned.checked.prog 3 Tryz.f3 Rows.worldNewSpec Rows.worldNewRow=true:=by kernel_rfl
theorem c30:(λ(P:Program) (f:FuncId) (fn:Func) (s:ChangeSpec) (c:OpenClaim)=>((c.veiled==(fn.params.toList++s.plain.varTypes P++fn.resultTypes.toList).any (P.veiledRec ·)):Bool)) Tryz.pinned.checked.prog 3 Tryz.f3 Rows.worldNewSpec Rows.worldNewRow=true:=by kernel_rfl
theorem c31:(λ(P:Program) (f:FuncId) (fn:Func) (s:ChangeSpec) (c:OpenClaim)=>(c.veiledFits P fn.params.toList (fn.params.toList++s.plain.varTypes P++fn.resultTypes.toList):Bool)) Tryz.pinned.checked.prog 3 Tryz.f3 Rows.worldNewSpec Rows.worldNewRow=true:=by kernel_rfl
theorem inst:Tryz.f3.isInstance Tryz.pinned.checked.prog Rows.worldNewRow.origin Rows.worldNewRow.targs:=(of_decide_eq_true (by kernel_rfl))
theorem wrap:Tryz.f3.isWrapper Tryz.pinned.checked.prog Rows.worldNewRow.wrapper Rows.worldNewRow.mainSum:=by unfold Func.isWrapper;first|(rw[if_pos (by decide+kernel)];kernel_rfl)|(rw[if_neg (by decide+kernel)];exact⟨rfl,rfl⟩)
theorem nmd:Tryz.pinned.checked.prog.funcNamed Rows.worldNewRow.func=some 3:=by kernel_rfl
end Go.Proofs.YtbkifafpjnjaiaaGreatDoor.worldNew
namespace Go.Proofs.YtbkifafpjnjaiaaGreatDoor
set_option maxRecDepth 100000
end Go.Proofs.YtbkifafpjnjaiaaGreatDoor
namespace Go.Proofs.YtbkifafpjnjaiaaGreatDoor.worldNew
open Go.ChangeShapes Go.WideShapes Go.ChangeAt Go.RowKit
set_option linter.unusedVariables false
set_option maxRecDepth 100000 in
theorem closed:joinedFacts Tryz.pinned.checked.prog 3 Tryz.f3 Rows.worldNewSpec Rows.worldNewRow=true:=(hU (hU (hU (hU (hU (hU (hU (hU (hU (hU (hU (hU (hU (hU (hU (hU (hU (hU (hU (hU (hU (hU (hU (hU (hU (hU (hU (hU (hU (hU (hU c0 c1) c2) c3) c4) c5) c6) c7) c8) c9) c10) c11) c12) c13) c14) c15) c16) c17) c18) c19) c20) c21) c22) c23) c24) c25) c26) c27) c28) c29) c30) c31)
theorem over:Rows.worldNewRow.holds Tryz.pinned (OpenSpec.ofChange Rows.worldNewSpec):=
 OpenClaim.holds_of_wide 3 Tryz.f3 rfl rfl rfl rfl rfl rfl rfl ⟨rfl,rfl,rfl,rfl,rfl⟩ rfl rfl rfl rfl rfl nmd Tryz.func3 closed inst wrap (λos started H enc _=>lifted os started H enc)
end Go.Proofs.YtbkifafpjnjaiaaGreatDoor.worldNew
namespace Go.Proofs.YtbkifafpjnjaiaaGreatDoor
set_option maxRecDepth 100000
end Go.Proofs.YtbkifafpjnjaiaaGreatDoor
