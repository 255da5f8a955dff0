/- Texts of this claim, joined. No condition. -/
import Derived.Test.YtchjlaebbhpioaaGreatDoorCFJ1
import Derived.Test.YtchjlaebbhpioaaGreatDoorCFJ2
import Derived.Test.YtchjlaebbhpioaaGreatDoorCFJ4
import Derived.Test.YtchjlaebbhpioaaGreatDoorCFJ5
import Derived.Test.YtchjlaebbhpioaaGreatDoorCFJ6
import Derived.KernelRfl
import Derived.Laws.StructEq
import Derived.OpenShut
import Derived.ProofKit
import Derived.ShutString
import Derived.ChangeOld
import Derived.Below
import Derived.SizedLaws
import Derived.Lay
import Derived.LaidMore
import Derived.Test.YtchjlaebbhpioaaGreatDoorTie
import Derived.Test.YtchjlaebbhpioaaGreatDoorCards
import Derived.SevenTiedAt
set_option linter.unusedSimpArgs false
set_option linter.unusedVariables false
namespace Go.Proofs.YtchjlaebbhpioaaGreatDoor
open HP (aE aA aj tt aD ai au ae aC ak aW ah Az)
open _root_.Go.Proofs.Tryz (prog)
set_option maxRecDepth 100000
section
open RX
structure nr where
 us:List (gj×List Pg)
 sq:NH
 aQ:rx
def gW(n:Nat):nr:=⟨List.replicate n (s0,[]),⟨-1,0,λ_=> -1⟩,⟨0,fG n 1⟩⟩
def jm(w:nr)(m:MS):Option MS×nr:=
 if m.to=7 then((iU w.sq m).1,{w with sq:=(iU w.sq m).2})
 else match(if m.to<0 then none else w.us[m.to.toNat]?)with
 |none=>(none,w)
 |some u=>(if(bQ 2000 u.1 u.2 m).1=true then some (bQ 2000 u.1 u.2 m).2.1 else none,{w with us:=w.us.set m.to.toNat ((bQ 2000 u.1 u.2 m).2.2.1,(bQ 2000 u.1 u.2 m).2.2.2)})
structure NdW where
 ua:aG
 uc:Nat
 sY:List UnE
 sb:Nat
 pa:aG
 pc:Nat
 iG:List ky
def ndL(w:nr)(r:NdW):List Value:=[.slice r.ua r.sY.length r.uc,pt r.sb,an w.aQ.ep,.slice r.pa r.iG.length r.pc]
def abd(w:nr)(r:NdW):List HP:=[PL (Bv 2000) r.ua r.sY.length r.uc r.sY,pC r.sb w.sq,Ls ip r.pa r.iG.length r.iG]
structure NdK(w:nr)(r:NdW):Prop where
 u:r.sY.map (λu=>(u.s,u.ps))=w.us
 n:r.sY.length<=1000
 p:r.iG.map (·.l)=w.aQ.ch
 pb:r.iG.length<=1000/\∀x∈r.iG,x.l.length<=1000000
abbrev DN(b:Nat)(w:nr)(r:NdW):HP:=PW 36 b (ndL w r).toArray (cw (abd w r))
def vr(b:Nat)(w:nr):HP:=aE λr=>aA (NdK w r) (DN b w r)
theorem vr.qD{f:FuncId}{args:dI}{b:Nat}{w:nr}{S:HP}{B:Value->HP}(t:∀r,NdK w r->az prog f args (aj (DN b w r) S) B):az prog f args (aj (vr b w) S) B:=
 (az.ex (A:=λr=>aA (NdK w r) (aj (DN b w r) S)) λr=>az.pure λh=>t r h).aK (λR h ⟨h1,h2,d,l1,l2,⟨r,e,H⟩,HS⟩=>⟨r,e,h1,h2,d,l1,l2,H,HS⟩) λ_ _ _ h=>h
section
variable {b:Nat}{w:nr}{r:NdW}
theorem aj4:prog.underlying 31=some (.pointer 110):=by kernel_rfl
theorem ac7{ty:TypeId}{cs:dI}{Q:HP}{k:Nat}{a:aG}{n c:Nat}(hk:cs[k]? =some (.slice a n c)):aM prog (bO 30 (.pointer (some ⟨b,k,none⟩))) (PW ty b cs Q) (.slice a n c):=xl aci (by kernel_rfl) (by kernel_rfl) hk
theorem aj5{ty:TypeId}{cs:dI}{Q:HP}{k:Nat}{v:aG}(hk:cs[k]? =some (.pointer v)):aM prog (bO 31 (.pointer (some ⟨b,k,none⟩))) (PW ty b cs Q) (eD (.pointer v)):=xl aj4 (by kernel_rfl) (by kernel_rfl) hk
theorem aj6{k:Nat}{u:UnE}(hk:r.sY[k]? =some u):aM prog (bO 72 (.pointer (r.ua.map λx=>(x.add (k*1)).add 0))) (DN b w r) (eD (pt u.ub)):=by
 refine cU ahI (by kernel_rfl) (by kernel_rfl) (tN (PL.rd (K:=Bv 2000) r.ua r.sY.length r.uc r.sY) λR h H=>PW.part (k:=0) rfl H) (k:=k*1) (off:=0) ?_;exact(gQ (Bv 2000).aJ 1 (λ_=>rfl) r.sY k 0 u hk (by decide)).trans rfl
set_option maxHeartbeats 1000000 in
theorem E1(n:Nat)(h1:1<=n)(hn:n<=7):az prog 6 #[an n] tt (λv=>aE λb=>aA (v=pt b) (vr b (gW n))):=by
 refine ao (ρ:=[.i n]) {fk:=tI,hv:=[(0,[(.b 1),(.b 3)])],aF:=tJ,link:=[(22,0)],K3:=true,dN:=true,dv:=true,ck:=tK} [0] [] 1 ?_;refine XS.wk ?_;rintro v R h ⟨sq,rfl,H⟩;refine⟨pt sq,pC sq ⟨-1,0,λ_=> -1⟩,rfl,λx=>?_,H⟩;clear H
 refine⟨λ_ _ i a len cap P v Q _ _ _ _ Z=>∃(k:Nat) (l:List UnE),i=k/\k<=n/\len=k/\l.map (λu=>(u.s,u.ps))=List.replicate k (s0,[])/\HP.aT P (PL (Bv 2000) a k cap l)/\v=pt sq/\Q=pC sq ⟨-1,0,λ_=> -1⟩,λ_ _ i _ _ _ _ _ _ _ _ _ _ _=>n - i.toNat,
  ⟨0,[],rfl,Nat.zero_le _,rfl,rfl,.of λR h _=>wd _ R h,rfl,rfl⟩,?_⟩
 rintro _ _ i a k cap P _ _ _ _ _ _ Z ⟨_,l,rfl,hk,rfl,hl,hP,rfl,rfl⟩;refine⟨λhlt=>?_,λlH=>?_⟩
 ·refine(Zj 2000 (by decide) (by decide)).wk ?_;rintro v R h ⟨bd,rfl,H⟩;refine⟨pt bd,eE bd 2000 [] 0,0,rfl,⟨λh=>absurd rfl h,λ_=>⟨_,yi (by kernel_rfl) (show prog.underlying 69=some (.pointer 113) by kernel_rfl),λh=>(by cases h),λ_=>?_⟩⟩,H⟩;clear H;refine(Va bd 2000 [] 0 s0 rfl).wk ?_;rintro v R h ⟨ub,rfl,H⟩;rw[ad9]at H;refine⟨pt ub,UD ub bd 2000 s0 [],0,tt,rfl,⟨λh=>absurd rfl h,λ_=>⟨_,yi (by kernel_rfl) ahI,λh=>(by cases h),λ_ y=>?_⟩⟩,aD H⟩;clear H;refine(ahJ (room:=2000) (a:=a) (n:=k) (c:=cap) (l:=l) (x:=y) (u:=⟨ub,bd,s0,[]⟩) (by omega)).bv (K:=tt) ((hP.aj _).trans (.of λR h H=>aD (ae H (λ_ h=>h) λ_ h=>ae h (λ_ h=>h) λ_ h=>ai h))) λv=>.of λR h H=>?_;obtain⟨a',c',rfl,H2⟩:=ai H;exact⟨a',k+1,c',PL (Bv 2000) a' (k+1) c' (l++[⟨ub,bd,s0,[]⟩]),rfl,⟨bh _ (by omega) (by omega),λ_=>⟨⟨k+1,l++[⟨ub,bd,s0,[]⟩],by omega,by omega,rfl,by rw[List.map_append,hl,List.replicate_succ'];rfl,.refl _,rfl,rfl⟩,by dsimp only;omega⟩⟩,H2⟩
 ·obtain rfl:k=n:=by omega
  refine(Vw k 1).wk ?_;rintro v R h ⟨fa,fc,fes,⟨rfl,BH,hfx⟩,H⟩
  have hf:mC (k:Int) 1=(⟨0,fG k 1⟩,0):=by
   unfold mC;rw[aB (by omega)];rfl
  rw[hf]at BH;rw[hf];refine⟨_,fa,_,fc,Ls ip fa fes.length fes,0,rfl,λy=>⟨λh=>absurd rfl h,λ_=>?_⟩,H⟩
  have VD:l.length=k:=by
   have:=congrArg List.length hl;simpa using this
  have Y3:fes.length=1:=by
   have:=congrArg List.length BH;simpa[fG]using this
  refine((HP.aT.refl _).gX (hP.gX (.refl _))).trans (.of λR h H=>⟨x,rfl,⟨a,cap,l,sq,fa,fc,fes⟩,⟨hl,by show l.length<=1000;omega,BH,by show fes.length<=1000;omega,hfx⟩,?_⟩);subst VD;exact H
theorem abe{f:FuncId}{args:dI}{k:Nat}{u:UnE}(hk:r.sY[k]? =some u){S:HP}{γ:Type}{φ:Value->γ->Prop}{s':γ->gj}{mq:γ->List Pg}{Q:γ->HP}(t:az prog f args (aj (UD u.ub u.bd 2000 u.s u.ps) S) (λv=>aE λz=>aA (φ v z) (aj (UD u.ub u.bd 2000 (s' z) (mq z)) (Q z)))):
 az prog f args (aj (DN b w r) S) (λv=>aE λz=>aA (φ v z) (aj (DN b {w with us:=w.us.set k (s' z,mq z)} {r with sY:=r.sY.set k ⟨u.ub,u.bd,s' z,mq z⟩}) (Q z))):=
 (kr (ty:=36) (b:=b) (cs:=(ndL w r).toArray) (L:=abd w r) (k:=0) (X:=PL (Bv 2000) r.ua r.sY.length r.uc r.sY) (X':=λz=>PL (Bv 2000) r.ua r.sY.length r.uc (r.sY.set k ⟨u.ub,u.bd,s' z,mq z⟩)) (K:=S) (P:=Q) (φ:=φ) rfl (PL.bU (K:=Bv 2000) hk (y:=λz=>⟨u.ub,u.bd,s' z,mq z⟩) (λ_=>rfl) t)).wk λv R h ⟨z,e,H⟩=>⟨z,e,ae H (λ_ h=>by
   unfold DN ndL abd;simp only[List.length_set];exact h) λ_ h=>h⟩
theorem NdK.un(hk:NdK w r){k:Nat}{u:UnE}:NdK {w with us:=w.us.set k (u.s,u.ps)} {r with sY:=r.sY.set k u}:=
 ⟨by rw[List.map_set,hk.u],by show(r.sY.set k u).length<=1000;rw[List.length_set];exact hk.n,hk.p,hk.pb⟩
theorem afH{f:FuncId}{args:dI}{S:HP}{φ:Value->Prop}{s':NH}{Q:HP}(t:az prog f args (aj (pC r.sb w.sq) S) (λv=>aA (φ v) (aj (pC r.sb s') Q))):
 az prog f args (aj (DN b w r) S) (λv=>aA (φ v) (aj (DN b {w with sq:=s'} r) Q)):=
 (kr (ty:=36) (b:=b) (cs:=(ndL w r).toArray) (L:=abd w r) (k:=1) (X:=pC r.sb w.sq) (γ:=Unit) (X':=λ_=>pC r.sb s') (K:=S) (P:=λ_=>Q) (φ:=λv _=>φ v) rfl (t.wk λv R h ⟨e,H⟩=>⟨(),e,H⟩)).wk λv R h ⟨_,e,H⟩=>⟨e,H⟩
def afI(ro:Option MS)(kT kU:aG):HP:=aj ((ro.getD gS).cW kT) ((ro.getD gS).cI kU)
theorem aj8{R h:PH}:(afI none none none).p R h:=bN.join (h':=h) (bN.nil _ none R h) (bN.nil _ none R h)
set_option maxHeartbeats 4000000 in
theorem CQ(m:MS)(ca:aG)(cc:Nat)(va:aG)(vc:Nat)(h7:m.to=7->m.bV=false/\(m.kind=8\/m.kind=9)/\0<=w.sq.n):
 az prog 18 #[pt b,.agg (m.ee ca cc va vc).aJ] (aj (vr b w) (aj (m.cW ca) (m.cI va)))
  (λv=>aE λkT=>aE λqU=>aE λkU=>aE λqV=>aA (v=.tuple #[.agg (((jm w m).1.getD gS).ee kT qU kU qV).aJ,.bool (jm w m).1.isSome]) (aj (vr b (jm w m).2) (aj (m.cW ca) (aj (m.cI va) (afI (jm w m).1 kT kU))))):=by
 refine vr.qD λr hk=>?_;refine az.cM (φ:=r.sY.length≠0->r.ua.isSome=true) (λR h H hn=>QO (PW.part (k:=0) rfl (ai H)) hn) λOA=>?_;have hul:r.sY.length=w.us.length:=by rw[<-hk.u,List.length_map]
 have hn:=hk.n;refine ao (ρ:=[en.n b,en.p (DN b w r)]++m.env ca cc va vc) {fk:=tI,aF:=tJ,link:=[(22,0)],K3:=true,dN:=true,dv:=true,ck:=tK,jn:=[((17,26),some {ss:=[.c],n:=27,tv:=[(17,none),(18,none),(19,none),(20,none),(21,none),(22,none),(23,none),(24,none),(25,none),(26,none),(27,none),(28,none),(29,some (.bool 26))],h:=[((.b 25),(.cells [(.k 0),(.k 0),(.k 0),.F,(.k 0),(.k 0),(.k 0),(.k 0),.z,(.k 0),(.k 0),.z,(.k 0),(.k 0),(.k 0),(.k 0)] 64)),((.b 24),(.cells [2,3,4,(.bool 5),6,7,8,9,(.s 10),14,15,(.s 16),20,21,22,23] 64)),(.b 0,1),(10,13),(16,19)],lk:=[]})]} [(.ptr 0 0),(.agg abb)] abc 24 ?_;intro _ _;refine⟨λe7=>⟨pt r.sb,aj5 rfl,?_⟩,λe7=>⟨λx=>x=decide (m.to<0\/(r.sY.length:Int)<=m.to),⟨λh0=>(decide_eq_true (.inl h0)).symm,λh0=>⟨r.ua,r.sY.length,r.uc,ac7 rfl,?_⟩⟩,?_⟩⟩
 ·obtain⟨q1,q2,q3⟩:=h7 e7;have er:jm w m=((iU w.sq m).1,{w with sq:=(iU w.sq m).2}):=aB e7
  have hs:(iU w.sq m).1.isSome=true:=by
   unfold iU;rw[aq (by rw[q1];decide)];rcases q2 with h|h
   ·rw[aq (by omega),aB h];rfl
   ·rw[aB h];rfl
  have hd:((iU w.sq m).1.getD gS).cell.data=[]/\((iU w.sq m).1.getD gS).val=[]:=by
   unfold iU;rw[aq (by rw[q1];decide)];rcases q2 with h|h
   ·rw[aq (by omega),aB h];exact⟨rfl,rfl⟩
   ·rw[aB h];exact⟨rfl,rfl⟩
  rw[er];dsimp only;refine(afH (XT r.sb w.sq m ca cc va vc q1 q2 q3)).wk ?_;rw[hs];obtain⟨o,ho⟩:∃o,o=(iU w.sq m).1:=⟨_,rfl⟩;rw[<-ho]at hd⊢;rintro v R h ⟨rfl,H⟩;have r1:∀y,((o.getD gS).cW none).p R y:=λy=>by unfold MS.cW;rw[hd.1];exact bN.nil _ _ R y
  have r2:∀y,((o.getD gS).cI none).p R y:=λy=>by unfold MS.cI;rw[hd.2];exact bN.nil _ _ R y
  refine⟨(o.getD gS).fr,(o.getD gS).to,(o.getD gS).num,(o.getD gS).bV,(o.getD gS).kind,(o.getD gS).ep,(o.getD gS).at',(o.getD gS).cell.what,none,(o.getD gS).cell.data.length,0,(o.getD gS).cW none,(o.getD gS).br,(o.getD gS).bw,none,(o.getD gS).val.length,0,(o.getD gS).cI none,(o.getD gS).err,(o.getD gS).tail,(o.getD gS).low,(o.getD gS).back,true,DN b {w with sq:=(iU w.sq m).2} r,m.cW ca,m.cI va,rfl,.of λR h H=>⟨none,0,none,0,rfl,?_⟩,bN.join (r1 h) (bN.join (r2 h) H)⟩;exact ae H (λ_ h=>⟨r,⟨hk.u,hk.n,hk.p,hk.pb⟩,h⟩) λ_ h=>h
 ·exact(show decide ((r.sY.length:Int)<=m.to)=decide (m.to<0\/(r.sY.length:Int)<=m.to)from decide_eq_decide.2 ⟨.inr,λh=>h.resolve_left h0⟩)
 rintro _ rfl;refine⟨λhx=>?_,λhx=>⟨r.ua,r.sY.length,r.uc,ac7 rfl,?_⟩⟩
 ·have hx:=of_decide_eq_true hx
  have er:jm w m=(none,w):=by
   unfold jm;rw[aq e7];rcases hx with h|h
   ·rw[aB h]
   ·rw[aq (by omega),List.getElem?_eq_none (by omega)]
  rw[er];exact .of λR h H=>⟨none,0,none,0,rfl,ae H (λ_ h=>⟨r,hk,h⟩) λ_ h=>ae h (λ_ h=>h) λ_ h=>ae (aD h) (λ_ h=>h) λ_ _=>aj8⟩
 have hx:¬(m.to<0\/(r.sY.length:Int)<=m.to):=λh=>hx (decide_eq_true h);have hlt:m.to.toNat<r.sY.length:=by omega
 have hg:r.sY[m.to.toNat]? =some r.sY[m.to.toNat]:=List.getElem?_eq_getElem hlt;generalize r.sY[m.to.toNat]=u at hg;have ew:w.us[m.to.toNat]? =some (u.s,u.ps):=by rw[<-hk.u,List.getElem?_map,hg];rfl
 have er:jm w m=(if(bQ 2000 u.s u.ps m).1=true then some (bQ 2000 u.s u.ps m).2.1 else none,{w with us:=w.us.set m.to.toNat ((bQ 2000 u.s u.ps m).2.2.1,(bQ 2000 u.s u.ps m).2.2.2)}):=by
  unfold jm;rw[aq e7,aq (by omega),ew]
 rw[er];refine⟨by omega,λ_=>⟨by omega,λ_=>⟨OA (by omega),λ_=>⟨pt u.ub,aj6 hg,?_⟩⟩⟩⟩
 have tu:=abe (b:=b) (w:=w) (r:=r) hg (S:=aj (m.cW ca) (m.cI va)) (γ:=aG×Nat×aG×Nat) (s':=λ_=>(bQ 2000 u.s u.ps m).2.2.1) (mq:=λ_=>(bQ 2000 u.s u.ps m).2.2.2) (φ:=λv y=>v=.tuple #[.agg ((bQ 2000 u.s u.ps m).2.1.ee y.1 y.2.1 y.2.2.1 y.2.2.2).aJ,.bool (bQ 2000 u.s u.ps m).1])
  (Q:=λy=>aj (m.cW ca) (aj (m.cI va) (aj ((bQ 2000 u.s u.ps m).2.1.cW y.1) ((bQ 2000 u.s u.ps m).2.1.cI y.2.2.1)))) ((RZ u.ub u.bd 2000 u.s u.ps m ca cc va vc).wk λv R h ⟨a,c,a2,c2,e,H⟩=>⟨(a,c,a2,c2),e,H⟩)
 refine tu.aK (λR h H=>H) ?_;rintro v R h ⟨⟨a1,c1,a2,c2⟩,rfl,H⟩
 have hz:(bQ 2000 u.s u.ps m).1=false->(bQ 2000 u.s u.ps m).2.1=gS:=λh=>by
  unfold bQ at h⊢;split
  ·rfl
  ·rename_i hc;rw[aq hc]at h;cases h
 generalize bQ 2000 u.s u.ps m=q at H hz⊢
 have KS:(if q.1=true then some q.2.1 else none).getD gS=q.2.1/\(if q.1=true then some q.2.1 else none).isSome=q.1:=by
  cases e:q.1 with
  |true=>exact⟨rfl,rfl⟩
  |false=>rw[hz e];exact⟨rfl,rfl⟩
 dsimp only;refine⟨q.2.1.fr,q.2.1.to,q.2.1.num,q.2.1.bV,q.2.1.kind,q.2.1.ep,q.2.1.at',q.2.1.cell.what,a1,q.2.1.cell.data.length,c1,q.2.1.cW a1,q.2.1.br,q.2.1.bw,a2,q.2.1.val.length,c2,q.2.1.cI a2,q.2.1.err,q.2.1.tail,q.2.1.low,q.2.1.back,q.1,DN b {w with us:=w.us.set m.to.toNat (q.2.2.1,q.2.2.2)} {r with sY:=r.sY.set m.to.toNat ⟨u.ub,u.bd,q.2.2.1,q.2.2.2⟩},m.cW ca,m.cI va,rfl,.of λR h H=>⟨a1,c1,a2,c2,?_,?_⟩,?_⟩
 ·rw[KS.1,KS.2]
 ·refine ae H (λ_ h=>⟨_,hk.un (u:=⟨u.ub,u.bd,q.2.2.1,q.2.2.2⟩),h⟩) λ_ h=>ae h (λ_ h=>h) λ_ h=>ae h (λ_ h=>h) λ_ h=>?_;unfold afI;rw[KS.1];exact h
 ·exact HP.pick [DN b {w with us:=w.us.set m.to.toNat (q.2.2.1,q.2.2.2)} {r with sY:=r.sY.set m.to.toNat ⟨u.ub,u.bd,q.2.2.1,q.2.2.2⟩},m.cW ca,m.cI va,q.2.1.cW a1,q.2.1.cI a2] [3,4,0,1,2] (by decide) rfl H
end
section
variable {I:Nn}
structure TkS(g:dX I.α)(m:MS)(g':dX I.α):Prop where
 s:m.cell.data.length<=1000000/\m.val.length<=1000000
 ok:mw g m=true->XG {g with bq:=iw g.bq m.fr} m
 eq:∀a',(mw g m=true->∀a,g.dH=some a->qW a m a')->zD I.F g m a'=g'
def afJ(w:nr)(m:MS):Prop:=m.to=7->m.bV=false/\(m.kind=8\/m.kind=9)/\0<=w.sq.n
inductive xw:nr->dX I.α->List MS->nr->dX I.α->Prop
 |nil {w g}:xw w g [] w g
 |cons {w g m l g' w2 g2}:afJ w m->(match(jm w m).1 with|none=>g'=g|some r=>TkS g r g')->xw (jm w m).2 g' l w2 g2->xw w g (m::l) w2 g2
inductive eO:Nat->nr->dX I.α->nr->dX I.α->Prop
 |done {w g k}:g.out=[]->eO k w g w g
 |step {w g w1 g1 w2 g2 k}:g.out≠[]->xw w (nf g) g.out w1 g1->eO k w1 g1 w2 g2->eO (k+1) w g w2 g2
theorem abf:∃d,prog.underlying 64=some d:=Option.isSome_iff_exists.1 (by kernel_rfl)
theorem ldM{a:aG}{n c:Nat}{es:List p9}{k:Nat}{x:p9}(hk:es[k]? =some x):aM prog (bO 64 (.pointer (a.map λy=>(y.add (k*16)).add 0))) (PL eI a n c es) (.agg x.aJ):=by
 obtain⟨d,hd⟩:=abf;refine pN (vs:=x.aJ.toList) hd (by kernel_rfl) (PL.rd (K:=eI) a n c es) (k:=k*16) (off:=0) (show iA prog 64=16 by kernel_rfl) (show 0<16 by decide) λj v hj=>?_;have hlt:j<16:=(List.getElem?_eq_some_iff.1 hj).1;rw[Nat.add_zero,gQ eI.aJ 16 eI.len es k j x hk hlt];exact hj
theorem ac9{a:aG}{n c:Nat}{es:List p9}{x:p9}(hx:x∈es){R h:PH}(H:(PL eI a n c es).p R h)(z:PH):(x.m.cW x.ca).p R z/\(x.m.cI x.va).p R z:=
 (ah H.2|>λH=>B2 (List.mem_map.2 ⟨x,hx,rfl⟩) H:(eI.bV x).p R _)
variable {bw bc:Nat}
set_option maxHeartbeats 4000000 in
theorem sZ{N:Nat}{w:nr}{g:dX I.α}{w':nr}{g':dX I.α}(hr:eO N w g w' g')(hN:N<5000):
 az prog 9 #[pt bw,pt bc] (aj (vr bw w) (bA bc g)) (λv=>aA (v=.bool true) (aj (vr bw w') (bA bc (nf g')))):=by
 refine ao (ρ:=[.n bw,.p (vr bw w),.n bc,.p (bA bc g)]) {fk:=tI,hv:=[(0,[(.b 2),(.b 0)]),(2,[(.a 8),(.b 2),(.b 0)])],aF:=tJ,link:=[(22,0)],K3:=true,dN:=true,dv:=true,ck:=tK} [(.ptr 0 0),(.ptr 2 0)] [(.b 0,1),(.b 2,3)] 4 ?_;refine⟨λ_ i P Q=>∃(k:Nat) (w1:nr) (g1:dX I.α),i=((N - k:Nat):Int)/\k<=N/\P=vr bw w1/\Q=bA bc g1/\eO k w1 g1 w' g',λ_ i _ _=>5000 - i.toNat,⟨N,w,g,by omega,Nat.le_refl _,rfl,rfl,hr⟩,?_⟩;rintro _ _ _ _ ⟨k,w1,g1,rfl,hk,rfl,rfl,h1⟩;refine⟨λhlt=>?_,λlH=>by omega⟩;refine Kk.wk ?_;rintro v R h ⟨a,c,es,⟨rfl,he⟩,H⟩;refine⟨a,es.length,c,PL eI a es.length c es,bA bc (nf g1),rfl,⟨λh0=>?_,λh0=>?_⟩,H⟩
 ·have e0:g1.out=[]:=by rw[<-he,List.eq_nil_of_length_eq_zero (show es.length=0 by omega)];rfl
  cases h1 with
  |done _=>exact .of λR h H=>⟨trivial,H⟩
  |step h _ _=>exact absurd e0 h
 have hne:g1.out≠[]:=λe=>h0 (by rw[<-List.length_map (f:=λx:p9=>x.m),he,e];rfl)
 have Ts:es.length<=9223372036854775807:=by
  rcases(ai (ai H).2).2 with⟨_,e,_⟩|⟨_,_,_,_,q1,q2,_⟩
  ·omega
  ·unfold maxLen at q2;omega
 have ha:a.isSome=true:=QO (ai H) (by omega);clear H
 obtain⟨k,rfl,w2,g2,hc,xF⟩:∃k',k=k'+1/\∃w2 g2,xw w1 (nf g1) g1.out w2 g2/\eO k' w2 g2 w' g':=by
  cases h1 with
  |done h=>exact absurd h hne
  |step _ h h2=>exact⟨_,rfl,_,_,h,h2⟩
 refine⟨λi P1 P2 P3=>∃(j:Nat) (w3:nr) (g3:dX I.α),i=j/\j<=es.length/\P1=PL eI a es.length c es/\P2=bA bc g3/\P3=vr bw w3/\xw w3 g3 (g1.out.drop j) w2 g2,λi _ _ _=>es.length - i.toNat,⟨0,w1,nf g1,rfl,Nat.zero_le _,rfl,rfl,rfl,hc⟩,?_⟩;rintro _ _ _ _ ⟨j,w3,g3,rfl,hj,rfl,rfl,rfl,hcj⟩;refine⟨λLv=>⟨by omega,λ_=>⟨ha,λ_=>?_⟩⟩,λlH=>⟨bh _ (by omega) (by omega),λ_=>⟨⟨k,w2,g2,by omega,by omega,?_,?_,xF⟩,by dsimp only;omega⟩⟩⟩;rotate_left
 ·have:g1.out.drop j=[]:=List.drop_eq_nil_of_le (by rw[<-he,List.length_map];omega);rw[this]at hcj;cases hcj;rfl
 ·have:g1.out.drop j=[]:=List.drop_eq_nil_of_le (by rw[<-he,List.length_map];omega);rw[this]at hcj;cases hcj;rfl
 have L4:j<es.length:=by omega
 obtain⟨x,hx⟩:∃x,es[j]? =some x:=⟨_,List.getElem?_eq_getElem L4⟩
 have hxo:g1.out.drop j=x.m::g1.out.drop (j+1):=by
  have hm:g1.out[j]? =some x.m:=by rw[<-he,List.getElem?_map,hx];rfl
  obtain⟨hq,e⟩:=List.getElem?_eq_some_iff.1 hm;rw[List.drop_eq_getElem_cons hq,e]
 rw[hxo]at hcj;cases hcj with
 |@cons _ _ _ _ g4 _ _ Lr hmt iY=>
 refine⟨_,_,_,_,_,_,_,_,_,_,_,_,_,_,_,_,_,_,_,_,ldM hx,λblk=>?_⟩;have hst:∀(P2 P3:HP),P2=bA bc g4->P3=vr bw (jm w3 x.m).2->(∃(j':Nat) (w3:nr) (g3:dX I.α),((j:Int)+1)=j'/\j'<=es.length/\PL eI a es.length c es=PL eI a es.length c es/\P2=bA bc g3/\P3=vr bw w3/\xw w3 g3 (g1.out.drop j') w2 g2):=λP2 P3 e2 e3=>⟨j+1,(jm w3 x.m).2,g4,by omega,by omega,rfl,e2,e3,iY⟩;refine((CQ (b:=bw) (w:=w3) x.m x.ca x.cc x.va x.vc Lr).frame (PL eI a es.length c es)).aK (λR h H=>?_) ?_
 ·obtain⟨d1,d2⟩:=ac9 (List.mem_of_getElem? hx) (ah H) h;have H1:=HP.pick [x.m.cW x.ca,x.m.cI x.va,vr bw w3,PL eI a es.length c es] [2,0,1,3] (by decide) rfl (bN.join d1 (bN.join d2 H));exact aC (ae H1 (λ_ h=>h) λ_ h=>aC h)
 rintro v R h ⟨mK,Zo,d,l1,l2,⟨kT,qU,kU,qV,rfl,H⟩,HK⟩;have H:=au (A:=vr bw (jm w3 x.m).2) ⟨mK,Zo,d,l1,l2,H,HK⟩;generalize (jm w3 x.m).1=o at H hmt⊢;refine⟨(o.getD gS).fr,(o.getD gS).to,(o.getD gS).num,(o.getD gS).bV,(o.getD gS).kind,(o.getD gS).ep,(o.getD gS).at',(o.getD gS).cell.what,kT,(o.getD gS).cell.data.length,qU,(o.getD gS).cW kT,(o.getD gS).br,(o.getD gS).bw,kU,(o.getD gS).val.length,qV,(o.getD gS).cI kU,(o.getD gS).err,(o.getD gS).tail,(o.getD gS).low,(o.getD gS).back,o.isSome,vr bw (jm w3 x.m).2,PL eI a es.length c es,rfl,λata=>⟨λho=>?_,λho=>?_⟩,?_⟩;rotate_left 2
 ·have H1:=ae H (λ_ h=>h) λ_ h=>ae (au (ae h (λ_ h=>ah (ah h)) λ_ h=>h)) (λ_ h=>h) λ_ h=>h;exact HP.pick [vr bw (jm w3 x.m).2,(o.getD gS).cW kT,(o.getD gS).cI kU,PL eI a es.length c es] [1,2,0,3] (by decide) rfl H1
 ·obtain⟨r,rfl⟩:=Option.isSome_iff_exists.1 ho;refine(EW r kT qU kU qV hmt.s hmt.ok).aK (λR h H=>H) ?_;rintro v R h ⟨a',⟨rfl,Fw⟩,H⟩;rw[hmt.eq a' Fw]at H;exact⟨bA bc g4,tt,tt,rfl,⟨bh _ (by omega) (by omega),λ_=>⟨hst _ _ rfl rfl,by dsimp only;omega⟩⟩,ae (aD H) (λ_ h=>h) λ_ h=>aD h⟩
 ·cases o with
  |none=>exact⟨bh _ (by omega) (by omega),λ_=>⟨hst _ _ (by rw[hmt]) rfl,by dsimp only;omega⟩⟩
  |some r=>exact absurd rfl ho
end
section
variable {g g' g1:eA}{n:Nat}{l:List MS}{m:MS}
def gf(n:Nat)(g g':eA):Prop:=pz n g/\kq FQ n g=g'
theorem CR{g:eA}(h:g.dH=none)(m:MS)(a' a0:cg):fx g m a'=fx g m a0:=by
 unfold fx;rw[h]
theorem E2{g:eA}{a:cg}(h:g.dH=some a){m:MS}{a':cg}:fx g m a'={g with dH:=some a'}:=by
 unfold fx;rw[h]
theorem gf.stop(h:g.busy=false):gf (n+1) g g:=⟨λhb=>absurd hb (by rw[h];decide),ET (I:=iN) h⟩
theorem gf.YS(h:g.busy=true)(hp:io g)(e:fb FQ g=(g1,some l))(hw:WOk g1 l):gf (n+1) g (lC g1 l):=
 ⟨λ_=>⟨hp,λ_ _ e'=>(by rw[show fb FQ g=_ from e']at e;cases e;exact hw),λ_ e'=>(by rw[show fb FQ g=_ from e']at e;cases e)⟩,vm (I:=iN) h e⟩
theorem gf.go(h:g.busy=true)(hp:io g)(e:fb FQ g=(g1,none))(k:gf n g1 g'):gf (n+1) g g':=
 ⟨λ_=>⟨hp,λ_ _ e'=>(by rw[show fb FQ g=_ from e']at e;cases e),λ_ e'=>(by rw[show fb FQ g=_ from e']at e;cases e;exact k.1)⟩,(CJ (I:=iN) h e).trans k.2⟩
theorem XW(hs:m.cell.data.length<=1000000/\m.val.length<=1000000)(ha:g.dH=none)(hA:zX g)(hk:mw g m=true)(ho:g.aZ.step≠0->g.aZ.step≠3->∃o,g.aZ.op=some o/\0<=o.place/\o.place<=1000000000)
 (h:gf 9 (fx {g with bq:=iw g.bq m.fr} m vf) g'):TkS g m g' where
 s:=hs
 ok _:=⟨λa e=>(by rw[show g.dH=_ from e]at ha;cases ha),λ_ _=>⟨hA.a,hA.b,hA.n⟩,λ_ _=>⟨hA.a,hA.b,hA.n⟩,λ_=>ho,λa' _=>by
  rw[CR (g:={g with bq:=iw g.bq m.fr}) ha m a' vf];exact h.1⟩
 eq a' _:=by
  rw[yM (I:=iN) hk,CR (g:={g with bq:=iw g.bq m.fr}) ha m a' vf];exact h.2
theorem XX(hs:m.cell.data.length<=1000000/\m.val.length<=1000000){a a':cg}(ha:g.dH=some a)(hk:mw g m=true)(hT:mO a)(ht:xv a m=some a')(h:gf 9 {g with bq:=iw g.bq m.fr,dH:=some a'} g'):TkS g m g' where
 s:=hs
 ok _:=⟨λb e=>(by rw[show g.dH=_ from e]at ha;cases ha;exact hT),λe=>(by rw[show g.dH=none from e]at ha;cases ha),λe=>(by rw[show g.dH=none from e]at ha;cases ha),λe=>(by rw[show g.dH=none from e]at ha;cases ha),λb hb=>by
  have e:=PQ ht (hb a ha);subst e;rw[E2 (g:={g with bq:=iw g.bq m.fr}) ha];exact h.1⟩
 eq b hb:=by
  have e:=PQ ht (hb hk a ha);subst e;rw[yM (I:=iN) hk,E2 (g:={g with bq:=iw g.bq m.fr}) ha];exact h.2
theorem abg(hs:m.cell.data.length<=1000000/\m.val.length<=1000000)(hk:mw g m=false):TkS g m g where
 s:=hs
 ok h:=by rw[hk]at h;cases h
 eq a' _:=Kq (I:=iN) hk a'
def xx(nd:Int):Int->List MS->List MS
 |_,[]=>[]
 |k,m::l=>{m with fr:=nd,num:=k+1}::xx nd (k+1) l
theorem S0{h:eA}{asks:List MS}(hd:(asks.map (·.to)).Nodup)(hn:∀m∈asks,Cs h.bq m.to=false):
 asks.foldl uv h={h with num:=h.num+asks.length,bq:=h.bq++(xx h.node h.num asks).map (λm=>(m.to,m)),out:=h.out++xx h.node h.num asks}:=by
 induction asks generalizing h with
 |nil=>simp[xx]
 |cons m l ih=>
  have e:uv h m={h with num:=h.num+1,bq:=h.bq++[(m.to,{m with fr:=h.node,num:=h.num+1})],out:=h.out++[{m with fr:=h.node,num:=h.num+1}]}:=aq (by rw[hn m (by simp)];decide);rw[List.map_cons,List.nodup_cons]at hd;rw[List.foldl_cons,e,ih hd.2 λx hx=>?_]
  ·simp[xx,Int.add_assoc,Int.add_comm 1]
  ·have h1:=hn x (by simp[hx]);have h2:m.to≠x.to:=λq=>hd.1 (by rw[q];exact List.mem_map.2 ⟨x,hx,rfl⟩);unfold Cs at h1⊢;rw[List.any_append,h1];simp[h2]
theorem KB{asks:List MS}(hp:∀y∈g.bq,(asks.any λx=>lB x y.2)=false)(hd:(asks.map (·.to)).Nodup):
 lC g asks={g with num:=g.num+asks.length,bq:=(xx g.node g.num asks).map (λm=>(m.to,m)),out:=g.out++xx g.node g.num asks}:=by
 unfold lC;have e:(g.bq.filter λy=>asks.any λx=>lB x y.2)=[]:=List.filter_eq_nil_iff.2 λy hy=>by rw[hp y hy];decide
 rw[e,S0 hd λm _=>rfl];rfl
theorem S3{asks:List MS}(h1:∀y∈g.bq,(asks.any λx=>lB x y.2)=true)(h2:∀m∈asks,Cs g.bq m.to=true):lC g asks=g:=by
 unfold lC;rw[List.filter_eq_self.2 h1];clear h1
 induction asks with
 |nil=>rfl
 |cons m l ih=>
  rw[List.foldl_cons,show uv g m=g from aB (h2 m (by simp))];exact ih λx hx=>h2 x (by simp[hx])
end
section
variable {w w1 w2:nr}{g g1 g2:eA}{k:Nat}
theorem PR{m r:MS}(ho:g.out=[m])(ha:afJ w m)(hr:jm w m=(some r,w1))(ht:TkS (I:=iN) (nf g) r g1)(hn:eO (I:=iN) k w1 g1 w2 g2):eO (I:=iN) (k+1) w g w2 g2:=
 .step (by rw[ho];simp) (by rw[ho];exact .cons ha (by rw[hr];exact ht) (by rw[hr];exact .nil)) hn
theorem eO.le{k':Nat}(h:eO (I:=iN) k w g w1 g1)(hk:k<=k'):eO (I:=iN) k' w g w1 g1:=by
 induction h generalizing k' with
 |done h=>exact .done h
 |step h hc _ ih=>
  obtain⟨j,rfl⟩:∃j,k'=j+1:=⟨k' - 1,by omega⟩;exact .step h hc (ih (by omega))
theorem KC{P Q:gj×List Pg->Prop}{ms:Nat->MS}{G:Nat->eA}{n:Nat}(hm:∀j,j<n->(ms j).to=j)
 (step:∀j,j<n->∀u,P u->∃r u' mq,bQ 2000 u.1 u.2 (ms j)=(true,r,u',mq)/\Q (u',mq)/\TkS (I:=iN) (G j) r (G (j+1))) (hn:n<=7):
 ∀j w,j<=n->w.us.length=n->(∀i u,w.us[i]? =some u->if i<j then Q u else P u)->∃w',xw (I:=iN) w (G j) (((List.range n).drop j).map ms) w' (G n)/\w'.us.length=n/\(∀u∈w'.us,Q u)/\w'.sq=w.sq/\w'.aQ=w.aQ:=by
 intro j;generalize hd:n - j=d
 induction d generalizing j with
 |zero=>
  intro w hj hl hu;obtain rfl:j=n:=by omega
  refine⟨w,?_,hl,λu hu'=>?_,rfl,rfl⟩
  ·rw[List.drop_eq_nil_of_le (by simp)];exact .nil
  ·obtain⟨i,hi,e⟩:=List.mem_iff_getElem.1 hu';have:=hu i u (by rw[List.getElem?_eq_getElem hi,e])
   rwa [aB (by omega)]at this
 |succ d ih=>
  intro w hj hl hu;have Af:j<n:=by omega
  have hg:w.us[j]? =some w.us[j]:=List.getElem?_eq_getElem (by omega);have hP:=hu j _ hg;rw[aq (by omega)]at hP;obtain⟨r,u',mq,I7,hQ,ht⟩:=step j Af _ hP;generalize w.us[j]=u at hg I7
  have QC:jm w (ms j)=(some r,{w with us:=w.us.set j (u',mq)}):=by
   unfold jm;rw[hm j Af,aq (by omega),aq (by omega),Int.toNat_natCast,hg];dsimp only;rw[I7];rfl
  obtain⟨w',c1,c2,c3,c4,c5⟩:=ih (j+1) (by omega) {w with us:=w.us.set j (u',mq)} (by omega) (by rw[List.length_set];exact hl) λi x hx=>by
   dsimp only at hx;rw[List.getElem?_set]at hx
   by_cases e:j=i
   ·subst e;rw[aB rfl,aB (by omega)]at hx;cases hx;rw[aB (by omega)];exact hQ
   ·rw[aq e]at hx;have:=hu i x hx
    by_cases h:i<j
    ·rw[aB h]at this;rw[aB (by omega)];exact this
    ·rw[aq h]at this;rw[aq (by omega)];exact this
  refine⟨w',?_,c2,c3,c4,c5⟩
  have e:(List.range n).drop j=j::(List.range n).drop (j+1):=by
   rw[List.drop_eq_getElem_cons (by simpa using Af)];simp
  rw[e,List.map_cons];exact .cons (λh7=>by rw[hm j Af]at h7;omega) (by rw[QC];exact ht) (by rw[QC];exact c1)
theorem E3{X:nr->eA->Prop}{P Q:gj×List Pg->Prop}{ms:Nat->MS}{G:Nat->eA}{n:Nat}(hm:∀j,j<n->(ms j).to=j)
 (step:∀j,j<n->∀u,P u->∃r u' mq,bQ 2000 u.1 u.2 (ms j)=(true,r,u',mq)/\Q (u',mq)/\TkS (I:=iN) (G j) r (G (j+1))) (hn:1<=n/\n<=7)
 (hl:w.us.length=n) (hu:∀u∈w.us,P u) (hg:nf g=G 0) (ho:g.out=(List.range n).map ms) (rest:∀w1,w1.us.length=n->(∀u∈w1.us,Q u)->w1.sq=w.sq->w1.aQ=w.aQ->∃w2 g2,eO (I:=iN) k w1 (G n) w2 g2/\X w2 g2):
 ∃w2 g2,eO (I:=iN) (k+1) w g w2 g2/\X w2 g2:=by
 obtain⟨w1,c1,c2,c3,c4,c5⟩:=KC hm step hn.2 0 w (Nat.zero_le _) hl λi u h=>by rw[aq (by omega)];exact hu u (List.mem_of_getElem? h)
 obtain⟨w2,g2,r,x⟩:=rest w1 c2 c3 c4 c5;refine⟨w2,g2,.step (by rw[ho];intro e;have:=congrArg List.length e;simp at this;omega) (by rw[hg,ho];exact c1) r,x⟩
end
def cellOf(e:cj):fF:=⟨1,kX e⟩
def pD(low:Int)(L:List cj)(k:Int):Option fF:=if k<low\/k<0 then none else(L[k.toNat]?).map cellOf
abbrev UnS:=gj×List Pg
structure US(e:Int)(i:Option r6)(L:List cj)(low:Int)(P:Nat)(u:UnS):Prop where
 ep:u.1.aI=e
 ins:u.1.inst 1=i
 lo:u.1.low=low
 top:u.1.top=L.length
 TK:u.1.cells=pD low L
 pg:u.2.length<=P
def xy(m:MS)(low:Int):MS:={cN m with low:=low,back:=1}
section
variable {e:Int}{i:Option r6}{L:List cj}{low:Int}{P:Nat}{u:UnS}{m:MS}
theorem US.le(h:US e i L low P u){P':Nat}(hp:P<=P'):US e i L low P' u:=⟨h.ep,h.ins,h.lo,h.top,h.TK,Nat.le_trans h.pg hp⟩
theorem NM(hr:m.bV=false)(hk:1<=m.kind/\m.kind<=7):bQ 2000 u.1 u.2 m=(true,ve (cF 2000 u.1 u.2 m (cN m)).1 (cF 2000 u.1 u.2 m (cN m)).2.1 (cF 2000 u.1 u.2 m (cN m)).2.2.1,(cF 2000 u.1 u.2 m (cN m)).2.2):=
 aq (λh=>h.elim (λh=>by rw[hr]at h;cases h) λh=>h hk)
theorem PS{s s':gj}{ps:List Pg}{l:ax}(hp:ps.length<2000):pY 2000 s ps l s'=(0,s',ps++[⟨1,l⟩]):=aq (by omega)
theorem okF{r:MS}{s:gj}(hl:s.low=low)(he:s.aI=1):ve 0 r s={r with err:=0,low:=low,back:=1}:=by
 unfold ve;rw[aB rfl,hl,he]
theorem aj9{r:MS}{s:gj}:ve 11 r s={r with err:=11,br:=0,bw:=0,val:=[],tail:=0,cell:=zC,low:=s.low,back:=s.aI}:=by
 unfold ve;rw[aq (by decide),aq (by decide)]
theorem PT(h:US e i L low P u)(hP:P<2000)(he:e=0\/e=1)(hl:0<=low/\low<=L.length)(hr:m.bV=false)(hk:m.kind=4)(h1:m.ep=1):
 ∃u' mq,bQ 2000 u.1 u.2 m=(true,{xy m low with tail:=(L.length:Int)},u',mq)/\US 1 i L low (P+1) (u',mq):=by
 have hp:=h.pg;have hm:max u.1.top u.1.low=(L.length:Int):=by rw[h.top,h.lo];omega
 rw[NM hr (by omega)]
 have ed:cF 2000 u.1 u.2 m (cN m)=if u.1.aI=m.ep then(0,{cN m with tail:=max u.1.top u.1.low},u.1,u.2)
  else if(gu 2000 u.1 u.2 m.ep).1=0 then(0,{cN m with tail:=max (gu 2000 u.1 u.2 m.ep).2.1.top (gu 2000 u.1 u.2 m.ep).2.1.low},(gu 2000 u.1 u.2 m.ep).2)
  else((gu 2000 u.1 u.2 m.ep).1,cN m,(gu 2000 u.1 u.2 m.ep).2):=by
  unfold cF;rw[aq (by omega),aq (by omega),aq (by omega),aB hk]
 rw[ed,h1,h.ep];rcases he with rfl|rfl
 ·have es:gu 2000 u.1 u.2 1=(0,{u.1 with aI:=1},u.2++[⟨1,bz 4 [1]⟩]):=by
   unfold gu;rw[aq (by rw[h.ep];decide),aq (by decide),PS (by omega)]
  rw[es,aq (by decide),aB rfl];refine⟨{u.1 with aI:=1},u.2++[⟨1,bz 4 [1]⟩],?_,⟨rfl,h.ins,h.lo,h.top,h.TK,?_⟩⟩
  ·show(true,ve 0 {cN m with tail:=max u.1.top u.1.low} {u.1 with aI:=1},({u.1 with aI:=1}:gj),u.2++[(⟨1,bz 4 [1]⟩:Pg)])=_;rw[okF (s:={u.1 with aI:=1}) (low:=low) h.lo rfl,hm];rfl
  show(u.2++[_]).length<=_;simp;omega
 ·rw[aB rfl];refine⟨u.1,u.2,?_,h.le (by omega)⟩;show(true,ve 0 {cN m with tail:=max u.1.top u.1.low} u.1,u.1,u.2)=_;rw[okF (low:=low) h.lo h.ep,hm];rfl
def adb(i:Option r6)(w:Int):Prop:=match i with
 |none=>1<=w
 |some x=>x.pr=1/\x.pw<w
theorem abh(h:US e i L low P u)(hP:P<2000)(he:e=1){w:Int}(hi:adb i w)(hw:1<=w/\w<=2147483647)(hr:m.bV=false)(hk:m.kind=6)(ha:m.at'=1)(hb:m.br=1/\m.bw=w):
 ∃u' mq,bQ 2000 u.1 u.2 m=(true,{xy m low with br:=(i.getD zI).ar,bw:=(i.getD zI).aw,val:=(i.getD zI).val},u',mq)/\US 1 (some {i.getD zI with pr:=1,pw:=w}) L low (P+1) (u',mq):=by
 have hp:=h.pg;subst he;have hI:bD u.1 1=i.getD zI:=by unfold bD;rw[h.ins]
 rw[NM hr (by omega)]
 have ed:cF 2000 u.1 u.2 m (cN m)=((bR 2000 u.1 u.2 m.at' m.br m.bw).2.2.2.1,{cN m with br:=(bR 2000 u.1 u.2 m.at' m.br m.bw).1,bw:=(bR 2000 u.1 u.2 m.at' m.br m.bw).2.1,val:=(bR 2000 u.1 u.2 m.at' m.br m.bw).2.2.1},(bR 2000 u.1 u.2 m.at' m.br m.bw).2.2.2.2):=by
  unfold cF;rw[aq (by omega),aq (by omega),aq (by omega),aq (by omega),aq (by omega),aB hk]
 have hl:vZ 1 w (i.getD zI).pr (i.getD zI).pw=false/\¬(1=(i.getD zI).pr/\w=(i.getD zI).pw):=by
  unfold vZ;cases i with
  |none=>exact⟨by simp[zI],by simp[zI]⟩
  |some x=>
   obtain⟨h1,h2⟩:=hi;refine⟨?_,λh=>?_⟩
   ·simp[h1];omega
   ·have:w=x.pw:=h.2;omega
 have ep:bR 2000 u.1 u.2 1 1 w=((i.getD zI).ar,(i.getD zI).aw,(i.getD zI).val,0,r7 u.1 1 1 w,u.2++[C8 (bz 5 [1,1,w])]):=by
  unfold bR;rw[hI,aq (by unfold nC zg;simp;omega),aq (by rw[hl.1];decide),aq hl.2,aq (by omega)]
 rw[ed,ha,hb.1,hb.2,ep];refine⟨r7 u.1 1 1 w,u.2++[C8 (bz 5 [1,1,w])],?_,⟨h.ep,?_,h.lo,h.top,h.TK,?_⟩⟩
 ·dsimp only;rw[okF (s:=r7 u.1 1 1 w) (low:=low) (show(r7 u.1 1 1 w).low=low from h.lo) h.ep];rfl
 ·show g7 u.1.inst 1 (some {bD u.1 1 with pr:=1,pw:=w}) 1=_;rw[hI];exact aB rfl
 ·show(u.2++[_]).length<=_;simp;omega
theorem afK{x:r6}(h:US e (some x) L low P u)(hP:P<2000)(he:e=1){w:Int}{v:ax}(hx:x.pr=1/\x.pw=w)(hw:1<=w/\w<=2147483647)(hv:v.length<=1000)(hr:m.bV=false)(hk:m.kind=7)(ha:m.at'=1)(hb:m.br=1/\m.bw=w)(hmv:m.val=v):
 ∃u' mq,bQ 2000 u.1 u.2 m=(true,xy m low,u',mq)/\US 1 (some ⟨1,w,1,w,v⟩) L low (P+1) (u',mq):=by
 have hp:=h.pg;subst he;have hI:bD u.1 1=x:=by unfold bD;rw[h.ins];rfl
 rw[NM hr (by omega)]
 have ed:cF 2000 u.1 u.2 m (cN m)=((fM 2000 u.1 u.2 m.at' m.br m.bw m.val).1,cN m,(fM 2000 u.1 u.2 m.at' m.br m.bw m.val).2):=by
  unfold cF;rw[aq (by omega),aq (by omega),aq (by omega),aq (by omega),aq (by omega),aq (by omega)]
 have ea:fM 2000 u.1 u.2 1 1 w v=(0,Bp u.1 1 1 w v,u.2++[⟨1,bz 6 [1,1,w]++eg v.length 4++v⟩]):=by
  unfold fM;rw[hI,aq (by unfold nC zg;simp;omega),aq (by omega),aq (by unfold vZ;rw[hx.1,hx.2];simp),PS (by omega)]
 rw[ed,ha,hb.1,hb.2,hmv,ea];refine⟨Bp u.1 1 1 w v,u.2++[⟨1,bz 6 [1,1,w]++eg v.length 4++v⟩],?_,⟨h.ep,show g7 u.1.inst 1 (some ⟨1,w,1,w,v⟩) 1=_ from aB rfl,h.lo,h.top,h.TK,?_⟩⟩
 ·dsimp only;rw[okF (s:=Bp u.1 1 1 w v) (low:=low) (show(Bp u.1 1 1 w v).low=low from h.lo) h.ep];rfl
 show(u.2++[_]).length<=_;simp;omega
theorem NN{k:Int}(hl:low<=L.length)(x:cj):g7 (pD low L) (L.length:Int) (some (cellOf x))=pD low (L++[x]):=funext λk=>by
 unfold g7 pD
 by_cases e:k=(L.length:Int)
 ·subst e;rw[aB rfl,aq (by omega)];simp
 ·rw[aq e];split
  ·rfl
  ·rename_i h;rw[List.getElem?_append];split
   ·rfl
   ·rename_i h2;rw[List.getElem?_eq_none (by omega),List.getElem?_eq_none (by simp;omega)]
theorem CS(h:US 1 i L low P u){k:Int}(hk:0<=k/\k<=4294967296):je u.1 1 k=0:=by
 unfold je nD;rw[aB h.ep.symm,aB (by simp;omega)]
theorem XY(h:US 1 i L low P u)(hP:P<2000)(hl:0<=low/\low<=L.length/\L.length<=1000000){x:cj}(hx:(kX x).length<=65536)(hr:m.bV=false)(hk:m.kind=1)(h1:m.ep=1)(ha:m.at'=L.length)(hc:m.cell=cellOf x):
 ∃u' mq,bQ 2000 u.1 u.2 m=(true,xy m low,u',mq)/\US 1 i (L++[x]) low (P+1) (u',mq):=by
 have hp:=h.pg;rw[NM hr (by omega)];have ed:cF 2000 u.1 u.2 m (cN m)=((dt 2000 u.1 u.2 m.ep m.at' m.cell).2.1,{cN m with cell:=(dt 2000 u.1 u.2 m.ep m.at' m.cell).1},(dt 2000 u.1 u.2 m.ep m.at' m.cell).2.2):=aB hk
 have ew:dt 2000 u.1 u.2 1 L.length (cellOf x)=(zC,0,LP u.1 L.length (cellOf x),u.2++[⟨1,jL L.length (cellOf x)⟩]):=by
  unfold dt;rw[CS h ⟨by omega,by omega⟩,aq (by decide),aq (by unfold uP cellOf;simp;omega),aq (by rw[h.lo];omega),h.TK]
  have:pD low L L.length=none:=by
   unfold pD;split
   ·rfl
   ·rw[Int.toNat_natCast,List.getElem?_eq_none (Nat.le_refl _)];rfl
  rw[this];dsimp only;rw[PS (by omega)]
 rw[ed,h1,ha,hc,ew];refine⟨LP u.1 L.length (cellOf x),u.2++[⟨1,jL L.length (cellOf x)⟩],?_,⟨h.ep,h.ins,h.lo,?_,?_,?_⟩⟩
 ·dsimp only;rw[okF (s:=LP u.1 L.length (cellOf x)) (low:=low) (show(LP u.1 L.length (cellOf x)).low=low from h.lo) h.ep];rfl
 ·show max u.1.top _=_;rw[h.top];simp;omega
 ·show g7 u.1.cells _ _=_;rw[h.TK];exact NN (k:=0) hl.2.1 x
 ·show(u.2++[_]).length<=_;simp;omega
theorem abi(h:US 1 i L low P u){k:Nat}{x:cj}(Eh:low<=k)(hx:L[k]? =some x)(hL:L.length<=1000000)(hr:m.bV=false)(hk:m.kind=2)(h1:m.ep=1)(ha:m.at'=k):
 bQ 2000 u.1 u.2 m=(true,{xy m low with cell:=cellOf x},u.1,u.2):=by
 have ki:=(List.getElem?_eq_some_iff.1 hx).1;rw[NM hr (by omega)];have ed:cF 2000 u.1 u.2 m (cN m)=((eS u.1 m.ep m.at').2,{cN m with cell:=(eS u.1 m.ep m.at').1},u.1,u.2):=by unfold cF;rw[aq (by omega),aB hk]
 have er:eS u.1 1 k=(cellOf x,0):=by
  unfold eS;rw[CS h ⟨by omega,by omega⟩,aq (by decide),aq (by rw[h.lo];omega),h.TK]
  have:pD low L k=some (cellOf x):=by
   unfold pD;rw[aq (by omega),Int.toNat_natCast,hx];rfl
  rw[this]
 rw[ed,h1,ha,er];dsimp only;rw[okF h.lo h.ep];rfl
theorem abj(h:US 1 i L low P u){k:Nat}(Eh:(k:Int)<low)(hL:k<=1000000)(hr:m.bV=false)(hk:m.kind=2)(h1:m.ep=1)(ha:m.at'=k):
 bQ 2000 u.1 u.2 m=(true,{xy m low with err:=11},u.1,u.2):=by
 rw[NM hr (by omega)];have ed:cF 2000 u.1 u.2 m (cN m)=((eS u.1 m.ep m.at').2,{cN m with cell:=(eS u.1 m.ep m.at').1},u.1,u.2):=by unfold cF;rw[aq (by omega),aB hk]
 have er:eS u.1 1 k=(⟨0,[]⟩,11):=by
  unfold eS;rw[CS h ⟨by omega,by omega⟩,aq (by decide),aB (by rw[h.lo];omega)]
 rw[ed,h1,ha,er];dsimp only;rw[aj9,h.lo,h.ep];rfl
theorem abk(h:US 1 i L low P u)(hP:P<2000){s:Nat}(hs:low<=s)(hL:s<=1000000)(h0:0<=low)(hr:m.bV=false)(hk:m.kind=3)(h1:m.ep=1)(ha:m.at'=s):
 ∃u' mq,bQ 2000 u.1 u.2 m=(true,xy m s,u',mq)/\US 1 i L s (P+1) (u',mq):=by
 have hp:=h.pg;rw[NM hr (by omega)];have ed:cF 2000 u.1 u.2 m (cN m)=((ly 2000 u.1 u.2 m.ep m.at').1,cN m,(ly 2000 u.1 u.2 m.ep m.at').2):=by unfold cF;rw[aq (by omega),aq (by omega),aB hk]
 by_cases e:(s:Int)<=low
 ·obtain rfl:low=s:=by omega
  have et:ly 2000 u.1 u.2 1 s=(0,u.1,u.2):=by
   unfold ly;rw[CS h ⟨by omega,by omega⟩,aq (by decide),aB (by rw[h.lo];omega)]
  rw[ed,h1,ha,et];refine⟨u.1,u.2,?_,h.le (by omega)⟩;dsimp only;rw[okF h.lo h.ep];rfl
 ·have et:ly 2000 u.1 u.2 1 s=(0,pX {u.1 with low:=s},u.2++[⟨1,bz 3 [s]⟩]):=by
   unfold ly;rw[CS h ⟨by omega,by omega⟩,aq (by decide),aq (by rw[h.lo];omega),PS (by omega)]
  rw[ed,h1,ha,et];refine⟨pX {u.1 with low:=(s:Int)},u.2++[⟨1,bz 3 [s]⟩],?_,⟨h.ep,h.ins,rfl,h.top,?_,?_⟩⟩
  ·dsimp only;rw[okF (s:=pX {u.1 with low:=(s:Int)}) (low:=(s:Int)) rfl h.ep];rfl
  ·show(λk=>if k<(s:Int)then none else u.1.cells k)=_;rw[h.TK];funext k;unfold pD
   by_cases h1:k<(s:Int)
   ·rw[aB h1,aB (.inl h1)]
   ·rw[aq h1]
    by_cases h2:k<0
    ·omega
    ·rw[aq (by omega),aq (by omega)]
  ·show(u.2++[_]).length<=_;simp;omega
end
def atc(n:Nd):Nd:={n with bo:=0}
theorem S4{k:Int}(h0:0<=k)(h1:k<256):hZ k=UInt8.ofNat k.toNat:=by
 unfold hZ;congr 1;simp only[IntKind.wrap,IntKind.bits,IntKind.signed,Bool.false_and,Bool.false_eq_true,if_false];omega
theorem XZ{B:Nat}{T1:List Nd}(wf:ey B T1){n:Nd}(hn:n∈T1):n.bo=if n.num=0 then 1 else(refs T1 n.num:Int):=by
 by_cases h:n.num=0
 ·rw[aB h];obtain⟨r,hr,hk⟩:=wf.root;have iZ:(T1.map (·.num)).Nodup:=wf.nd
  have e:r=n:=by
   unfold nodeAt at hr;have h1:=List.mem_of_find?_eq_some hr;have h2:=List.find?_some hr;simp at h2;obtain⟨i,hi,rfl⟩:=List.mem_iff_getElem.1 h1;obtain⟨j,hj,rfl⟩:=List.mem_iff_getElem.1 hn
   have D4:i=j:=by
    have:=(List.nodup_iff_pairwise_ne.1 iZ);exact(List.getElem_inj (h₀:=by simpa using hi) (h₁:=by simpa using hj) iZ).1 (by simp[h2,h])
   subst D4;rfl
  subst e;rcases(wf.jY r hn).kind with⟨_,_,h3⟩|⟨h3,_⟩
  ·exact h3
  ·omega
 ·rw[aq h];exact(wf.B5 n hn h).symm
theorem E4(u:Int):b7 u<256^8:=by
 have h1:=qS u;simp only[IntKind.wrap,IntKind.bits,IntKind.signed,Bool.false_and,Bool.false_eq_true,if_false]at h1;have:(256:Nat)^8=18446744073709551616:=by decide
 omega
theorem E5(l r:ax):fS (l++r,false) l.length=(l,(r,false)):=by
 unfold fS;rw[aq (by simp),aq (by simp)];simp
theorem nY{l r:ax}{n:Nat}(h:l.length=n):bg (l++r,false) n=(xE l,(r,false)):=by
 unfold bg;rw[<-h,E5]
theorem E6(k:Nat)(r:ax)(m:Int)(h:(k:Int)<=m)(h2:k<4294967296):bB (eg k 4++r,false) m=(k,(r,false)):=by
 have h4:(256:Nat)^4=4294967296:=by decide
 unfold bB;rw[nY (bF _ _),oG 4 _ (by omega),aq (by simp),aq (by omega)]
theorem vu(d r:ax)(m:Int)(h:(d.length:Int)<=m)(h2:d.length<4294967296):cJ (eg d.length 4++(d++r),false) m=(d,(r,false)):=by
 unfold cJ;rw[E6 _ _ _ h h2];exact E5 d r
theorem E7{α β:Type}{f:RS->β×RS}{enc:α->ax}{g:α->β}:∀ {l:List α} {r:ax},(∀x∈l,∀r,f (enc x++r,false)=(g x,(r,false)))->du f l.length (l.flatMap enc++r,false)=(l.map g,(r,false))
 |[],_,_=>rfl
 |x::l,r,h=>by
  have h1:=h x (by simp) (l.flatMap enc++r);have ih:=E7 (l:=l) (r:=r) λy hy=>h y (by simp[hy]);show du f (l.length+1) _=_;unfold du;rw[aq (by simp),List.flatMap_cons,List.append_assoc,h1];dsimp only;rw[ih];rfl
theorem E8{α β:Type}{f:RS->β×RS}{enc:α->ax}{g:α->β}{l:List α}{r:ax}{m:Int}(h:∀x∈l,∀r,f (enc x++r,false)=(g x,(r,false)))(hm:(l.length:Int)<=m)(h4:l.length<4294967296):cD f m (eg l.length 4++(l.flatMap enc++r),false)=(l.map g,(r,false)):=by
 unfold cD;rw[E6 _ _ _ hm h4];dsimp only;rw[E7 h,aq (by simp)]
theorem adc(k:Nat):xE [UInt8.ofNat k]=k%256:=by simp[xE]
theorem X0{e:Nm×Nat}(h:e.1.length<=16)(h2:e.2<256)(r:ax):kz (mH e++r,false)=(e,(r,false)):=by
 have e1:mH e++r=eg e.1.length 4++(e.1++([UInt8.ofNat e.2]++r)):=by unfold mH;simp only[List.append_assoc]
 unfold kz;rw[e1,vu _ _ _ (by omega) (by omega)];dsimp only;rw[nY (l:=[UInt8.ofNat e.2]) (n:=1) rfl,adc];dsimp only;rw[Nat.mod_mod,Nat.mod_eq_of_lt h2]
theorem PU{k:Int}(h0:0<=k)(h1:k<256):(xE [hZ k])%256=k.toNat:=by
 rw[S4 h0 h1,adc];omega
def z7(n:Nd):Nd:={n with bo:=n.bo%65536}
theorem abl{k:Int}(h0:0<=k)(h1:k<=1000000):ct (xE (eg (b7 k) 2))=k%65536:=by
 have e:b7 k=k.toNat:=by
  have e:IntKind.u64.wrap k=k:=eZ ⟨by show(0:Int)<=k;omega,by show k<=(18446744073709551615:Int);omega⟩;unfold b7;rw[e]
 have h2:xE (eg k.toNat 2)=k.toNat%65536:=by
  have e:eg k.toNat 2=[UInt8.ofNat (k.toNat / 256),UInt8.ofNat k.toNat]:=by simp[eg,qC,List.range,List.range.loop]
  rw[e];simp[xE];omega
 rw[e,h2];unfold ct;rw[eZ ⟨by show(-9223372036854775808:Int)<=_;omega,by show _<=(9223372036854775807:Int);omega⟩];omega
theorem S5{B:Nat}(hB:B<=100000){T1:List Nd}(wf:ey B T1){n:Nd}(hn:n∈T1)(r:ax):fI (fU n++r,false)=(z7 n,(r,false)):=by
 have g:=wf.jY n hn;have hk:0<=n.kind/\n.kind<256:=by rcases g.kind with⟨h,_⟩|⟨h,_⟩<;>omega
 have DB:=g.num;have hd:=g.data;have hl:=g.yp;have Tv:=g.yq;have hef:=g.qP;have e1:fU n++r=[hZ n.num]++([hZ n.kind]++(eg (b7 n.bo) 2++(eg n.data.length 4++(n.data++(eg n.ay.length 4++(n.ay.flatMap mH++r)))))):=by unfold fU;simp only[List.append_assoc]
 unfold fI;rw[e1];have one:∀k:UInt8,[k].length=1:=λ_=>rfl
 have Cy:∀x∈n.ay,∀r,kz (mH x++r,false)=(id x,(r,false)):=λx hx r=>by
  have h1:=(g.name x hx).1;unfold dm at h1;simp at h1;exact X0 (by omega) (Nat.lt_trans (Wz wf hn hx) (by decide)) r
 simp only[nY (one _),nY (bF _ _),vu n.data _ 512 (by omega) (by omega),E8 (m:=9223372036854775807) Cy (by omega) (by omega),PU (show 0<=(n.num:Int) by omega) (by omega),PU hk.1 hk.2,abl (show 0<=n.bo by omega) (by omega),List.map_id];unfold z7;refine Prod.ext ?_ rfl;show Nd.mk _ _ _ _ _=_;congr 1;omega
theorem X1(T1:List Nd)(k:Nat):xd (T1.flatMap (·.ay)) k=(refs T1 k:Int):=by
 unfold xd refs dQ
 induction T1 with
 |nil=>rfl
 |cons n r ih=>
  rw[List.flatMap_cons,List.countP_append,List.map_cons,List.sum_cons];have e:(n.ay.countP λe=>decide ((e.2:Int)=(k:Int)))=n.ay.countP λe=>decide (e.2=k):=List.countP_congr λe _=>by simp;omega
  rw[e];omega
theorem afL{B:Nat}{T1:List Nd}(wf:ey B T1):YL (T1.map z7)=T1:=by
 have he:(T1.map z7).flatMap (·.ay)=T1.flatMap (·.ay):=by
  rw[List.flatMap_map];rfl
 unfold YL;rw[List.map_map]
 have key:∀n∈T1,(W0 (T1.map z7)∘z7) n=id n:=λn hn=>by
  have hl:=XZ wf hn;have g:=wf.jY n hn;show W0 (T1.map z7) (z7 n)=n;unfold W0;rw[he,show(z7 n).num=n.num from rfl,X1];rcases g.kind with⟨hk,_,h1⟩|⟨hk,_⟩
  ·rw[aq (λh=>by have:=h.1;rw[show(z7 n).kind=n.kind from rfl]at this;omega)];unfold z7;rw[h1];show({n with bo:=(1:Int)%65536}:Nd)=n;rw[<-h1];cases n;simp at h1⊢;omega
  ·have h0:n.num≠0:=λh0=>by
    obtain⟨r,hr,hrk⟩:=wf.root;obtain⟨h2,h3⟩:=bI hr;have:=fi wf.nd hn;rw[h0,hr]at this;obtain rfl:=Option.some.inj this;omega
   rw[aq h0]at hl;rw[aB ⟨hk,by show(refs T1 n.num:Int)%65536=n.bo%65536;rw[hl]⟩];show({n with bo:=(refs T1 n.num:Int)}:Nd)=n;rw[<-hl]
 rw[List.map_congr_left key,List.map_id]
theorem X3:∀ {js:Nm} {l:List (Nm×Nat)},(∀e∈l,dm e.1=true)->(∀e∈l,js<e.1)->(l.map (·.1)).Pairwise (· < ·)->W2 js l=true
 |_,[],_,_,_=>rfl
 |js,e::r,h1,h2,h3=>by
  rw[List.map_cons,List.pairwise_cons]at h3;unfold W2;rw[h1 e (by simp),decide_eq_true (h2 e (by simp)),X3 (λx hx=>h1 x (by simp[hx])) (λx hx=>h3.1 _ (List.mem_map.2 ⟨x,hx,rfl⟩)) h3.2];rfl
theorem afM{B:Nat}{T1:List Nd}(hg:∀n∈T1,iu B n):∀ {js:Int},(∀n∈T1,js<n.num)->(T1.map (·.num)).Pairwise (· < ·)->KX js T1=true:=by
 induction T1 with
 |nil=>intros;rfl
 |cons n r ih=>
  intro js h1 h2;rw[List.map_cons,List.pairwise_cons]at h2;have g:=hg n (by simp)
  have UJ:iy n=true:=by
   have hlt:∀e∈n.ay,([]:Nm)<e.1:=λe he=>by
    have h1:=(g.name e he).1;unfold dm at h1;simp at h1;cases hx:e.1 with
    |nil=>rw[hx]at h1;simp at h1
    |cons a b=>exact List.nil_lt_cons a b
   unfold iy;rcases g.kind with⟨hk,hd,hl⟩|⟨hk,he⟩
   ·rw[aB hk,decide_eq_true hd,decide_eq_true hl,X3 (λe he=>(g.name e he).1) hlt g.sort];rfl
   ·rw[aq (by omega),aB hk,decide_eq_true g.data,decide_eq_true he];rfl
  unfold KX;rw[decide_eq_true (h1 n (by simp)),decide_eq_true g.num,UJ,ih (λx hx=>hg x (by simp[hx])) (λx hx=>by have:=h2.1 _ (List.mem_map.2 ⟨x,hx,rfl⟩);omega) h2.2];rfl
theorem X4{B:Nat}{T1:List Nd}(wf:ey B T1)(hr:Reach T1):jZ T1=true:=by
 unfold jZ;exact @decide_eq_true _ (Classical.propDecidable _) ⟨wf.root,λn hn e he=>⟨wf.u6 n hn e he,((wf.jY n hn).name e he).2⟩,λn hn h0=>⟨wf.B5 n hn h0,hr n hn⟩⟩
theorem NO{B:Nat}(hB:B<=100000){T1:List Nd}(wf:ey B T1)(hr:Reach T1){u:Int}(h0:0<=u)(h1:u<=4294967296):yJ jZ (jw u T1)=some (u,T1):=by
 have hu:ct (xE (eg (b7 u) 8))=u:=by
  rw[oG 8 _ (E4 u)];unfold ct b7;simp[IntKind.wrap,IntKind.bits,IntKind.signed];omega
 have h64:=tG wf;have hl:=E8 (f:=fI) (enc:=fU) (g:=z7) (l:=T1) (r:=[]) (m:=64) (λx hx r=>S5 hB wf hx r) (by omega) (by omega);rw[List.append_nil]at hl;unfold yJ jw;rw[sg];dsimp only;rw[nY (bF _ _)];dsimp only;rw[hu];unfold mI;rw[hl];dsimp only;rw[aq (by simp;omega),afL wf,aB];unfold lQ;rw[decide_eq_true h64,afM wf.jY (λn _=>by omega) wf.sorted,X4 wf hr];rfl
theorem ade{k:Int}(h0:0<=k)(h1:k<=255):(((xE [hZ k])%256:Nat):Int)=k:=by
 have e:IntKind.u8.wrap k=k:=eZ ⟨by show(0:Int)<=k;omega,by show k<=(255:Int);omega⟩;unfold hZ;rw[e]
 have h2:(UInt8.ofNat k.toNat).toNat=k.toNat:=by
  rw[UInt8.toNat_ofNat'];omega
 have h1:xE [UInt8.ofNat k.toNat]=k.toNat:=by simp[xE,h2]
 rw[h1];omega
theorem X5{k:Int}(h0:0<=k)(h1:k<=2147483647):((xE (eg (b7 k) 4):Nat):Int)=k:=by
 have h4:(256:Nat)^4=4294967296:=by decide
 have e:IntKind.u64.wrap k=k:=eZ ⟨by show(0:Int)<=k;omega,by show k<=(18446744073709551615:Int);omega⟩;unfold b7;rw[e,oG 4 _ (by omega)];omega
theorem afN{k:Int}(h0: -9223372036854775808<=k)(h1:k<=9223372036854775807):ct (xE (eg (b7 k) 8))=k:=by
 rw[oG 8 _ (E4 k)];unfold ct b7;simp[IntKind.wrap,IntKind.bits,IntKind.signed];omega
theorem s7(x:cj):(kX x).length=x.pl.length+30:=by
 unfold kX;simp[kh,jP,bF];omega
theorem vw{x:cj}(h:ei x=true):w7 (kX x)=some x:=by
 have h':=h;unfold ei lO at h';simp only[Bool.and_eq_true,Bool.or_eq_true,decide_eq_true_eq]at h';obtain⟨⟨⟨⟨⟨⟨⟨⟨hk,Q3,QH⟩,hb1,Tk⟩,xD,Un⟩,hs1⟩,hs2⟩,atd⟩,ate⟩,G7⟩:=h';obtain⟨q,hq⟩:∃q,q=[hZ x.kind]++(eg (b7 x.cl) 4++(eg (b7 x.bi) 4++(eg (b7 x.nu) 4++([hZ x.st]++(eg (b7 x.bk) 8++(eg x.pl.length 4++(x.pl++[]))))))):=⟨_,rfl⟩;have eB:kX x=ml q:=by rw[hq];unfold kX rz;simp only[List.append_assoc,List.append_nil]
 have one:∀k:UInt8,[k].length=1:=λ_=>rfl
 have eR:ry (q,false)=(x,([],false)):=by
  rw[hq];dsimp only[ry];simp only[nY (one _),nY (bF _ _),vu x.pl _ 65536 (by omega) (by omega),ade (show 0<=x.kind by omega) (by omega),ade hs1 (by omega),X5 Q3 QH,X5 hb1 Tk,X5 xD Un,afN (show -9223372036854775808<=x.bk by omega) (by omega)]
 have hl:(ml q).length<=65536:=by rw[<-eB,s7];omega
 rw[eB];unfold w7;rw[aq (by omega),sg];simp only[eR,h];simp
theorem qs{x:eK}(h:px x=true):jx (jM x)=some x:=by
 unfold px at h;cases e:jx (jM x)with
 |none=>rw[e]at h;cases h
 |some y=>
  rw[e]at h;dsimp only at h;unfold J5 at h;simp only[Bool.and_eq_true,decide_eq_true_eq]at h;obtain⟨h1,h2,h3,h4,h5,h6⟩:=h;cases x;cases y
  simp_all
def stepT(T:List Nd)(e:cj):List Nd:=if e.kind=1 then(match jx e.pl with
 |some c=>(zx T c.kind c.path c.aL c.off c.n c.data).1
 |none=>T)else T
def ff(L:List cj):List Nd:=L.foldl stepT sH
structure qt(L:List cj)(e:cj):Prop where
 ok:ei e=true
 k:(e.kind=1/\∃c,jx e.pl=some c/\c.data.length<=1000000)\/(e.kind=2/\e.pl=jw L.length (ff L))
def lD(L:List cj):Prop:=∀k e,L[k]? =some e->qt (L.take k) e
theorem tL(L:List cj)(e:cj):ff (L++[e])=stepT (ff L) e:=by unfold ff;rw[List.foldl_append];rfl
theorem CT{L:List cj}{k:Nat}{e:cj}(h:L[k]? =some e):ff (L.take (k+1))=stepT (ff (L.take k)) e:=by
 obtain⟨hk,rfl⟩:=List.getElem?_eq_some_iff.1 h;rw[List.take_succ_eq_append_getElem hk,tL]
theorem X6(L:List cj):∀(B:Nat) (T:List Nd),1<=B->ey B T->Reach T->ey (B+L.length) (L.foldl stepT T)/\Reach (L.foldl stepT T):=by
 induction L with
 |nil=>exact λB T _ h1 h2=>⟨h1,h2⟩
 |cons e l ih=>
  intro B T hB h1 h2
  have h:ey (B+1) (stepT T e)/\Reach (stepT T e):=by
   unfold stepT;split
   ·split
    ·exact⟨h1.do hB _ _ _ _ _ _,h2.do h1 _ _ _ _ _ _⟩
    ·exact⟨h1.le (by omega),h2⟩
   ·exact⟨h1.le (by omega),h2⟩
  have:=ih (B+1) _ (by omega) h.1 h.2;rw[List.length_cons,show B+(l.length+1)=B+1+l.length by omega];exact this
theorem PV(L:List cj):ey (L.length+1) (ff L)/\Reach (ff L):=by
 have:=X6 L 1 sH (Nat.le_refl _) Gv M7
 rwa [Nat.add_comm]at this
theorem lD.app{L:List cj}{e:cj}(h:lD L)(he:qt L e):lD (L++[e]):=λk x hx=>by
 rw[List.getElem?_append]at hx
 by_cases hk:k<L.length
 ·rw[aB hk]at hx;rw[List.take_append_of_le_length (by omega)];exact h k x hx
 ·rw[aq hk]at hx
  have h0:k - L.length=0:=by
   have:=(List.getElem?_eq_some_iff.1 hx).1;simp at this;omega
  rw[h0]at hx;obtain rfl:e=x:=by simpa using hx
  obtain rfl:k=L.length:=by omega
  rw[List.take_left];exact he
structure gO(L:List cj)(k:Nat)(q:fA):Prop where
 le:k<=L.length
 nx:q.nx=k
 T:q.T=some (ff (L.take k))
 kp:q.kp=[]
 up:q.up=q.at'
 sn:q.at'= -1\/∃(s:Nat) (e:cj),q.at'=s/\s<k/\L[s]? =some e/\e.kind=2
 f:∀id a,q.f id=some a->∃(j:Nat) (e:cj),j<k/\L[j]? =some e/\e.kind=1/\id=(e.cl,e.bi,e.nu)
 mx:∀(j:Nat) (e:cj),j<k->L[j]? =some e->e.kind=2->(j:Int)<=q.at'
theorem nZ{L:List cj}(hL:lD L){k:Nat}{e:cj}(he:L[k]? =some e):w7 (cellOf e).data=some e:=vw (hL k e he).ok
theorem E9{L:List cj}(hL:lD L)(hl:L.length<=10000){k:Nat}{e:cj}(he:L[k]? =some e)(h2:e.kind=2):yJ jZ e.pl=some ((k:Int),ff (L.take k)):=by
 have hk:=(List.getElem?_eq_some_iff.1 he).1;have hlt:(L.take k).length=k:=by rw[List.length_take];omega
 rcases(hL k e he).k with⟨h,_⟩|⟨_,h⟩
 ·omega
 ·obtain⟨w1,w2⟩:=PV (L.take k);rw[h,hlt];exact NO (by rw[hlt];omega) w1 w2 (by omega) (by omega)
section
variable {L:List cj}{k:Nat}{q:fA}{e:cj}
theorem gO.tok(h:gO L k q)(hL:lD L)(hl:L.length<=10000)(he:L[k]? =some e):NF q (cellOf e):=by
 have hk:=(List.getElem?_eq_some_iff.1 he).1;have hlt:(L.take k).length=k:=by rw[List.length_take];omega
 refine⟨by rw[h.nx];omega,λT hT=>?_,by rw[h.kp];decide,λl Tv h1 y hy=>?_,λl Tv h2 u T hu p hp=>by rw[h.kp];trivial⟩
 ·rw[h.T]at hT;cases hT;exact⟨k+1,by omega,by have:=(PV (L.take k)).1;rwa [hlt]at this⟩
 ·rw[nZ hL he]at Tv;cases Tv;rcases(hL k e he).k with⟨_,c,hc,hcl⟩|⟨h2,G7⟩
  ·rw[hc]at hy;cases hy;exact hcl
  ·omega
theorem gO.take(h:gO L k q)(hL:lD L)(hl:L.length<=10000)(he:L[k]? =some e):gO L (k+1) (iz q (cellOf e)):=by
 have hk:=(List.getElem?_eq_some_iff.1 he).1
 have e0:iz q (cellOf e)=if e.kind=1 then oO {q with nx:=q.nx+1} q.nx e else if e.kind=2 then nX {q with nx:=q.nx+1} q.nx e.pl else{q with nx:=q.nx+1}:=by
  unfold iz;dsimp only;rw[aq (by show ¬(1:Int)≠1;decide),nZ hL he]
 have hT:ff (L.take (k+1))=stepT (ff (L.take k)) e:=CT he;have fo:∀id a,q.f id=some a->∃(j:Nat) (e:cj),j<k+1/\L[j]? =some e/\e.kind=1/\id=(e.cl,e.bi,e.nu):=λid a ha=>let⟨j,x,h1,h2⟩:=h.f id a ha;⟨j,x,by omega,h2⟩;have so:q.at'= -1\/∃(s:Nat) (e:cj),q.at'=s/\s<k+1/\L[s]? =some e/\e.kind=2:=h.sn.imp id λ⟨s,x,h1,h2,h3⟩=>⟨s,x,h1,by omega,h3⟩;rw[e0];rcases(hL k e he).k with⟨h1,c,hc,_⟩|⟨h2,G7⟩
 ·rw[aB h1]
  have ec:oO {q with nx:=q.nx+1} q.nx e={q with nx:=q.nx+1,T:=some (stepT (ff (L.take k)) e),f:=sO q.f (e.cl,e.bi,e.nu) (zx (ff (L.take k)) c.kind c.path c.aL c.off c.n c.data).2}:=by
   unfold oO TD stepT;rw[hc];dsimp only;rw[h.T];dsimp only;rw[aB h1]
  rw[ec];refine⟨by omega,by show q.nx+1=_;rw[h.nx];omega,by rw[hT],h.kp,h.up,so,λid a ha=>?_,λj x hj hx OM=>?_⟩;rotate_left
  ·by_cases hjk:j=k
   ·subst hjk;rw[he]at hx;cases hx;omega
   ·exact h.mx j x (by omega) hx OM
  have ha:sO q.f (e.cl,e.bi,e.nu) (zx (ff (L.take k)) c.kind c.path c.aL c.off c.n c.data).2 id=some a:=ha;unfold sO at ha;cases hq:q.f (e.cl,e.bi,e.nu)with
  |none=>
   rw[hq]at ha;dsimp only at ha;unfold g7 at ha;split at ha
   ·rename_i hid;exact⟨k,e,by omega,he,h1,hid⟩
   ·exact fo id a ha
  |some _=>rw[hq]at ha;exact fo id a ha
 ·rw[aq (by omega),aB h2]
  have es:nX {q with nx:=q.nx+1} q.nx e.pl={q with nx:=q.nx+1,up:=k,at':=k}:=by
   unfold nX;rw[E9 hL hl he h2];dsimp only
   have hup:q.up<k:=by
    rw[h.up];rcases h.sn with h|⟨s,_,h,h3,_⟩<;>omega
   rw[aq (by rw[h.nx];omega),aB hup,aB (.inl (by rw[h.T];rfl)),h.nx]
  rw[es];refine⟨by omega,by show q.nx+1=_;rw[h.nx];omega,?_,h.kp,rfl,.inr ⟨k,e,rfl,by omega,he,h2⟩,fo,λj x hj _ _=>by show(j:Int)<=k;omega⟩;rw[hT];unfold stepT;rw[aq (by omega)];exact h.T
theorem gO.bH(h:gO L k q)(hL:lD L)(he:L[k]? =some e)(h1:e.kind=1)(hn:q.f (e.cl,e.bi,e.nu)=none){c:eK}(hc:jx e.pl=some c):(iz q (cellOf e)).f (e.cl,e.bi,e.nu)=some (zx (ff (L.take k)) c.kind c.path c.aL c.off c.n c.data).2:=by
 have e0:iz q (cellOf e)=oO {q with nx:=q.nx+1} q.nx e:=by
  unfold iz;dsimp only;rw[aq (by show ¬(1:Int)≠1;decide),nZ hL he];dsimp only;rw[aB h1]
 rw[e0];unfold oO TD;rw[hc];dsimp only;rw[h.T];dsimp only;unfold sO;rw[hn];exact aB rfl
theorem S6(hL:lD L)(hl:L.length<=10000){q0:fA}(h0:q0.nx=0/\q0.kp=[]/\q0.up= -1/\q0.at'= -1/\(∀id,q0.f id=none))(hk:1<=k)(he:L[k]? =some e)(h2:e.kind=2):
 (sW q0 k).nx=k/\NF (sW q0 k) (cellOf e)/\gO L (k+1) (iz (sW q0 k) (cellOf e)):=by
 obtain⟨n0,n1,n2,n3,n4⟩:=h0;have ki:=(List.getElem?_eq_some_iff.1 he).1;have eq:sW q0 k={q0 with nx:=(k:Int),la:=(k:Int),T:=none,kp:=[]}:=aq (by rw[n0];omega);rw[eq];refine⟨rfl,⟨by show -1<=(k:Int)/\(k:Int)<=_;omega,λT hT=>(by cases hT),(by show(0:Nat)<1000000;decide),λl Tv h1 y hy=>?_,λl Tv _ u T hu p hp=>trivial⟩,?_⟩
 ·rw[nZ hL he]at Tv;cases Tv;omega
 have e0:iz {q0 with nx:=(k:Int),la:=(k:Int),T:=none,kp:=[]} (cellOf e)={q0 with nx:=(k:Int)+1,la:=(k:Int),T:=some (ff (L.take k)),kp:=[],up:=k,at':=k}:=by
  unfold iz;dsimp only;rw[aq (by show ¬(1:Int)≠1;decide),nZ hL he];dsimp only;rw[aq (by omega),aB h2];unfold nX;rw[E9 hL hl he h2];dsimp only;rw[aq (show ¬(k:Int)<k by omega),aq (by rintro(h|h);cases h;omega),aB (show q0.up<(k:Int) by rw[n2];omega)];rfl
 rw[e0];refine⟨by omega,by show(k:Int)+1=_;omega,?_,rfl,rfl,.inr ⟨k,e,rfl,by omega,he,h2⟩,λid a ha=>(by have:=n4 id;rw[show q0.f id=some a from ha]at this;cases this),λj x hj _ _=>by show(j:Int)<=k;omega⟩;rw[CT he];unfold stepT;rw[aq (by omega)]
end
def p0(n:Nat):rx:=⟨0,fG n 1⟩
def p1(n:Nat):rx:=⟨1,fG n 1⟩
def uL(n:Nat):List Int:=(List.range n).map λ(k:Nat)=>(k:Int)
def vL(n:Nat):ax:=YI (p1 n)
theorem CU{n:Nat}(h:1<=n/\n<=4):n=1\/n=2\/n=3\/n=4:=by omega
theorem GU{n:Nat}(h:1<=n/\n<=4):fG n 1=[uL n]:=by
 rcases CU h with rfl|rfl|rfl|rfl<;>rfl
theorem CV{n:Nat}(h:1<=n/\n<=4):dw (p1 n)=true/\dw (p0 n)=true:=by
 rcases CU h with rfl|rfl|rfl|rfl<;>exact⟨by decide,by decide⟩
theorem qZ(n:Nat):(uL n).length=n:=by unfold uL;simp
theorem X7{n:Nat}(h:1<=n/\n<=4){k:Int}(hk:0<=k):dV (p1 n) k=uL n:=by
 unfold dV;rw[aq (by rintro(h1|h1);omega;rw[(CV h).1]at h1;cases h1)];show(fG n 1).getD (k%((fG n 1).length:Int)).toNat []=_;rw[GU h];have:k%(([uL n].length:Nat):Int)=0:=by simp
 rw[this];rfl
structure zK(g:eA):Prop where
 p:g.bq=[]
 o:g.out=[]
 b:g.busy=true
 num:0<=g.num/\g.num<=2000000000000000
 a:zX g
def ux(g:eA)(m:MS):MS:={m with fr:=g.node,num:=g.num+1}
def asked(g:eA)(m:MS):eA:={g with num:=g.num+1,bq:=[(m.to,ux g m)],out:=[ux g m]}
def uy(g:eA):eA:={g with num:=g.num+1}
section
variable {g g1 g2:eA}{m r:MS}{w w1 w2:nr}{k n:Nat}
theorem NP(h:zK g):lC g [m]=asked g m:=by
 rw[KB (by rw[h.p];intro y hy;cases hy) (by simp)];simp[xx,asked,ux,h.o]
theorem gf.one(h:zK g)(hp:io g)(e:fb FQ g=(g1,some [m]))(h1:zK g1)(hm:m.small):gf (n+1) g (asked g1 m):=by
 rw[<-NP h1];exact .YS h.b hp e ⟨λx hx=>by obtain rfl:=List.mem_singleton.1 hx;exact hm,by rw[h1.p];show(0:Nat)+1<=1000000;decide,by rw[h1.o];show(0:Nat)+1<=1000000;decide,by have:=h1.num;simp;omega⟩
theorem NQ(h:zK g)(hf:r.fr=m.to):({nf (asked g m)with bq:=iw (nf (asked g m)).bq r.fr}:eA)=uy g:=by
 obtain⟨h1,h2,_,_,_⟩:=h
 have e:iw (nf (asked g m)).bq r.fr=g.bq:=by
  rw[h1];unfold nf asked iw;simp[hf]
 rw[e];cases g;dsimp only at h1 h2;subst h1 h2;rfl
theorem xz(hc:zK g)(ha:g.dH=none)(hm:m.bV=false)(h7:m.to=7->(m.kind=8\/m.kind=9)/\0<=w.sq.n)(hr:jm w (ux g m)=(some r,w1))(hf:r.fr=m.to/\dM r (ux g m)=true)(hs:r.cell.data.length<=1000000/\r.val.length<=1000000)
 (ho:g.aZ.step≠0->g.aZ.step≠3->∃o,g.aZ.op=some o/\0<=o.place/\o.place<=1000000000) (hg:gf 9 (fx (uy g) r vf) g1) (rest:eO (I:=iN) k w1 g1 w2 g2):eO (I:=iN) (k+1) w (asked g m) w2 g2:=by
 refine PR (m:=ux g m) rfl (λh=>⟨hm,h7 h⟩) hr ?_ rest;refine XW hs ha ⟨hc.a.a,hc.a.b,hc.a.n⟩ ?_ ho ?_
 ·unfold mw b9 nf asked;simp[hf.1,hf.2]
 ·rw[NQ hc hf.1];exact hg
theorem zK.nx(h:zK g)(hn:g.num<=1900000000000000):zK (uy g):=⟨h.p,h.o,h.b,by show 0<=g.num+1/\g.num+1<=_;have:=h.num;omega,⟨h.a.a,h.a.b,h.a.n⟩⟩
theorem zK.aZ(h:zK g)(j:sK):zK {g with aZ:=j}:=⟨h.p,h.o,h.b,h.num,⟨h.a.a,h.a.b,h.a.n⟩⟩
theorem zK.rp(h:zK g)(q:fA):zK {g with rp:=q}:=⟨h.p,h.o,h.b,h.num,⟨h.a.a,h.a.b,h.a.n⟩⟩
theorem tM{low:Int}(hm:m.bV=false):(xy m low).fr=m.to/\dM (xy m low) m=true:=by
 simp[dM,xy,cN,hm]
structure tT(n:Nat)(L:List cj)(low wA:Int)(P:Nat)(N:Nat)(w:nr):Prop where
 len:w.us.length=n
 us:∀u∈w.us,US 1 (some ⟨1,wA,1,wA,vL n⟩) L low P u
 e:w.sq.e=1
 nn:w.sq.n=N
 f:∀k,-1<=w.sq.f k/\w.sq.f k<=1000000
 aQ:w.aQ=p0 n
def rG(n k:Nat):jl:=mQ k (uL n)
def rM(n k:Nat):MS:={gS with to:=(n:Int) - 1,kind:=2,ep:=1,at':=k}
structure KZ(n:Nat)(L:List cj)(e:cj)(g:eA):Prop where
 c:zK g
 dH:g.dH=none
 aQ:g.aQ=p1 n
 st:g.aZ.step=2
 at':g.aZ.at'=L.length
 cell:g.aZ.cell=cellOf e
 kind:g.aZ.kind=e.kind
 id:(g.aZ.i1,g.aZ.i2,g.aZ.i3)=(e.cl,e.bi,e.nu)
def iR(L:List cj)(e:cj):fH:=if e.kind=2 then{}else match jx e.pl with
 |some c=>(zx (ff L) c.kind c.path c.aL c.off c.n c.data).2
 |none=>{}
def n5(g:eA)(q:fA)(j:Int)(a:fH):eA:={g with rp:=q,num:=g.num+j,busy:=false,waits:=true,id:=(g.aZ.i1,g.aZ.i2,g.aZ.i3),bH:=a,aZ:=DF,dH:=none,bq:=[],out:=[]}
section
variable {L:List cj}{e:cj}
def Fa(L:List cj)(e:cj):Prop:=∀(j:Nat) (x:cj),L[j]? =some x->x.kind=1->(x.cl,x.bi,x.nu)≠(e.cl,e.bi,e.nu)
theorem KZ.pre(h:KZ n L e g)(ho:∀o,g.aZ.op=some o->GK o/\(o.state=2->NF g.rp (gN o)/\(gN o).data.length<=1000000))(hc:g.aZ.op=none->fA.nx g.rp=g.aZ.at'->NF g.rp g.aZ.cell):io g:=by
 unfold io;rw[h.dH];dsimp only;rw[aq (by rw[h.st];decide),aq (by rw[h.st];decide),aB h.st];exact⟨h.c.a,λo e=>⟨(ho o e).1,(ho o e).2,λ_=>trivial⟩,hc⟩
theorem KZ.stp(h:KZ n L e g):fb FQ g=gE FQ g:=by
 unfold fb;rw[h.dH];dsimp only;rw[aq (by rw[h.st];decide),aq (by rw[h.st];decide),aB h.st]
theorem CX(hn:1<=n/\n<=4)(h:KZ n L e g)(ho:g.aZ.op=none)(hk:k<L.length)(hq:fA.nx g.rp=k)(hle:L.length<=10000){f:Nat}:gf (f+1) g (asked (g.bf (some (rG n k))) (rM n k)):=by
 refine .one h.c (h.pre (λo e=>by rw[ho]at e;cases e) λ_ e=>by rw[hq,h.at']at e;omega) ?_ (h.c.aZ _) ⟨Nat.zero_le _,Nat.zero_le _⟩;rw[h.stp];unfold gE;rw[ho];dsimp only;rw[show FQ.nx g.rp=(k:Int)from hq,aq (by rw[h.at'];omega),aq (by rw[h.at'];omega),h.aQ,X7 hn (by omega)];unfold d9
 have hs:(mQ (k:Int) (uL n)).state=1:=by
  show(if(uL n).length=0 then(3:Int)else 1)=1;rw[aq (by rw[qZ];omega)]
 rw[aB hs];show(g.bf _,some _)=_;refine Prod.ext rfl (congrArg some ?_);unfold m9 Sk Sl lv rM;rw[aB hs,aB hs,aB hs]
 have hp:(mQ (k:Int) (uL n)).place=((n - 1:Nat):Int):=by
  show((uL n).length:Int) - 1=_;rw[qZ];omega
 have hu:((mQ (k:Int) (uL n)).us[(mQ (k:Int) (uL n)).place.toNat]?).getD 0=(n:Int) - 1:=by
  rw[hp,Int.toNat_natCast];show((uL n)[n - 1]?).getD 0=_;unfold uL;rw[List.getElem?_map,List.getElem?_range (by omega)];simp;omega
 rw[hu];simp only[dX.bf,h.aQ];rfl
theorem X8(h:KZ n L e g)(ho:g.aZ.op=none)(hL:lD (L++[e]))(hle:L.length<=5000)(hq:gO (L++[e]) L.length g.rp)(lp:Fa L e)(he:qt L e):
 ∃q,gO (L++[e]) (L.length+1) q/\∀f,gf (f+3) g (n5 g q 0 (iR L e)):=by
 have hx:(L++[e])[L.length]? =some e:=by simp
 have hl:(L++[e]).length<=10000:=by simp;omega
 have afO:NF g.rp (cellOf e):=hq.tok hL hl hx;have Ky:=hq.take hL hl hx;have hT:ff ((L++[e]).take L.length)=ff L:=by rw[List.take_left]
 refine⟨iz g.rp (cellOf e),Ky,λf=>?_⟩
 have hnf:fA.f g.rp (e.cl,e.bi,e.nu)=none:=by
  cases hf:fA.f g.rp (e.cl,e.bi,e.nu)with
  |none=>rfl
  |some a=>
   obtain⟨j,x,h1,h2,h3,h4⟩:=hq.f _ _ hf;rw[List.getElem?_append_left h1]at h2;exact absurd h4.symm (lp j x h2 h3)
 let g1:eA:={g with rp:=iz g.rp (cellOf e)}
 have h1:KZ n L e g1:=⟨h.c.rp _,h.dH,h.aQ,h.st,h.at',h.cell,h.kind,h.id⟩;refine .go h.c.b (h.pre (λo e=>by rw[ho]at e;cases e) λ_ _=>by rw[h.cell];exact afO) (g1:=g1) ?_ (.go h1.c.b (h1.pre (λo e=>by rw[show g.aZ.op=_ from e]at ho;cases ho) λ_ hn=>?_) (g1:=n5 g (iz g.rp (cellOf e)) 0 (iR L e)) ?_ (.stop rfl))
 ·rw[h.stp];unfold gE;rw[ho];dsimp only;rw[show FQ.nx g.rp=(L.length:Int)from hq.nx,aq (by rw[h.at'];omega),aB h.at'.symm,h.cell];rfl
 ·have:(iz g.rp (cellOf e)).nx=((L.length+1:Nat):Int):=Ky.nx;rw[show fA.nx g1.rp=_ from this,show g1.aZ.at'=_ from h.at']at hn;omega
 ·rw[h1.stp];unfold gE;rw[show g1.aZ.op=none from ho];dsimp only;rw[show FQ.nx g1.rp=((L.length+1:Nat):Int)from Ky.nx,aB ⟨by rw[show g1.aZ.at'=_ from h.at'];omega,by show(fA.T (iz g.rp (cellOf e))).isNone=false;rw[Ky.T];rfl⟩];refine Prod.ext ?_ rfl;have fe:∀a,n5 g (iz g.rp (cellOf e)) 0 a=tR g1 a:=λa=>by unfold n5 tR;rw[Int.add_zero]
  rw[fe];show lZ FQ g1=_;unfold lZ iR;rw[show g1.aZ.kind=e.kind from h.kind];split
  ·rfl
  ·rename_i Ed;rcases he.k with⟨Ha,c,hc,_⟩|⟨hk,_⟩
   ·have ha:=hq.bH hL hx Ha hnf hc;rw[hT]at ha;rw[show(g1.aZ.i1,g1.aZ.i2,g1.aZ.i3)=(e.cl,e.bi,e.nu)from h.id,show FQ.bH g1.rp (e.cl,e.bi,e.nu)=_ from ha,hc]
   ·exact absurd hk Ed
theorem KD(k:Nat):sJ (rG n k)=2:=aB (.inl rfl)
theorem S7(hn:1<=n/\n<=4){x:cj}{low:Int}{k:Nat}{m:MS}(hm:m.kind=2):
 ia (rG n k) {xy m low with cell:=cellOf x}={rG n k with cell:=cellOf x,state:=2}:=by
 have hs:(rG n k).state=1:=by
  show(if(uL n).length=0 then(3:Int)else 1)=1;rw[aq (by rw[qZ];omega)]
 unfold ia;rw[aq (by rw[hs];decide),aq (by show ¬m.kind≠sJ (rG n k);rw[hm,KD];decide),aB (.inl rfl)];unfold gC;rw[aq (by rintro⟨h,_⟩;exact absurd (show(1:Int)=0 from h) (by decide)),aB ⟨rfl,rfl⟩]
theorem S8(hn:1<=n/\n<=4){low:Int}{k:Nat}{m:MS}(hm:m.kind=2):
 ia (rG n k) {xy m low with err:=11}={rG n k with state:=4,low:=low}:=by
 have hs:(rG n k).state=1:=by
  show(if(uL n).length=0 then(3:Int)else 1)=1;rw[aq (by rw[qZ];omega)]
 unfold ia;rw[aq (by rw[hs];decide),aq (by show ¬m.kind≠sJ (rG n k);rw[hm,KD];decide),aq (by show ¬((11:Int)=0\/(11:Int)=10\/(11:Int)=9);decide),aB rfl];rfl
theorem vx(h:g.aZ.op=none):g.bf none=g:=by
 cases g with
 |mk a b c d e f g h i aZ=>
  cases aZ;dsimp only at h;subst h;rfl
section
variable {low wA:Int}{P N:Nat}
theorem KE(hn:1<=n/\n<=4)(hw:w.us.length=n){k:Nat}(g:eA){r:MS}(hr:∀u,w.us[n - 1]? =some u->bQ 2000 u.1 u.2 (ux g (rM n k))=(true,r,u.1,u.2)):jm w (ux g (rM n k))=(some r,w):=by
 have ht:(ux g (rM n k)).to=((n - 1:Nat):Int):=by
  show(n:Int) - 1=_;omega
 obtain⟨u,hu⟩:∃u,w.us[n - 1]? =some u:=⟨_,List.getElem?_eq_getElem (by omega)⟩;unfold jm;rw[ht,aq (by omega),aq (by omega),Int.toNat_natCast,hu];dsimp only;rw[hr u hu,aB rfl,Ct _ _ _ hu]
theorem KF{k:Nat}{x:cj}{j:Nat}(hn:1<=n/\n<=4)(hw:tT n (L++[e]) low wA P N w)(hle:L.length<=5000)(hg:zK g)(hb:g.num<=1800000000000000)(ha:g.dH=none)(hst:g.aZ.step=2)(hx:(L++[e])[k]? =some x)(lj:(kX x).length<=65536)(hk:low<=k)
 (ht:gf 9 ((uy g).bf (some {rG n k with cell:=cellOf x,state:=2})) g1) (rest:eO (I:=iN) j w g1 w2 g2):eO (I:=iN) (j+1) w (asked (g.bf (some (rG n k))) (rM n k)) w2 g2:=by
 have hr:=KE hn hw.len (k:=k) (g.bf (some (rG n k))) (r:={xy (ux (g.bf (some (rG n k))) (rM n k)) low with cell:=cellOf x}) λu hu=>abi (hw.us u (List.mem_of_getElem? hu)) hk hx (by simp;omega) rfl rfl rfl rfl;refine xz (hg.aZ _) ha rfl (λh=>?_) hr ?_ ⟨?_,Nat.zero_le _⟩ (λ_ _=>⟨rG n k,rfl,?_⟩) ?_ rest
 ·have:(n:Int) - 1=7:=h;omega
 ·simp[dM,xy,cN,ux,rM,gS]
 ·show(kX x).length<=_;omega
 ·show 0<=((uL n).length:Int) - 1/\((uL n).length:Int) - 1<=_;rw[qZ];omega
 ·have e1:fx (uy (g.bf (some (rG n k)))) {xy (ux (g.bf (some (rG n k))) (rM n k)) low with cell:=cellOf x} vf=(uy g).bf (some {rG n k with cell:=cellOf x,state:=2}):=by
   unfold fx;rw[show(uy (g.bf (some (rG n k)))).dH=none from ha];dsimp only;rw[aq (by show ¬g.aZ.step=0;rw[hst];decide),aq (by show ¬g.aZ.step=3;rw[hst];decide)];show(uy (g.bf (some (rG n k)))).bf (some (ia (rG n k) _))=_;rw[S7 hn rfl];rfl
  rw[e1];exact ht
theorem KG(hn:1<=n/\n<=4)(hw:tT n (L++[e]) low wA P N w)(hL:lD (L++[e]))(hle:L.length<=5000)(lp:Fa L e)(he:qt L e):
 ∀(d k:Nat) (g:eA),KZ n L e g->g.aZ.op=none->k+d=L.length->low<=k->gO (L++[e]) k g.rp->g.num<=1700000000000000+k->
  ∃gg,(∀f,gf (f+3) g gg)/\∃(q:fA) (j:Nat),j<=d/\gO (L++[e]) (L.length+1) q/\eO (I:=iN) d w gg w (n5 g q j (iR L e)):=by
 intro d
 induction d with
 |zero=>
  intro k g h ho hk _ hq _;obtain rfl:k=L.length:=by omega
  obtain⟨q,h1,h2⟩:=X8 h ho hL hle hq lp he;exact⟨_,h2,q,0,Nat.le_refl _,h1,.done rfl⟩
 |succ d ih=>
  intro k g h ho hk hlo hq hb;have ki:k<L.length:=by omega
  have hx:(L++[e])[k]? =some (L[k]):=by rw[List.getElem?_append_left ki];exact List.getElem?_eq_getElem ki
  generalize L[k]=x at hx;have hl:(L++[e]).length<=10000:=by simp;omega
  have afO:=hq.tok hL hl hx;have hok:=(hL k x hx).ok
  have lj:(kX x).length<=65536:=by
   have:=sX (nZ hL hx);rw[s7];omega
  let g3:eA:={uy g with rp:=iz g.rp (cellOf x)}
  have h3:KZ n L e g3:=⟨(h.c.nx (by omega)).rp _,h.dH,h.aQ,h.st,h.at',h.cell,h.kind,h.id⟩;obtain⟨gg,a1,q,j,a3,a4,a5⟩:=ih (k+1) g3 h3 ho (by omega) (by omega) (hq.take hL hl hx) (by show g.num+1<=_;omega);refine⟨_,λf=>CX hn h ho ki hq.nx (by omega),q,j+1,by omega,a4,?_⟩
  have ef:n5 g3 q j (iR L e)=n5 g q ((j+1:Nat):Int) (iR L e):=by
   unfold n5;rw[show g3.num+(j:Int)=g.num+((j+1:Nat):Int) by show g.num+1+(j:Int)=_;omega];rfl
  rw[<-ef];refine KF hn hw hle h.c (by omega) h.dH h.st hx lj hlo ?_ a5;have h2:KZ n L e ((uy g).bf (some {rG n k with cell:=cellOf x,state:=2})):=⟨(h.c.nx (by omega)).aZ _,h.dH,h.aQ,h.st,h.at',h.cell,h.kind,h.id⟩;refine .go h2.c.b (h2.pre (λo eo=>?_) λeo=>by cases eo) (g1:=g3.bf none) ?_ ?_
  ·obtain rfl:=Option.some.inj eo;exact⟨λhs=>absurd (show(2:Int)=1 from hs) (by decide),λ_=>⟨afO,by show(kX x).length<=_;omega⟩⟩
  ·rw[h2.stp];unfold gE;show d9 FQ _ {rG n k with cell:=cellOf x,state:=2}=_;unfold d9;rw[aq (show ¬(2:Int)=1 by decide),aB (show(2:Int)=2 from rfl)];rfl
  ·rw[vx (g:=g3) ho];exact a1 5
theorem X9(hn:1<=n/\n<=4)(hw:tT n (L++[e]) low wA P N w)(hL:lD (L++[e]))(hle:L.length<=5000)(lp:Fa L e)(he:qt L e){s:Nat}{x:cj}(r8:low=s)(hs:1<=s)(hx:L[s]? =some x)(OM:x.kind=2)
 (h:KZ n L e g) (ho:g.aZ.op=none) (hq:g.rp=fu) (hb:g.num<=1600000000000000):
   ∃gg,(∀f,gf (f+3) g gg)/\∃(q:fA) (j:Nat),j<=L.length+2/\gO (L++[e]) (L.length+1) q/\eO (I:=iN) (L.length+2) w gg w (n5 g q j (iR L e)):=by
 have hsl:=(List.getElem?_eq_some_iff.1 hx).1;have QI:(L++[e])[s]? =some x:=by rw[List.getElem?_append_left hsl];exact hx
 have hl:(L++[e]).length<=10000:=by simp;omega
 obtain⟨k1,k2,k3⟩:=S6 hL hl (q0:=fu) ⟨rfl,rfl,rfl,rfl,λ_=>rfl⟩ hs QI OM
 have lj:(kX x).length<=65536:=by
  have:=sX (nZ hL QI);rw[s7];omega
 -- it is told ahj Za aqF is gone
 let g2:eA:=(uy g).bf (some {rG n 0 with state:=4,low:=low})
 let g3:eA:={uy g with rp:=sW fu s}
 let g4:eA:={uy g3 with rp:=iz (sW fu s) (cellOf x)}
 have h2:KZ n L e g2:=⟨(h.c.nx (by omega)).aZ _,h.dH,h.aQ,h.st,h.at',h.cell,h.kind,h.id⟩;have h3:KZ n L e g3:=⟨(h.c.nx (by omega)).rp _,h.dH,h.aQ,h.st,h.at',h.cell,h.kind,h.id⟩;have h4:KZ n L e g4:=⟨(h3.c.nx (by show g.num+1<=_;omega)).rp _,h.dH,h.aQ,h.st,h.at',h.cell,h.kind,h.id⟩;obtain⟨gg,a1,q,j,a3,a4,a5⟩:=KG hn hw hL hle lp he (L.length - (s+1)) (s+1) g4 h4 ho (by omega) (by omega) k3 (by show g.num+1+1<=_;omega);refine⟨_,λf=>CX hn h ho (k:=0) (by omega) (by rw[hq];rfl) (by omega),q,j+2,by omega,a4,?_⟩
 have ef:n5 g4 q j (iR L e)=n5 g q ((j+2:Nat):Int) (iR L e):=by
  unfold n5;rw[show g4.num+(j:Int)=g.num+((j+2:Nat):Int) by show g.num+1+1+(j:Int)=_;omega];rfl
 rw[<-ef]
 have aka:eO (I:=iN) (L.length - (s+1)+1) w (asked (g3.bf (some (rG n s))) (rM n s)) w (n5 g4 q j (iR L e)):=by
  refine KF hn hw hle h3.c (by show g.num+1<=_;omega) h.dH h.st QI lj (by omega) ?_ a5;have h5:KZ n L e ((uy g3).bf (some {rG n s with cell:=cellOf x,state:=2})):=⟨(h3.c.nx (by show g.num+1<=_;omega)).aZ _,h.dH,h.aQ,h.st,h.at',h.cell,h.kind,h.id⟩;refine .go h5.c.b (h5.pre (λo eo=>?_) λeo=>by cases eo) (g1:=g4.bf none) ?_ ?_
  ·obtain rfl:=Option.some.inj eo;exact⟨λhs=>absurd (show(2:Int)=1 from hs) (by decide),λ_=>⟨k2,by show(kX x).length<=_;omega⟩⟩
  ·rw[h5.stp];unfold gE;show d9 FQ _ {rG n s with cell:=cellOf x,state:=2}=_;unfold d9;rw[aq (show ¬(2:Int)=1 by decide),aB (show(2:Int)=2 from rfl)];rfl
  ·rw[vx (g:=g4) ho];exact a1 5
 have hr:=KE hn hw.len (k:=0) (g.bf (some (rG n 0))) (r:={xy (ux (g.bf (some (rG n 0))) (rM n 0)) low with err:=11}) λu hu=>abj (k:=0) (hw.us u (List.mem_of_getElem? hu)) (by omega) (by omega) rfl rfl rfl rfl;refine eO.le (k:=L.length - (s+1)+1+1) (xz (h.c.aZ _) h.dH rfl (λh=>?_) hr ?_ ⟨Nat.zero_le _,Nat.zero_le _⟩ (λ_ _=>⟨rG n 0,rfl,?_⟩) ?_ aka) (by omega)
 ·have:(n:Int) - 1=7:=h;omega
 ·simp[dM,xy,cN,ux,rM,gS]
 ·show 0<=((uL n).length:Int) - 1/\((uL n).length:Int) - 1<=_;rw[qZ];omega
 ·have e1:fx (uy (g.bf (some (rG n 0)))) {xy (ux (g.bf (some (rG n 0))) (rM n 0)) low with err:=11} vf=g2:=by
   unfold fx;rw[show(uy (g.bf (some (rG n 0)))).dH=none from h.dH];dsimp only;rw[aq (by show ¬g.aZ.step=0;rw[h.st];decide),aq (by show ¬g.aZ.step=3;rw[h.st];decide)];show(uy (g.bf (some (rG n 0)))).bf (some (ia (rG n 0) _))=_;rw[S8 hn rfl];rfl
  rw[e1];refine .go h2.c.b (h2.pre (λo eo=>?_) λeo=>by cases eo) (g1:=g3.bf none) ?_ ?_
  ·obtain rfl:=Option.some.inj eo;exact⟨λhs=>absurd (show(4:Int)=1 from hs) (by decide),λhs=>absurd (show(4:Int)=2 from hs) (by decide)⟩
  ·rw[h2.stp];unfold gE;show d9 FQ g2 {rG n 0 with state:=4,low:=low}=_;unfold d9;rw[aq (show ¬(4:Int)=1 by decide),aq (show ¬(4:Int)=2 by decide),aB (show(4:Int)=4 from rfl)];have ZO:FQ.nx g2.rp=0:=by show fA.nx g.rp=0;rw[hq];rfl
   rw[ZO,aq (by show ¬(low<=0\/g.aZ.at'<low);rw[h.at'];omega)];show((({g2 with rp:=sW g.rp low}:eA).bf none),none)=_;rw[hq,r8];rfl
  ·rw[vx (g:=g3) ho];exact CX hn h3 ho (by omega) k1 (by omega)
end
end
end
def CY(g:eA):MS:={gS with to:=7,kind:=8,ep:=g.aQ.ep,at':=g.aZ.fJ}
structure Ya(n:Nat)(g:eA):Prop where
 c:zK g
 dH:g.dH=none
 aQ:g.aQ=p1 n
 st:g.aZ.step=0
 op:g.aZ.op=none
 sm:0<=g.aZ.fJ/\g.aZ.fJ<8
def jR(g:eA)(bk:Int):cj:=⟨g.aZ.kind,g.aZ.i1,g.aZ.i2,g.aZ.i3,g.aZ.fJ,bk,g.aZ.pl⟩
def aoO(g:eA)(N:Nat)(bk:Int):sK:={g.aZ with step:=1,at':=N,cell:=cellOf (jR g bk)}
def abm(g:eA)(N:Nat)(bk:Int):eA:={g with num:=g.num+1,aZ:=aoO g N bk}
def vA(n N j:Nat)(x:fF):jl:=⟨N,1,0,uL n,0,j,x⟩
def wM(N j:Nat)(x:fF):MS:={gS with to:=j,kind:=1,ep:=1,at':=N,cell:=x}
section
variable {n:Nat}{g g1 g2:eA}{w w1 w2:nr}{L:List cj}{low wA:Int}{P:Nat}{k:Nat}
theorem abn(h:Ya n g){f:Nat}:gf (f+1) g (asked g (CY g)):=by
 refine .one h.c ?_ ?_ h.c ⟨Nat.zero_le _,Nat.zero_le _⟩
 ·unfold io;rw[h.dH];dsimp only;rw[aB h.st];trivial
 ·unfold fb;rw[h.dH];dsimp only;rw[aB h.st];rfl
theorem PX(hc:zK g)(ha:g.dH=none)(hs:g.aZ.step=1)(ho:∀o,g.aZ.op=some o->GK o):io g/\fb FQ g=il g:=by
 constructor
 ·unfold io;rw[ha];dsimp only;rw[aq (by rw[hs];decide),aB hs];exact⟨hc.a,ho⟩
 ·unfold fb;rw[ha];dsimp only;rw[aq (by rw[hs];decide),aB hs]
theorem abo{j:Nat}(hj:j<n)(N:Nat)(x:fF){g:eA}(hp:g.aQ=p1 n):m9 g (vA n N j x)=[wM N j x]:=by
 unfold m9 Sk Sl lv vA wM
 have hu:(((uL n)[((j:Int)).toNat]?).getD 0)=(j:Int):=by
  unfold uL;rw[Int.toNat_natCast,List.getElem?_map,List.getElem?_range hj];rfl
 simp only[aB,hu,hp];rfl
theorem PY{j N:Nat}{x:fF}(hn:1<=n/\n<=4)(hc:zK g)(ha:g.dH=none)(hp:g.aQ=p1 n)(hs:g.aZ.step=1)(hj:j<n)(hx:x.data.length<=1000000)(ho:g.aZ.op=some (vA n N j x)\/(g.aZ.op=none/\j=0/\g.aZ.at'=N/\g.aZ.cell=x)){f:Nat}:
 gf (f+1) g (asked (g.bf (some (vA n N j x))) (wM N j x)):=by
 have hor:rA g=vA n N j x:=by
  unfold rA;rcases ho with ho|⟨ho,rfl,h1,h2⟩
  ·rw[ho];rfl
  ·rw[ho,h1,h2,hp,X7 hn (by omega)];show({ez (N:Int) (uL n)with step:=0,cell:=x}:jl)=_;unfold ez vA;rw[aq (by rw[qZ];omega)];rfl
 have hop:∀o,g.aZ.op=some o->GK o:=λo e=>by
  rcases ho with ho|⟨ho,_⟩
  ·rw[ho]at e;cases e;exact λ_=>⟨by show 0<=(j:Int);omega,by show(j:Int)<((uL n).length:Int);rw[qZ];omega⟩
  ·rw[ho]at e;cases e
 obtain⟨q1,q2⟩:=PX hc ha hs hop;refine .one hc q1 ?_ (hc.aZ _) ⟨hx,Nat.zero_le _⟩;rw[q2];unfold il;dsimp only;rw[hor,aB (show(vA n N j x).state=1 from rfl),abo hj N x (g:=g.bf (some (vA n N j x))) hp]
theorem Yb(hc:zK g)(ha:g.dH=none)(hs:g.aZ.step=1){o:jl}(ho:g.aZ.op=some o)(h2:o.state=2){f:Nat}(h:gf f ((g.qn 2).bf none) g1):gf (f+1) g g1:=by
 obtain⟨q1,q2⟩:=PX hc ha hs λo' e=>by rw[ho]at e;cases e;exact λh1=>by rw[h2]at h1;cases h1
 refine .go hc.b q1 ?_ h;rw[q2];unfold il;dsimp only;have hor:rA g=o:=by unfold rA;rw[ho];rfl
 rw[hor,aq (by rw[h2];decide),aB h2];cases g with
 |mk a b c d e f g h i aZ=>cases aZ;rfl
theorem NR{j N:Nat}{x:fF}{m:MS}(hm:m.kind=1):ia (vA n N j x) (xy m low)=if j+1<n then vA n N (j+1) x else{vA n N (j+1) x with state:=2}:=by
 unfold ia;rw[aq (show ¬(vA n N j x).state≠1 from λh=>h rfl),aq (show ¬(xy m low).kind≠sJ (vA n N j x)from λh=>h (hm.trans (aq (by show ¬((0:Int)=1\/(0:Int)=2);decide)).symm)),aB (.inl rfl)];unfold gC;rw[aB ⟨rfl,.inl rfl⟩];unfold jE;show(⟨N,if((uL n).length:Int)<=(j:Int)+1 then 2 else 1,0,uL n,0,(j:Int)+1,x⟩:jl)=_;rw[qZ]
 by_cases h:j+1<n
 ·rw[aB h,aq (by omega)];rfl
 ·rw[aq h,aB (by omega)];rfl
def Mid(n:Nat)(L:List cj)(e:cj)(low wA:Int)(P:Nat)(j:Nat)(w:nr):Prop:=
 w.us.length=n/\∀(i:Nat) u,w.us[i]? =some u->US 1 (some ⟨1,wA,1,wA,vL n⟩) (if i<j then L++[e]else L) low (if i<j then P+1 else P) u
def bump(g:eA)(j:Nat):eA:={g with num:=g.num+j}
theorem Yc(g:eA)(j:Nat):uy (bump g j)=bump g (j+1):=by
 unfold uy bump;rw[show g.num+((j+1:Nat):Int)=g.num+(j:Int)+1 by omega]
theorem Yd{e:cj}{j:Nat}(hn:n<=4)(hP:P<2000)(hl:0<=low/\low<=L.length/\L.length<=5000)(hx:(kX e).length<=65536)(hj:j<n)(hm:Mid n L e low wA P j w)(g:eA):
 ∃w1,jm w (ux g (wM L.length j (cellOf e)))=(some (xy (ux g (wM L.length j (cellOf e))) low),w1)/\Mid n L e low wA P (j+1) w1/\w1.sq=w.sq/\w1.aQ=w.aQ:=by
 obtain⟨hlen,hu⟩:=hm;have hg:w.us[j]? =some w.us[j]:=List.getElem?_eq_getElem (by omega);have h0:=hu j _ hg;generalize w.us[j]=u at hg h0;rw[aq (Nat.lt_irrefl j),aq (Nat.lt_irrefl j)]at h0;obtain⟨u',mq,ha,hus⟩:=XY (m:=ux g (wM L.length j (cellOf e))) h0 hP ⟨hl.1,hl.2.1,by omega⟩ hx rfl rfl rfl rfl rfl;refine⟨{w with us:=w.us.set j (u',mq)},?_,⟨by rw[List.length_set];exact hlen,λi x hi=>?_⟩,rfl,rfl⟩
 ·unfold jm;have ht:(ux g (wM L.length j (cellOf e))).to=(j:Int):=rfl;rw[ht,aq (by omega),aq (by omega),Int.toNat_natCast,hg];dsimp only;rw[ha,aB rfl]
 ·dsimp only at hi;rw[List.getElem?_set]at hi
  by_cases e1:j=i
  ·subst e1;rw[aB rfl,aB (by omega)]at hi;cases hi;rw[aB (by omega),aB (by omega)];exact hus
  ·rw[aq e1]at hi;have:=hu i x hi
   by_cases h:i<j
   ·rw[aB h,aB h]at this;rw[aB (by omega),aB (by omega)];exact this
   ·rw[aq h,aq h]at this;rw[aq (by omega),aq (by omega)];exact this
theorem S9{e:cj}(hn:1<=n/\n<=4)(hP:P<2000)(hl:0<=low/\low<=L.length/\L.length<=5000)(hx:(kX e).length<=65536)(hc:zK g)(hb:g.num<=1500000000000000)(ha:g.dH=none)(hp:g.aQ=p1 n)(hs:g.aZ.step=1):
 ∀(d j:Nat) (w:nr),j+(d+1)=n->Mid n L e low wA P j w->∃w1,w1.us.length=n/\(∀u∈w1.us,US 1 (some ⟨1,wA,1,wA,vL n⟩) (L++[e]) low (P+1) u)/\w1.sq=w.sq/\w1.aQ=w.aQ/\
  ∀k g1 w2 g2,gf 8 (((bump g n).qn 2).bf none) g1->eO (I:=iN) k w1 g1 w2 g2->eO (I:=iN) (k+(d+1)) w (asked ((bump g j).bf (some (vA n L.length j (cellOf e)))) (wM L.length j (cellOf e))) w2 g2:=by
 have cb:∀j,j<=n->zK (bump g j):=λj hj=>⟨hc.p,hc.o,hc.b,by show 0<=g.num+(j:Int)/\g.num+(j:Int)<=_;have:=hc.num;omega,⟨hc.a.a,hc.a.b,hc.a.n⟩⟩
 have one:∀(j:Nat) (w w1 w2:nr) (g1 g2:eA) (k:Nat),j<n->jm w (ux ((bump g j).bf (some (vA n L.length j (cellOf e)))) (wM L.length j (cellOf e)))=(some (xy (ux ((bump g j).bf (some (vA n L.length j (cellOf e)))) (wM L.length j (cellOf e))) low),w1)->
  gf 9 ((bump g (j+1)).bf (some (if j+1<n then vA n L.length (j+1) (cellOf e)else{vA n L.length (j+1) (cellOf e)with state:=2}))) g1->eO (I:=iN) k w1 g1 w2 g2->eO (I:=iN) (k+1) w (asked ((bump g j).bf (some (vA n L.length j (cellOf e)))) (wM L.length j (cellOf e))) w2 g2:=λj w w1 w2 g1 g2 k hj hr hg iY=>by
  refine xz ((cb j (by omega)).aZ _) ha rfl (λh=>?_) hr ?_ ⟨Nat.zero_le _,Nat.zero_le _⟩ (λ_ _=>⟨vA n L.length j (cellOf e),rfl,by show 0<=(j:Int)/\(j:Int)<=_;omega⟩) ?_ iY
  ·have:(j:Int)=7:=h;omega
  ·exact tM (m:=ux _ _) rfl
  ·have e1:fx (uy ((bump g j).bf (some (vA n L.length j (cellOf e))))) (xy (ux ((bump g j).bf (some (vA n L.length j (cellOf e)))) (wM L.length j (cellOf e))) low) vf=(uy (bump g j)).bf (some (ia (vA n L.length j (cellOf e)) (xy (ux ((bump g j).bf (some (vA n L.length j (cellOf e)))) (wM L.length j (cellOf e))) low))):=by
    unfold fx;rw[show(uy ((bump g j).bf (some (vA n L.length j (cellOf e))))).dH=none from ha];dsimp only;rw[aq (by show ¬g.aZ.step=0;rw[hs];decide),aq (by show ¬g.aZ.step=3;rw[hs];decide)];rfl
   rw[e1,NR rfl,Yc];exact hg
 intro d
 induction d with
 |zero=>
  intro j w hj hm;obtain⟨w1,h1,⟨h2,h3⟩,h4,h5⟩:=Yd hn.2 hP hl hx (by omega) hm ((bump g j).bf (some (vA n L.length j (cellOf e))));refine⟨w1,h2,λu hu=>?_,h4,h5,λk g1 w2 g2 hg hr=>one j w w1 w2 g1 g2 k (by omega) h1 ?_ hr⟩
  ·obtain⟨i,hi,rfl⟩:=List.mem_iff_getElem.1 hu;have:=h3 i _ (List.getElem?_eq_getElem hi)
   rwa [aB (by omega),aB (by omega)]at this
  ·rw[aq (by omega)];obtain rfl:j+1=n:=by omega
   exact Yb (g:=(bump g (j+1)).bf (some {vA (j+1) L.length (j+1) (cellOf e)with state:=2})) ((cb _ (Nat.le_refl _)).aZ _) ha hs rfl rfl hg
 |succ d ih=>
  intro j w hj hm;obtain⟨w1,h1,h2,h4,h5⟩:=Yd hn.2 hP hl hx (by omega) hm ((bump g j).bf (some (vA n L.length j (cellOf e))));obtain⟨w2,i1,i2,i3,i4,i5⟩:=ih (j+1) w1 (by omega) h2;refine⟨w2,i1,i2,i3.trans h4,i4.trans h5,λk g1 w3 g2 hg hr=>one j w w1 w3 _ g2 (k+(d+1)) (by omega) h1 ?_ (i5 k g1 w3 g2 hg hr)⟩;rw[aB (by omega)];exact PY (g:=(bump g (j+1)).bf (some (vA n L.length (j+1) (cellOf e)))) hn ((cb (j+1) (by omega)).aZ _) ha hp hs (by omega) (by show(kX e).length<=_;omega) (.inl rfl)
theorem abp(hn:1<=n/\n<=4)(hle:L.length<=5000)(hw:tT n L low wA P L.length w)(hg:Ya n g)(hb:g.num<=1400000000000000)(abq:∀bk,-1<=bk->bk<=1000000->ei (jR g bk)=true):
 ∃w1 bk,-1<=bk/\bk<=1000000/\tT n L low wA P (L.length+1) w1/\∀k w2 g2,eO (I:=iN) k w1 (asked ((abm g L.length bk).bf (some (vA n L.length 0 (cellOf (jR g bk))))) (wM L.length 0 (cellOf (jR g bk)))) w2 g2->eO (I:=iN) (k+1) w (asked g (CY g)) w2 g2:=by
 obtain⟨q1,q2⟩:=hg.sm;obtain⟨st,hst⟩:∃st:Nat,g.aZ.fJ=st:=⟨_,(Int.toNat_of_nonneg q1).symm⟩;have hf:=hw.f st;have hlg:=abq _ hf.1 hf.2
 have et:fj w.sq 1 g.aZ.fJ=(((L.length:Int),w.sq.f st,0),{w.sq with n:=(L.length:Int)+1,f:=λj=>if j=st then(L.length:Int)else w.sq.f j}):=by
  unfold fj;rw[aq (by rw[hw.e];omega),aq (by omega),aq (by rw[hw.nn];omega),hst,Int.toNat_natCast,hw.nn]
 let m:=ux g (CY g)
 let r:MS:={cN m with err:=0,tail:=(L.length:Int),back:=w.sq.f st}
 let w1:nr:={w with sq:={w.sq with n:=(L.length:Int)+1,f:=λj=>if j=st then(L.length:Int)else w.sq.f j}}
 have ea:iU w.sq m=(some r,w1.sq):=by
  unfold iU;rw[aq (show ¬m.bV=true from λh=>(by cases h)),aq (show ¬m.kind=9 from λh=>absurd (show(8:Int)=9 from h) (by decide)),aB (show m.kind=8 from rfl)];have:fj w.sq m.ep m.at'=fj w.sq 1 g.aZ.fJ:=by show fj w.sq g.aQ.ep g.aZ.fJ=_;rw[hg.aQ];rfl
  rw[this,et]
 have hr:jm w m=(some r,w1):=by
  unfold jm;rw[aB (show m.to=7 from rfl),ea]
 refine⟨w1,w.sq.f st,hf.1,hf.2,⟨hw.len,hw.us,hw.e,by show(L.length:Int)+1=_;omega,λk=>?_,hw.aQ⟩,λk w2 g2 iY=>?_⟩
 ·show -1<=(if k=st then(L.length:Int)else w.sq.f k)/\(if k=st then(L.length:Int)else w.sq.f k)<=1000000;split
  ·omega
  ·exact hw.f k
 ·refine xz hg.c hg.dH rfl (λ_=>⟨.inl rfl,by rw[hw.nn];omega⟩) hr ⟨rfl,?_⟩ ⟨Nat.zero_le _,Nat.zero_le _⟩ (λh=>absurd hg.st h) ?_ iY
  ·show dM r m=true;simp[dM,r,cN,m,ux,CY,gS]
  ·have e1:fx (uy g) r vf=abm g L.length (w.sq.f st):=by
    unfold fx;rw[show(uy g).dH=none from hg.dH];dsimp only;rw[aB (show(uy g).aZ.step=0 from hg.st)];unfold kY;rw[aB (show r.err=0 from rfl),aB (show ei (lP (uy g) r)=true from hlg)];rfl
   rw[e1];have QH:zK (abm g L.length (w.sq.f st)):=(hg.c.nx (by omega)).aZ _
   have hlw:(cellOf (jR g (w.sq.f st))).data.length<=1000000:=by
    have:=sX (vw hlg);show(kX _).length<=_;rw[s7];omega
   exact PY hn QH hg.dH hg.aQ rfl (by omega) hlw (.inr ⟨hg.op,rfl,rfl,rfl⟩)
theorem gO.Da{q:fA}(h:gO L k q)(e:cj):gO (L++[e]) k q:=by
 have hk:=h.le;refine⟨by simp;omega,h.nx,by rw[h.T,List.take_append_of_le_length hk],h.kp,h.up,h.sn.imp id λ⟨s,x,h1,h2,h3⟩=>⟨s,x,h1,h2,by rw[List.getElem?_append_left (by omega)];exact h3⟩,λid a ha=>?_,λj x hj hx OM=>h.mx j x hj (by rwa [List.getElem?_append_left (by omega)]at hx) OM⟩;obtain⟨j,x,h1,h2⟩:=h.f id a ha;exact⟨j,x,h1,by rw[List.getElem?_append_left (by omega)];exact h2⟩
theorem gO.new(L:List cj):gO L 0 fu:=⟨Nat.zero_le _,rfl,rfl,rfl,rfl,.inl rfl,λid a ha=>(by cases ha),λj _ hj _ _=>by omega⟩
theorem PZ(hn:1<=n/\n<=4)(hP:P<2000)(hL:lD L)(hle:L.length<=4000)(hw:tT n L low wA P L.length w)(r8:low=0\/∃(s:Nat) (x:cj),low=s/\1<=s/\L[s]? =some x/\x.kind=2)(hg:Ya n g)(hb:g.num<=1000000000000000)
 (abq:∀bk,-1<=bk->bk<=1000000->qt L (jR g bk)) (lp:∀bk,Fa L (jR g bk)) (hq:(∃k,gO L k g.rp/\low<=k)\/g.rp=fu):
 ∃w2 bk q,∃j:Nat,-1<=bk/\bk<=1000000/\j<=L.length+10/\tT n (L++[jR g bk]) low wA (P+1) (L.length+1) w2/\gO (L++[jR g bk]) (L.length+1) q/\eO (I:=iN) (L.length+10) w (asked g (CY g)) w2 (n5 g q j (iR L (jR g bk))):=by
 obtain⟨w1,bk,b1,b2,Tq,aoR⟩:=abp hn (by omega) hw hg (by omega) λbk h1 h2=>(abq bk h1 h2).ok;have he:=abq bk b1 b2
 have lj:(kX (jR g bk)).length<=65536:=by
  have:=sX (vw he.ok);rw[s7];omega
 have hl0:0<=low/\low<=L.length:=by
  rcases r8 with h|⟨s,x,h1,h2,h3,_⟩
  ·omega
  ·have:=(List.getElem?_eq_some_iff.1 h3).1;omega
 let gA:=abm g L.length bk
 have hcA:zK gA:=(hg.c.nx (by omega)).aZ _;obtain⟨w2,u1,u2,u3,u4,aoS⟩:=S9 (L:=L) (e:=jR g bk) (low:=low) (wA:=wA) (g:=gA) hn hP ⟨hl0.1,hl0.2,by omega⟩ lj hcA (by show g.num+1<=_;omega) hg.dH hg.aQ rfl (n - 1) 0 w1 (by omega) ⟨Tq.len,λi u hu=>by rw[aq (by omega),aq (by omega)];exact Tq.us u (List.mem_of_getElem? hu)⟩;have Pv:tT n (L++[jR g bk]) low wA (P+1) (L.length+1) w2:=⟨u1,u2,by rw[u3];exact Tq.e,by rw[u3];exact Tq.nn,by rw[u3];exact Tq.f,by rw[u4];exact Tq.aQ⟩
 let gB:eA:=((bump gA n).qn 2).bf none
 have hRd:KZ n L (jR g bk) gB:=⟨⟨hcA.p,hcA.o,hcA.b,by show 0<=g.num+1+(n:Int)/\g.num+1+(n:Int)<=_;have:=hg.c.num;omega,⟨hg.c.a.a,hg.c.a.b,hg.c.a.n⟩⟩,hg.dH,hg.aQ,rfl,rfl,rfl,rfl,rfl⟩;have hLo:=hL.app he
 have iW:∃gg,(∀f,gf (f+3) gB gg)/\∃(q:fA) (j:Nat),j<=L.length+2/\gO (L++[jR g bk]) (L.length+1) q/\eO (I:=iN) (L.length+2) w2 gg w2 (n5 gB q j (iR L (jR g bk))):=by
  have rd:∀k,gO L k g.rp->low<=k->∃gg,(∀f,gf (f+3) gB gg)/\∃(q:fA) (j:Nat),j<=L.length+2/\gO (L++[jR g bk]) (L.length+1) q/\eO (I:=iN) (L.length+2) w2 gg w2 (n5 gB q j (iR L (jR g bk))):=λk hk iV=>by
   have ki:=hk.le;obtain⟨gg,a1,q,j,a2,a3,a4⟩:=KG hn Pv hLo (by omega) (lp bk) he (L.length - k) k gB hRd rfl (by omega) iV (hk.Da _) (by show g.num+1+(n:Int)<=_;omega);exact⟨gg,a1,q,j,by omega,a3,a4.le (by omega)⟩
  rcases hq with⟨k,hk,iV⟩|hnq
  ·exact rd k hk iV
  ·rcases r8 with h|⟨s,x,h1,h2,h3,h4⟩
   ·exact rd 0 (by rw[hnq];exact gO.new L) (by omega)
   ·exact X9 hn Pv hLo (by omega) (lp bk) he h1 h2 h3 h4 hRd rfl hnq (by show g.num+1+(n:Int)<=_;omega)
 obtain⟨gg,a1,q,j,a2,a3,a4⟩:=iW;refine⟨w2,bk,q,j+1+n,b1,b2,by omega,Pv,a3,?_⟩
 have ef:n5 gB q j (iR L (jR g bk))=n5 g q ((j+1+n:Nat):Int) (iR L (jR g bk)):=by
  unfold n5;rw[show gB.num+(j:Int)=g.num+((j+1+n:Nat):Int) by show g.num+1+(n:Int)+(j:Int)=_;omega];rfl
 rw[<-ef];have r2:=aoS (L.length+2) gg w2 (n5 gB q j (iR L (jR g bk))) (a1 5) a4
 have eb:bump gA 0=gA:=by
  unfold bump;rw[show gA.num+((0:Nat):Int)=gA.num by omega]
 rw[eb]at r2;exact(aoR _ _ _ r2).le (by omega)
end
def bM(nd k:Int)(A:Nat->MS)(i:Nat):MS:={A i with fr:=nd,num:=k+i+1}
def bP(nd k:Int)(A:Nat->MS)(n j:Nat):List (Int×MS):=((List.range n).drop j).map λ(i:Nat)=>((i:Int),bM nd k A i)
section
variable {nd k:Int}{A:Nat->MS}{n j:Nat}{g g1 g2:eA}
theorem Ye(nd k:Int)(l:List MS)(m:MS):xx nd k (l++[m])=xx nd k l++[{m with fr:=nd,num:=k+l.length+1}]:=by
 induction l generalizing k with
 |nil=>simp[xx]
 |cons x l ih=>
  rw[List.cons_append];show _::xx nd (k+1) (l++[m])=_::(xx nd (k+1) l++_);rw[ih,List.length_cons,show k+1+(l.length:Int)+1=k+((l.length+1:Nat):Int)+1 by omega]
theorem NS(nd k:Int)(A:Nat->MS)(n:Nat):xx nd k ((List.range n).map A)=(List.range n).map (bM nd k A):=by
 induction n with
 |zero=>rfl
 |succ n ih=>
  rw[List.range_succ,List.map_append,List.map_append,List.map_cons,List.map_nil,Ye,ih,List.length_map,List.length_range];rfl
theorem lU(hj:j<n):(List.range n).drop j=j::(List.range n).drop (j+1):=by
 rw[List.drop_eq_getElem_cons (by simpa using hj)];simp
theorem Fb{i:Nat}(h:i∈(List.range n).drop j):j<=i/\i<n:=by
 obtain⟨q,hq,rfl⟩:=List.mem_iff_getElem.1 h;simp at hq⊢;omega
theorem abr(hj:j<n):b9 (bP nd k A n j) j=some (bM nd k A j):=by
 unfold bP b9;rw[lU hj,List.map_cons,List.find?_cons];simp
theorem P5(hj:j<n):iw (bP nd k A n j) j=bP nd k A n (j+1):=by
 unfold bP iw;rw[lU hj,List.map_cons,List.filter_cons];simp only[decide_true,Bool.not_true,Bool.false_eq_true,if_false];refine List.filter_eq_self.2 λy hy=>?_;obtain⟨i,hi,rfl⟩:=List.mem_map.1 hy;have:=Fb hi;have h:¬((i:Int)=(j:Int)):=by omega
 simp[h]
theorem Yf(i:Nat):lB (A i) (bM nd k A i)=true:=by simp[lB,bM]
theorem P6(hp:g.bq=bP nd k A n j)(ht:∀i,(A i).to=i):lC g (((List.range n).drop j).map A)=g:=by
 refine S3 (λy hy=>?_) λm hm=>?_
 ·rw[hp]at hy;obtain⟨i,hi,rfl⟩:=List.mem_map.1 hy;exact List.any_eq_true.2 ⟨A i,List.mem_map.2 ⟨i,hi,rfl⟩,Yf i⟩
 ·obtain⟨i,hi,rfl⟩:=List.mem_map.1 hm;rw[hp];exact List.any_eq_true.2 ⟨((i:Int),bM nd k A i),List.mem_map.2 ⟨i,hi,rfl⟩,by rw[ht];simp⟩
theorem Yg(hp:∀y∈g.bq,∀i,i<n->lB (A i) y.2=false)(ho:g.out=[])(ht:∀i,(A i).to=i):
 lC g ((List.range n).map A)={g with num:=g.num+n,bq:=bP g.node g.num A n 0,out:=(List.range n).map (bM g.node g.num A)}:=by
 refine(KB (λy hy=>?_) ?_).trans ?_
 ·refine List.any_eq_false.2 λx hx=>?_;obtain⟨i,hi,rfl⟩:=List.mem_map.1 hx;rw[hp y hy i (List.mem_range.1 hi)];decide
 ·rw[List.map_map];have:(λm:MS=>m.to)∘A=λi:Nat=>(i:Int):=funext λi=>ht i;rw[this];exact List.pairwise_map.2 (List.Pairwise.imp (R:=λa b:Nat=>a≠b) (S:=λa b:Nat=>(a:Int)≠(b:Int)) (λ{a b} h e=>h (by omega)) List.nodup_range)
 ·rw[NS,ho,List.length_map,List.length_range]
  have:((List.range n).map (bM g.node g.num A)).map (λm=>(m.to,m))=bP g.node g.num A n 0:=by
   unfold bP;rw[List.map_map,List.drop_zero];refine List.map_congr_left λi _=>?_;show((A i).to,_)=_;rw[ht]
  rw[this];rfl
theorem Yh{r:MS}(hj:j<n)(hp:g.bq=bP nd k A n j)(hf:r.fr=j)(ha:dM r (bM nd k A j)=true):mw g r=true:=by
 unfold mw;rw[hp,hf,abr hj];exact ha
end
theorem afP{n:Nat}(h:1<=n/\n<=4):mT (p1 n)=uL n:=by
 unfold mT
 have:(p1 n).ch.flatten=uL n:=by
  show(fG n 1).flatten=_;rw[GU h];simp
 rw[this];refine List.mergeSort_of_pairwise ?_;rcases CU h with rfl|rfl|rfl|rfl<;>decide
def my(s:Nat)(i:Nat):MS:={gS with to:=(i:Int),kind:=3,ep:=1,at':=(s:Int)}
def P7(n j:Nat):List Int:=((List.range n).drop j).map λ(i:Nat)=>(i:Int)
theorem P8{n j:Nat}:P7 n j=[]↔n<=j:=by
 unfold P7;rw[List.map_eq_nil_iff,List.drop_eq_nil_iff,List.length_range]
theorem NT{g:eA}{m:MS}{a':cg}(ha:g.dH=none)(hs:g.aZ.step=3)(he:m.err=0):fx g m a'={g with aZ:={g.aZ with left:=g.aZ.left.filter λu=> !decide (u=m.fr)}}:=by
 unfold fx;rw[ha];dsimp only;rw[aq (by rw[hs];decide),aB hs];unfold jN;rw[aB he];cases g;dsimp only at ha;subst ha;rfl
theorem NU{n j:Nat}(hj:j<n):((P7 n j).filter λu=> !decide (u=(j:Int)))=P7 n (j+1):=by
 unfold P7;rw[lU hj,List.map_cons,List.filter_cons];simp only[decide_true,Bool.not_true,Bool.false_eq_true,if_false];refine List.filter_eq_self.2 λy hy=>?_;obtain⟨i,hi,rfl⟩:=List.mem_map.1 hy;have:=Fb hi;have h:¬((i:Int)=(j:Int)):=by omega
 simp[h]
section
variable {n s j:Nat}{g g1 g2:eA}{w w1 w2:nr}{L:List cj}{low wA:Int}{P k:Nat}
structure TmS(n s j:Nat)(g:eA):Prop where
 b:g.busy=true
 dH:g.dH=none
 aQ:g.aQ=p1 n
 st:g.aZ.step=3
 at':g.aZ.at'=s
 left:g.aZ.left=P7 n j
 num:0<=g.num/\g.num<=2000000000000000
 a:zX g
theorem TmS.pre(h:TmS n s j g):io g/\fb FQ g=ko g:=by
 constructor
 ·unfold io;rw[h.dH];dsimp only;rw[aq (by rw[h.st];decide),aq (by rw[h.st];decide),aq (by rw[h.st];decide)];trivial
 ·unfold fb;rw[h.dH];dsimp only;rw[aq (by rw[h.st];decide),aq (by rw[h.st];decide),aq (by rw[h.st];decide)]
theorem TmS.asks(h:TmS n s j g)(hj:j<n):fb FQ g=(g,some (((List.range n).drop j).map (my s))):=by
 rw[h.pre.2];unfold ko;rw[aq (by rw[h.left,P8];omega),h.left];unfold P7;rw[List.map_map];refine Prod.ext rfl (congrArg some (List.map_congr_left λi _=>?_));simp only[Function.comp,h.aQ,h.at'];rfl
def Yi(g:eA)(n j:Nat):eA:=if j<n then{g with num:=g.num+n,bq:=bP g.node g.num (my g.aZ.at'.toNat) n j,out:=[],aZ:={g.aZ with left:=P7 n j}}else tR {g with num:=g.num+n} {}
theorem Yj(hn:1<=n/\n<=4)(hP:P<2000)(hw:tT n L low wA P L.length w)(hs:low<=s/\s<=1000000/\0<=low)(h:TmS n s 0 g)(hp:g.bq=[])(ho:g.out=[])(hb:g.num<=1000000000000000):
 ∃gg w2,(∀f,gf (f+1) g gg)/\tT n L s wA (P+1) L.length w2/\eO (I:=iN) 1 w gg w2 (tR {g with num:=g.num+n} {}):=by
 have pV:g.aZ.at'.toNat=s:=by rw[h.at',Int.toNat_natCast]
 have ht:∀i,(my s i).to=i:=λ_=>rfl;have e0:lC g ((List.range n).map (my s))={g with num:=g.num+n,bq:=bP g.node g.num (my s) n 0,out:=(List.range n).map (bM g.node g.num (my s))}:=Yg (λy hy=>by rw[hp]at hy;cases hy) ho ht;have ha:=h.asks (by omega);rw[List.drop_zero]at ha;refine⟨{g with num:=g.num+n,bq:=bP g.node g.num (my s) n 0,out:=(List.range n).map (bM g.node g.num (my s))},?_⟩
 have go1:∀f,gf (f+1) g {g with num:=g.num+n,bq:=bP g.node g.num (my s) n 0,out:=(List.range n).map (bM g.node g.num (my s))}:=λf=>by
  rw[<-e0];refine .YS h.b h.pre.1 ha ⟨λm hm=>?_,by rw[hp];simp;omega,by rw[ho];simp;omega,by have:=h.num;simp;omega⟩;obtain⟨i,_,rfl⟩:=List.mem_map.1 hm;exact⟨Nat.zero_le _,Nat.zero_le _⟩
 have run:=E3 (X:=λw2 g2=>tT n L s wA (P+1) L.length w2/\g2=tR {g with num:=g.num+n} {}) (k:=0) (w:=w) (g:={g with num:=g.num+n,bq:=bP g.node g.num (my s) n 0,out:=(List.range n).map (bM g.node g.num (my s))})
  (P:=US 1 (some ⟨1,wA,1,wA,vL n⟩) L low P) (Q:=US 1 (some ⟨1,wA,1,wA,vL n⟩) L s (P+1)) (ms:=bM g.node g.num (my s)) (G:=Yi g n) (n:=n) (λj _=>ht j) ?_ (by omega) hw.len hw.us ?_ rfl ?_
 ·obtain⟨w2,g2,r,x,rfl⟩:=run;exact⟨w2,go1,x,r⟩
 ·intro j hj u hu;obtain⟨u',mq,h1,h2⟩:=abk (m:=bM g.node g.num (my s) j) hu hP hs.1 hs.2.1 hs.2.2 rfl rfl rfl rfl;refine⟨_,u',mq,h1,h2,?_⟩;have eG:Yi g n j={g with num:=g.num+n,bq:=bP g.node g.num (my s) n j,out:=[],aZ:={g.aZ with left:=P7 n j}}:=by unfold Yi;rw[aB hj,pV]
  let h':eA:={g with num:=g.num+n,bq:=bP g.node g.num (my s) n (j+1),out:=[],aZ:={g.aZ with left:=P7 n (j+1)}}
  have hT:TmS n s (j+1) h':=⟨h.b,h.dH,h.aQ,h.st,h.at',rfl,by show 0<=g.num+(n:Int)/\g.num+(n:Int)<=_;have:=h.num;omega,⟨h.a.a,h.a.b,h.a.n⟩⟩;rw[eG];refine XW ⟨Nat.zero_le _,Nat.zero_le _⟩ h.dH ⟨h.a.a,h.a.b,h.a.n⟩ (Yh hj rfl rfl (tM (m:=bM _ _ _ _) rfl).2) (λ_ h3=>absurd h.st h3) ?_
  have et:fx {({g with num:=g.num+n,bq:=bP g.node g.num (my s) n j,out:=[],aZ:={g.aZ with left:=P7 n j}}:eA)with bq:=iw (bP g.node g.num (my s) n j) (xy (bM g.node g.num (my s) j) s).fr} (xy (bM g.node g.num (my s) j) s) vf=h':=by
   refine(NT (g:={g with num:=g.num+n,bq:=iw (bP g.node g.num (my s) n j) (xy (bM g.node g.num (my s) j) s).fr,out:=[],aZ:={g.aZ with left:=P7 n j}}) h.dH h.st rfl).trans ?_;show({g with num:=g.num+n,bq:=iw (bP g.node g.num (my s) n j) (j:Int),out:=[],aZ:={g.aZ with left:=(P7 n j).filter λu=> !decide (u=(j:Int))}}:eA)=h';rw[P5 hj,NU hj]
  rw[et]
  by_cases yx:j+1<n
  ·have e1:Yi g n (j+1)=h':=by unfold Yi;rw[aB yx,pV]
   have e2:lC h' (((List.range n).drop (j+1)).map (my s))=h':=P6 rfl ht;rw[e1];have:=gf.YS (n:=8) hT.b hT.pre.1 (hT.asks yx) (WOk.mk (λm hm=>?_) ?_ ?_ ?_)
   ·rw[e2]at this;exact this
   ·obtain⟨i,_,rfl⟩:=List.mem_map.1 hm;exact⟨Nat.zero_le _,Nat.zero_le _⟩
   ·show(bP g.node g.num (my s) n (j+1)).length+_<=_;unfold bP;simp;omega
   ·show 0+_<=_;simp;omega
   ·have:=hT.num;simp;omega
  ·obtain rfl:j+1=n:=by omega
   have e1:Yi g (j+1) (j+1)=tR h' {}:=by unfold Yi;rw[aq (by omega)];rfl
   rw[e1];refine .go hT.b hT.pre.1 ?_ (.stop rfl);rw[hT.pre.2];unfold ko;rw[aB (show P7 (j+1) (j+1)=[]from P8.2 (Nat.le_refl _))]
 ·unfold Yi;rw[aB (by omega),pV];have hl:=h.left;unfold nf;show({g with num:=g.num+n,bq:=bP g.node g.num (my s) n 0,out:=[]}:eA)=_;rw[<-hl]
 ·intro w1 h1 h2 h3 h4;refine⟨w1,Yi g n n,.done ?_,⟨h1,h2,by rw[h3];exact hw.e,by rw[h3];exact hw.nn,by rw[h3];exact hw.f,by rw[h4];exact hw.aQ⟩,?_⟩
  ·unfold Yi;rw[aq (by omega)];rfl
  ·unfold Yi;rw[aq (by omega)]
end
def DO(j:Nat):Nat->Bool:=λu=>decide (u<j)
theorem GV(j:Nat):fh (DO j) j true=DO (j+1):=funext λu=>by
 unfold fh DO
 by_cases h:u=j
 ·rw[aB h];simp;omega
 ·rw[aq h,decide_eq_decide];omega
theorem fil:∀n<5,∀j<6,j<=n->((List.range 7).filter λ(u:Nat)=>decide (u<n)&& !decide (u<j))=(List.range n).drop j:=by decide
def xA(i:Nat):MS:={gS with to:=(i:Int),kind:=4,ep:=1}
def KH(cS:Int)(i:Nat):MS:={gS with to:=(i:Int),kind:=6,ep:=1,at':=1,br:=1,bw:=cS}
def abs(cS:Int)(v:ax)(i:Nat):MS:={gS with to:=(i:Int),kind:=7,ep:=1,at':=1,br:=1,bw:=cS,val:=v}
def s1(n:Nat)(cS:Int)(j:Nat):cg:=⟨p0 n,n,cS,1,DO j,DO j,[],none,⟨0,[]⟩,0⟩
def qw(n:Nat)(cS:Int)(v:ax)(ph:Int)(x:BA)(j:Nat):lq:=⟨n,1,cS,v,ph,(List.range j).map λ(i:Nat)=>((i:Int),x),j⟩
def s2(n:Nat)(cS:Int)(v:ax)(p:lq):cg:=⟨p0 n,n,cS,2,DO n,DO n,v,some p,⟨0,[]⟩,0⟩
def s3(n:Nat)(cS:Int)(v:ax)(p:lq)(j:Nat)(tl:Int):cg:=⟨p0 n,n,cS,3,DO j,DO n,v,some p,p1 n,tl⟩
theorem Yk{n:Nat}{cS:Int}{v:ax}{p:lq}:¬(s2 n cS v p).st=1:=show ¬(2:Int)=1 by decide
theorem Qa{n j:Nat}{cS tl:Int}{v:ax}{p:lq}:¬(s3 n cS v p j tl).st=1/\¬(s3 n cS v p j tl).st=2:=show ¬(3:Int)=1/\¬(3:Int)=2 by decide
theorem GW{g:cg}{p:lq}(h:p.phase=1\/p.phase=2):n8 g p={g with prop:=some p}:=by
 unfold n8;rw[aq (by omega),aq (by omega)]
theorem Ta{g:cg}{p:lq}(h:p.phase=3):n8 g p=if(dZ p.val).2≠0\/(dZ p.val).1.ep≠g.old.ep+1 then{g with prop:=some p,st:=6}else{g with prop:=some p,aQ:=(dZ p.val).1,st:=3,bV:=λ_=>false}:=by
 unfold n8;rw[aq (by omega),aB h]
section
variable {n j:Nat}{cS tl:Int}{v:ax}{x:BA}{p:lq}{r:MS}
theorem GX{g:cg}{A:Nat->MS}(hn:n<=4)(hj:j<=n)(h4:g.st≠4)(ha:∀u:Nat,iH g u=(decide (u<n)&& !decide (u<j)))(hA:∀u,iI g u=A u):dF g=((List.range n).drop j).map A:=by
 unfold dF;rw[aq h4,show iH g=λu=>(decide (u<n)&& !decide (u<j))from funext ha,fil n (by omega) j (by omega) hj];exact List.map_congr_left λu _=>hA u
theorem Qb(hn:n<=4)(hj:j<=n):dF (s1 n cS j)=((List.range n).drop j).map xA:=
 GX hn hj (by show(1:Int)≠4;decide) (λu=>by
  unfold iH;rw[aB (show(s1 n cS j).st=1 from rfl)];show(decide ((u:Int)<(n:Int))&& !decide (u<j))=_;rw[show decide ((u:Int)<(n:Int))=decide (u<n)from decide_eq_decide.2 (by omega)]) λu=>rfl
theorem CZ(u:Nat):hasB ((List.range j).map λ(i:Nat)=>((i:Int),x)) u=decide (u<j):=by
 unfold hasB;rw[decide_eq_decide,List.map_map,List.mem_map];constructor
 ·rintro⟨i,hi,e⟩;have:(i:Int)=u:=e;have:=List.mem_range.1 hi;omega
 ·intro h;exact⟨u,List.mem_range.2 h,rfl⟩
theorem Fc{ph:Int}(hn:n<=4)(hj:j<=n)(hp:ph=1\/ph=2):dF (s2 n cS v (qw n cS v ph x j))=((List.range n).drop j).map (if ph=2 then abs cS v else KH cS):=
 GX hn hj (by show(2:Int)≠4;decide) (λu=>by
  unfold iH;rw[aq Yk,aB (show(s2 n cS v (qw n cS v ph x j)).st=2 from rfl)];show jh (qw n cS v ph x j) u=_;unfold jh;rw[show hasB (qw n cS v ph x j).bH u=decide (u<j)from CZ u];rw[show decide (((qw n cS v ph x j).phase=1\/(qw n cS v ph x j).phase=2)/\0<=(u:Int)/\(u:Int)<(qw n cS v ph x j).acc)=decide (u<n)from decide_eq_decide.2 ⟨λh=>by have:(u:Int)<n:=h.2.2;omega,λh=>⟨hp,by omega,by show(u:Int)<n;omega⟩⟩]) λu=>by
  unfold iI;rw[aB (show(s2 n cS v (qw n cS v ph x j)).st=2 from rfl)];show(⟨0,u,0,false,if ph=2 then 7 else 6,1,1,zC,1,cS,if ph=2 then v else[],0,0,0,0⟩:MS)=_;split<;>rfl
theorem Yl(hn:1<=n/\n<=4)(u:Nat):p8 (p1 n) u=decide (u<n):=by
 unfold p8;rw[show(p1 n).ch=[uL n]from GU hn,List.any_cons,List.any_nil,Bool.or_false,decide_eq_decide];unfold uL;rw[List.mem_map];constructor
 ·rintro⟨i,hi,e⟩;have:=List.mem_range.1 hi;omega
 ·intro h;exact⟨u,List.mem_range.2 h,rfl⟩
theorem Qc(hn:1<=n/\n<=4)(hj:j<=n):dF (s3 n cS v p j tl)=((List.range n).drop j).map xA:=
 GX hn.2 hj (by show(3:Int)≠4;decide) (λu=>by
  unfold iH;rw[aq Qa.1,aq Qa.2,aB (show(s3 n cS v p j tl).st=3 from rfl)];show(!decide (u<j)&&p8 (p1 n) u)=_;rw[Yl hn,Bool.and_comm]) λu=>rfl
theorem GY{g:cg}{A:Nat->MS}(hj:j<n)(ha:dF g=((List.range n).drop j).map A)(h:(A j).to=r.fr/\(A j).kind=r.kind/\(A j).ep=r.ep/\(A j).at'=r.at'):Cn g r=true:=by
 unfold Cn;rw[ha,lU hj,List.map_cons,List.any_cons];unfold Cm;rw[h.1,h.2.1,h.2.2.1,h.2.2.2];simp
theorem aoT(hn:1<=n/\n<=4):wX (s1 n cS n)=s2 n cS (vL n) (qw n cS (vL n) 1 x 0):=by
 have ht:iJ (s1 n cS n)=uL n:=by
  unfold iJ uL
  have:(List.range 7).filter (s1 n cS n).there=List.range n:=by
   show(List.range 7).filter (DO n)=List.range n;rcases CU hn with rfl|rfl|rfl|rfl<;>decide
  rw[this]
 have ZO:iQ (s1 n cS n).old (uL n)=(p1 n,0):=by
  show iQ (p0 n) (uL n)=_;rcases CU hn with rfl|rfl|rfl|rfl<;>rfl
 have ho:qj (s1 n cS n)=vL n:=by
  unfold qj;rw[ht,ZO];rfl
 have hm:max (n:Int) 1=n:=by omega
 unfold wX;rw[ho];show(⟨p0 n,n,cS,2,DO n,DO n,vL n,some (o9 n 1 cS (vL n)),⟨0,[]⟩,0⟩:cg)=_;unfold o9;rw[hm];rfl
theorem aoU(hn:1<=n/\n<=4)(hj:j<n)(hr:r.bV=true/\r.fr=j/\r.kind=4/\r.ep=1/\r.at'=0/\r.err=0):xv (s1 n cS j) r=some (if j+1<n then s1 n cS (j+1)else s2 n cS (vL n) (qw n cS (vL n) 1 x 0)):=by
 obtain⟨h1,h2,h3,h4,h5,h6⟩:=hr;unfold xv;rw[aB ⟨h1,GY hj (Qb hn.2 (by omega)) ⟨h2.symm,h3.symm,h4.symm,h5.symm⟩⟩,aB (show(s1 n cS j).st=1 from rfl),h2,h6,Int.toNat_natCast]
 have e:({s1 n cS j with bV:=fh (s1 n cS j).bV j true,there:=fh (s1 n cS j).there j (decide ((0:Int)=0))}:cg)=s1 n cS (j+1):=by
  show(⟨p0 n,n,cS,1,fh (DO j) j true,fh (DO j) j true,[],none,⟨0,[]⟩,0⟩:cg)=_;rw[GV];rfl
 unfold wY;rw[e,Qb hn.2 (by omega)]
 by_cases h:j+1<n
 ·rw[aB h,aq (by rw[lU h];simp)]
 ·obtain rfl:j+1=n:=by omega
  rw[aq h,aB (by rw[List.drop_eq_nil_of_le (by simp)];rfl),aoT hn]
def Fd(n:Nat):Nat:=n / 2+1
theorem adf(hn:1<=n/\n<=4)(hj:j<Fd n):wD (n:Int) ((j:Int)+1)=decide (j+1=Fd n):=by
 unfold wD Fd at*;rw[decide_eq_decide];rcases CU hn with rfl|rfl|rfl|rfl<;>simp at hj⊢ <;>omega
theorem KI{ph:Int}(hx:x.ok=true):dJ (qw n cS v ph x j) j x=(qw n cS v ph x (j+1),wD n ((j:Int)+1)):=by
 unfold dJ;rw[aB hx];refine Prod.ext ?_ rfl;show(⟨n,1,cS,v,ph,((List.range j).map λ(i:Nat)=>((i:Int),x))++[((j:Int),x)],(j:Int)+1⟩:lq)=_;unfold qw;rw[List.range_succ,List.map_append,show((j+1:Nat):Int)=(j:Int)+1 by omega];rfl
theorem Fe{ph:Int}(hp:ph=1\/ph=2)(hj:j<n):jh (qw n cS v ph x j) j=true:=by
 unfold jh;rw[show hasB (qw n cS v ph x j).bH j=decide (j<j)from CZ j];simp only[Nat.lt_irrefl,decide_false,Bool.not_false,Bool.and_true,decide_eq_true_eq];exact⟨hp,by omega,by show(j:Int)<n;omega⟩
theorem abt{L:List (Int×BA)}:∀ {i k:Int} {y:uh},dW L i k=some y->∃z∈L,∃t,y=z.2.at_ t:=by
 induction L with
 |nil=>intro i k y h;cases h
 |cons z l ih=>
  intro i k y h;unfold dW at h;split at h
  ·cases h;exact⟨z,by simp,i,rfl⟩
  ·obtain⟨z',h1,h2⟩:=ih h;exact⟨z',by simp[h1],h2⟩
theorem Ym{m:Nat}(hx:x.val=v\/(x.r=0/\x.w=0)):XU ((List.range m).map λ(i:Nat)=>((i:Int),x)) v=some v:=by
 have hs:∀y∈(CO ((List.range m).map λ(i:Nat)=>((i:Int),x))).filter CP,y.r=x.r/\y.w=x.w/\y.val=v:=λy hy=>by
  obtain⟨h1,h2⟩:=List.mem_filter.1 hy;obtain⟨k,hk⟩:=EZ.1 h1;obtain⟨z,hz,t,rfl⟩:=abt hk;obtain⟨i,_,rfl⟩:=List.mem_map.1 hz;refine⟨rfl,rfl,hx.elim id λh=>?_⟩;exact absurd h (E0.1 h2).2
 unfold XU;generalize (CO ((List.range m).map λ(i:Nat)=>((i:Int),x))).filter CP=C at hs;cases C with
 |nil=>rfl
 |cons c l=>
  have hf:((c::l).filter λy=>(c::l).all λz=> !zJ y z)=c::l:=List.filter_eq_self.2 λy hy=>List.all_eq_true.2 λz hz=>by
   have h1:=hs y hy;have h2:=hs z hz;unfold zJ;rw[h1.1,h1.2.1,h2.1,h2.2.1];simp
  dsimp only;rw[hf];dsimp only;rw[aB (List.all_eq_true.2 λy hy=>decide_eq_true (by rw[(hs y (by simp[hy])).2.2,(hs c (by simp)).2.2])),(hs c (by simp)).2.2]
theorem aoV(hn:1<=n/\n<=4)(hj:j<Fd n)(hx:x.ok=true)(hv:x.val=v\/(x.r=0/\x.w=0))(hr:r.bV=true/\r.fr=j/\r.kind=6/\r.ep=1/\r.at'=1/\r.err=0)(hb:(⟨true,r.br,r.bw,r.val⟩:BA)=x){y:BA}:
 xv (s2 n cS v (qw n cS v 1 x j)) r=some (s2 n cS v (if j+1<Fd n then qw n cS v 1 x (j+1)else qw n cS v 2 y 0)):=by
 obtain⟨h1,h2,h3,h4,h5,h6⟩:=hr;have Af:j<n:=by unfold Fd at hj;omega
 unfold xv;rw[aB ⟨h1,GY Af (Fc hn.2 (by omega) (.inl rfl)) ⟨h2.symm,h3.symm,h4.symm,h5.symm⟩⟩,aq Yk,aB (show(s2 n cS v (qw n cS v 1 x j)).st=2 from rfl)];show Option.map _ (if r.kind=6 then KA (qw n cS v 1 x j) r.fr r.br r.bw r.val r.err else _)=_;rw[aB h3,h2,h6];have ep:nJ r.br r.bw r.val 0=x:=by unfold nJ;rw[aB rfl];exact hb
 unfold KA;rw[aB ⟨rfl,Fe (.inl rfl) Af⟩,ep,KI hx];dsimp only;rw[adf hn hj]
 by_cases h:j+1<Fd n
 ·rw[aq (by simp;omega),aB h];show some (n8 _ _)=_;exact congrArg some (GW (.inl rfl))
 ·rw[aB (by simp;omega),aq h,show(qw n cS v 1 x (j+1)).bH=(List.range (j+1)).map λ(i:Nat)=>((i:Int),x)from rfl,show(qw n cS v 1 x j).val=v from rfl,Ym hv];show some (n8 _ _)=_;exact congrArg some (GW (.inr rfl))
theorem aoW(hn:1<=n/\n<=4)(hj:j<Fd n)(hv:v=vL n)(hr:r.bV=true/\r.fr=j/\r.kind=7/\r.ep=1/\r.at'=1/\r.err=0):
 xv (s2 n cS v (qw n cS v 2 ⟨true,0,0,[]⟩ j)) r=some (if j+1<Fd n then s2 n cS v (qw n cS v 2 ⟨true,0,0,[]⟩ (j+1))else s3 n cS v (qw n cS v 3 ⟨true,0,0,[]⟩ (Fd n)) 0 0):=by
 obtain⟨h1,h2,h3,h4,h5,h6⟩:=hr;have Af:j<n:=by unfold Fd at hj;omega
 unfold xv;rw[aB ⟨h1,GY Af (Fc hn.2 (by omega) (.inr rfl)) ⟨h2.symm,h3.symm,h4.symm,h5.symm⟩⟩,aq Yk,aB (show(s2 n cS v (qw n cS v 2 ⟨true,0,0,[]⟩ j)).st=2 from rfl)];show Option.map _ (if r.kind=6 then _ else some (Dw (qw n cS v 2 ⟨true,0,0,[]⟩ j) r.fr r.err))=_;rw[aq (by omega),h2,h6];unfold Dw;rw[aB ⟨rfl,Fe (.inr rfl) Af⟩,show(⟨decide ((0:Int)=0),0,0,[]⟩:BA)=⟨true,0,0,[]⟩from rfl,KI rfl];dsimp only;rw[adf hn hj]
 by_cases h:j+1<Fd n
 ·rw[aq (by simp;omega),aB h];show some (n8 _ _)=_;exact congrArg some (GW (.inr rfl))
 ·have e:j+1=Fd n:=by omega
  rw[aB (by simp;omega),aq h,e];show some (n8 _ _)=_;have hd:dZ v=(p1 n,0):=by rw[hv];exact VF (CV hn).1
  rw[Ta rfl];show some (if(dZ v).2≠0\/(dZ v).1.ep≠(0:Int)+1 then _ else _)=_;rw[hd,aq (by rintro(h|h);exact h rfl;exact h rfl)];show some (⟨p0 n,n,cS,3,λ_=>false,DO n,v,some (qw n cS v 3 ⟨true,0,0,[]⟩ (Fd n)),(dZ v).1,0⟩:cg)=_;rw[hd,show(λ_=>false:Nat->Bool)=DO 0 from funext λu=>(decide_eq_false (by omega)).symm];rfl
theorem aoX(hn:1<=n/\n<=4)(hj:j<n)(hr:r.bV=true/\r.fr=j/\r.kind=4/\r.ep=1/\r.at'=0/\r.err=0){T:Int}(ht:max (max tl r.tail) r.low=T):
 xv (s3 n cS v p j tl) r=some (if j+1<n then s3 n cS v p (j+1) T else{s3 n cS v p (j+1) T with st:=4}):=by
 obtain⟨h1,h2,h3,h4,h5,h6⟩:=hr;unfold xv;rw[aB ⟨h1,GY hj (Qc hn (by omega)) ⟨h2.symm,h3.symm,h4.symm,h5.symm⟩⟩,aq Qa.1,aq Qa.2,aB (show(s3 n cS v p j tl).st=3 from rfl),h2,Int.toNat_natCast]
 have e:({s3 n cS v p j tl with tail:=max (max (s3 n cS v p j tl).tail r.tail) r.low,bV:=fh (s3 n cS v p j tl).bV j true}:cg)=s3 n cS v p (j+1) T:=by
  show(⟨p0 n,n,cS,3,fh (DO j) j true,DO n,v,some p,p1 n,max (max tl r.tail) r.low⟩:cg)=_;rw[GV,ht];rfl
 have e2:({s3 n cS v p j tl with tail:=max (max (s3 n cS v p j tl).tail r.tail) r.low,bV:=fh (s3 n cS v p j tl).bV j true,st:=4}:cg)={s3 n cS v p (j+1) T with st:=4}:=by
  show(⟨p0 n,n,cS,4,fh (DO j) j true,DO n,v,some p,p1 n,max (max tl r.tail) r.low⟩:cg)=_;rw[GV,ht];rfl
 unfold rj;rw[aB h6,e,e2,Qc hn (by omega)]
 by_cases h:j+1<n
 ·rw[aB h,aq (by rw[lU h];simp)]
 ·rw[aq h,aB (by rw[List.drop_eq_nil_of_le (by simp;omega)];rfl)]
theorem akc(hn:1<=n/\n<=4):mO (s1 n cS j):=
 ⟨⟨by show(0:Int)<=0;decide,by show(0:Int)<=_;decide,λh=>absurd (show(1:Int)=2 from h) (by decide),λs h=>by cases h⟩,λ_=>(CV hn).2,by show(n:Int)<=10000;omega,Nat.zero_le _,λs h=>by cases h⟩
theorem adg{ph:Int}(hv:v.length<=1000)(hx:x.val.length<=1000)(hj:j<=10):Ck (qw n cS v ph x j)/\(qw n cS v ph x j).bH.length<=99999:=by
 have hl:(qw n cS v ph x j).bH.length=j:=by show((List.range j).map _).length=j;simp
 refine⟨⟨by omega,λy hy=>?_,by show v.length<=_;omega,by show(0:Int)<=1/\(1:Int)<=_;decide⟩,by omega⟩;obtain⟨i,_,rfl⟩:=List.mem_map.1 hy;show x.val.length<=_;omega
theorem adh{ph:Int}(hn:1<=n/\n<=4)(hv:v.length<=1000)(hx:x.val.length<=1000)(hj:j<=10):mO (s2 n cS v (qw n cS v ph x j)):=
 ⟨⟨by show(0:Int)<=0;decide,by show(0:Int)<=_;decide,λ_=>rfl,λs h=>by cases h;show v.length<=_;omega⟩,λh=>absurd (show(2:Int)=1 from h) (by decide),by show(n:Int)<=10000;omega,by show v.length<=_;omega,λs h=>by cases h;exact adg hv hx hj⟩
theorem adi{ph:Int}{k:Nat}{st:Int}(h34:st=3\/st=4)(hn:1<=n/\n<=4)(hv:v.length<=1000)(hx:x.val.length<=1000)(hj:j<=10):mO {s3 n cS v (qw n cS v ph x j) k tl with st:=st}:=
 ⟨⟨by show(0:Int)<=0;decide,by show(0:Int)<=_;decide,λ_=>rfl,λs h=>by cases h;show v.length<=_;omega⟩,λh=>by have:st=1:=h;omega,by show(n:Int)<=10000;omega,by show v.length<=_;omega,λs h=>by cases h;exact adg hv hx hj⟩
end
def cA(g:eA)(a:cg)(k:Int)(pd:List (Int×MS))(o:List MS):eA:={g with ga:=g.ga+1,Cr:=0,dH:=some a,num:=k,bq:=pd,out:=o}
def cB(g:eA)(a:cg)(k:Int)(A:Nat->MS)(n:Nat):eA:=cA g a (k+n) (bP g.node k A n 0) ((List.range n).map (bM g.node k A))
section
variable {n sw kk f j:Nat}{g GN:eA}{a aN:cg}{k k0:Int}{A:Nat->MS}{st:Nat->cg}{pd:List (Int×MS)}{o:List MS}{w:nr}
theorem C0(hT:mO a)(h5:a.st≠5/\a.st≠6):io (cA g a k pd o)/\fb FQ (cA g a k pd o)=(cA g a k pd o,some (dF a)):=by
 constructor
 ·show(a.st≠5->a.st≠6->ri a)/\(a.st=5->g.aZ.step≠3);exact⟨λ_ _=>hT.s,λh=>absurd h h5.1⟩
 ·show eJ _ a=_;unfold eJ;rw[aq h5.1,aq h5.2]
theorem Av(hb:g.busy=true)(hT:mO a)(h5:a.st≠5/\a.st≠6)(hn:n<=4)(hk:0<=k/\k<=2000000000000000)(hA:dF a=(List.range n).map A)(hp:∀y∈pd,∀i,i<n->lB (A i) y.2=false)(hl:pd.length<=100)(ht:∀i,(A i).to=i)(hs:∀i,(A i).small):
 gf (f+1) (cA g a k pd []) (cB g a k A n):=by
 obtain⟨q1,q2⟩:=C0 (g:=g) (k:=k) (pd:=pd) (o:=[]) hT h5;rw[hA]at q2;have e:lC (cA g a k pd []) ((List.range n).map A)=cB g a k A n:=Yg (g:=cA g a k pd []) hp rfl ht;rw[<-e];refine .YS hb q1 q2 ⟨λm hm=>?_,by rw[List.length_map,List.length_range];show pd.length+n<=_;omega,by rw[List.length_map,List.length_range];show 0+n<=_;omega,by rw[List.length_map,List.length_range];show 0<=k/\k+(n:Int)<=_;omega⟩;obtain⟨i,_,rfl⟩:=List.mem_map.1 hm;exact hs i
theorem Yn(hb:g.busy=true)(hT:mO a)(h5:a.st≠5/\a.st≠6)(hn:n<=4)(hk:0<=k/\k<=2000000000000000)(hA:dF a=((List.range n).drop j).map A)(ht:∀i,(A i).to=i)(hs:∀i,(A i).small):
 gf (f+1) (cA g a k (bP g.node k0 A n j) []) (cA g a k (bP g.node k0 A n j) []):=by
 obtain⟨q1,q2⟩:=C0 (g:=g) (k:=k) (pd:=bP g.node k0 A n j) (o:=[]) hT h5;rw[hA]at q2;have e:lC (cA g a k (bP g.node k0 A n j) []) (((List.range n).drop j).map A)=cA g a k (bP g.node k0 A n j) []:=P6 (g:=cA g a k (bP g.node k0 A n j) []) rfl ht;have:=gf.YS (g:=cA g a k (bP g.node k0 A n j) []) (n:=f) hb q1 q2 ⟨λm hm=>?_,?_,?_,?_⟩
 ·rw[e]at this;exact this
 ·obtain⟨i,_,rfl⟩:=List.mem_map.1 hm;exact hs i
 ·show(bP g.node k0 A n j).length+_<=_;unfold bP;simp;omega
 ·show 0+_<=_;simp;omega
 ·show 0<=k/\k+_<=_;simp;omega
theorem phase{X:nr->eA->Prop}{P Q:UnS->Prop}(hn:1<=n/\n<=4)(hsw:1<=sw/\sw<=n)(hb:g.busy=true)(hk:0<=k/\k<=1000000000000000)(ht:∀i,(A i).to=i)(hs:∀i,(A i).small)
 (hT:∀j,j<sw->mO (st j)) (h5:∀j,j<sw->(st j).st≠5/\(st j).st≠6) (hA:∀j,j<sw->dF (st j)=((List.range n).drop j).map A) (hG:gf 9 (cA g aN (k+n) (bP g.node k A n sw) []) GN)
 (step:∀j,j<n->∀u,P u->∃r u' mq,bQ 2000 u.1 u.2 (bM g.node k A j)=(true,r,u',mq)/\Q (u',mq)/\(r.fr=j/\dM r (bM g.node k A j)=true)/\(r.cell.data.length<=1000000/\r.val.length<=1000000)/\(j<sw->xv (st j) r=some (if j+1<sw then st (j+1)else aN))/\(sw<=j->mw GN r=false))
 (hl:w.us.length=n) (hu:∀u∈w.us,P u) (rest:∀w1,w1.us.length=n->(∀u∈w1.us,Q u)->w1.sq=w.sq->w1.aQ=w.aQ->∃w2 g2,eO (I:=iN) kk w1 GN w2 g2/\X w2 g2):
 ∃w2 g2,eO (I:=iN) (kk+1) w (cB g (st 0) k A n) w2 g2/\X w2 g2:=by
 refine E3 (P:=P) (Q:=Q) (ms:=bM g.node k A) (G:=λj=>if j<sw then cA g (st j) (k+n) (bP g.node k A n j) []else GN) (n:=n) (λj _=>ht j) ?_ (by omega) hl hu ?_ rfl ?_
 ·intro j hj u hu;obtain⟨r,u',mq,h1,h2,h3,h4,h6,h7⟩:=step j hj u hu;refine⟨r,u',mq,h1,h2,?_⟩;dsimp only
  by_cases h:j<sw
  ·rw[aB h];refine XX h4 rfl (Yh hj rfl h3.1 h3.2) (hT j h) (h6 h) ?_;show gf 9 (cA g (if j+1<sw then st (j+1)else aN) (k+n) (iw (bP g.node k A n j) r.fr) []) _;rw[h3.1,P5 hj]
   by_cases h':j+1<sw
   ·rw[aB h',aB h'];exact Yn hb (hT _ h') (h5 _ h') hn.2 (by omega) (hA _ h') ht hs
   ·rw[aq h',aq h'];obtain rfl:j+1=sw:=by omega
    exact hG
  ·rw[aq h,aq (by omega)];exact abg h4 (h7 (by omega))
 ·show _=if 0<sw then _ else _
  rw[aB (by omega)];rfl
 ·show ∀w1,_->_->_->_->∃w2 g2,eO (I:=iN) kk w1 (if n<sw then _ else GN) w2 g2/\X w2 g2;rw[aq (by omega)];exact rest
theorem Qd{r:MS}(hj:j<n)(hf:r.fr=j)(hk:r.kind≠(A j).kind):mw (cB g a k A n) r=false:=by
 have hp:(cB g a k A n).bq=bP g.node k A n 0:=rfl;unfold mw;rw[hp,hf,show b9 (bP g.node k A n 0) j=some (bM g.node k A j)from ?_]
 ·show dM r (bM g.node k A j)=false;unfold dM;rw[show decide (r.kind=(bM g.node k A j).kind)=false from decide_eq_false hk];simp
 ·unfold bP b9;rw[List.drop_zero,List.find?_map]
  have:(List.range n).find? ((λy:Int×MS=>decide (y.1=(j:Int)))∘λi:Nat=>((i:Int),bM g.node k A i))=some j:=by
   rw[List.find?_range_eq_some];refine⟨by simp,by simpa using hj,λi hi=>?_⟩;have:¬((i:Int)=(j:Int)):=by omega
   simp[this]
  rw[this];rfl
theorem C1{B:Nat->MS}{c d:Int}(hc:∀i,(A i).kind=c)(hd:∀i,(B i).kind=d)(h:c≠d):∀y∈bP g.node k A n j,∀i,i<n->lB (B i) y.2=false:=λy hy i _=>by
 obtain⟨q,_,rfl⟩:=List.mem_map.1 hy;unfold lB;rw[show decide ((B i).kind=(bM g.node k A q).kind)=false from decide_eq_false (by rw[hd,show(bM g.node k A q).kind=_ from hc q];exact λe=>h e.symm)];simp
theorem Yo:bP g.node k A n n=[]:=by
 unfold bP;rw[List.drop_eq_nil_of_le (by simp)];rfl
end
structure aoZ(n:Nat)(g:eA):Prop where
 c:zK g
 dH:g.dH=none
 aQ:g.aQ=p0 n
 cL:g.cL=n
 st:g.aZ.step=0
 op:g.aZ.op=none
 sm:0<=g.aZ.fJ/\g.aZ.fJ<8
def KJ(n:Nat)(g:eA):eA:={g with ga:=g.ga+1,Cr:=0,aQ:=p1 n,num:=g.num+(4*n+2)}
structure NV(n:Nat)(e:Int)(i:Option r6)(L:List cj)(low:Int)(P:Nat)(w:nr):Prop where
 len:w.us.length=n
 us:∀u∈w.us,US e i L low P u
 sq:(w.sq=⟨-1,0,λ_=> -1⟩/\L.length=0)\/(w.sq.e=1/\w.sq.n=L.length/\∀k,-1<=w.sq.f k/\w.sq.f k<=1000000)
 aQ:w.aQ=p0 n
def stM(N:Nat):MS:={gS with to:=7,kind:=9,ep:=1,at':=N}
theorem afR{n:Nat}(h:1<=n/\n<=4):(vL n).length<=1000:=by
 rcases CU h with rfl|rfl|rfl|rfl<;>decide
theorem abu{n:Nat}(h:1<=n/\n<=4){cS:Int}(hw:1<=cS/\cS<=2147483647):jk (p0 n) n cS=s1 n cS 0:=by
 unfold jk;rw[aB ⟨(CV h).2,by show(0:Int)≠2147483647;decide,by omega,by omega,by omega,hw.2⟩];unfold s1;rw[show(λ_=>false:Nat->Bool)=DO 0 from funext λu=>(decide_eq_false (by omega)).symm]
section
variable {n kk P:Nat}{g:eA}{w:nr}{L:List cj}{low e0:Int}{i0:Option r6}
theorem abv{X:nr->eA->Prop}(hn:1<=n/\n<=4)(hP:P<1990)(hL:L.length<=5000)(r8:0<=low/\low<=L.length)(hg:aoZ n g)(hw:NV n e0 i0 L low P w)(he:e0=0\/e0=1)(hi:i0=none\/∃wA,i0=some ⟨1,wA,1,wA,vL n⟩/\wA<iL g)
 (yO:1<=iL g/\iL g<=2147483647) (hb:g.num<=100000000000000) (atk:g.ga<=100000000000) (rest:∀w1,tT n L low (iL g) (P+4) L.length w1->∃w2 g2,eO (I:=iN) kk w1 (asked (KJ n g) (CY (KJ n g))) w2 g2/\X w2 g2):
 ∃w2 g2,eO (I:=iN) (kk+6) w (asked g (CY g)) w2 g2/\X w2 g2:=by
 obtain⟨wh,hwh⟩:∃wh,wh=iL g:=⟨_,rfl⟩;rw[<-hwh]at hi yO rest;have DB:=hg.c.num;have hsw:1<=Fd n/\Fd n<=n:=by unfold Fd;omega
 have hvl:=afR hn
 let x:BA:=⟨true,(i0.getD zI).ar,(i0.getD zI).aw,(i0.getD zI).val⟩
 let y:BA:=⟨true,0,0,[]⟩
 have hx:x.val=vL n\/(x.r=0/\x.w=0):=by
  rcases hi with rfl|⟨wA,rfl,_⟩
  ·exact .inr ⟨rfl,rfl⟩
  ·exact .inl rfl
 have lj:x.val.length<=1000:=by
  rcases hi with rfl|⟨wA,rfl,_⟩
  ·exact Nat.zero_le _
  ·exact hvl
 have akd:adb i0 wh:=by
  rcases hi with rfl|⟨wA,rfl,h⟩
  ·exact yO.1
  ·exact⟨rfl,h⟩
 have z0:∀m:MS,(xy m low).err=0:=λ_=>rfl
 let k:Int:=g.num+1
 let a2:=s2 n wh (vL n) (qw n wh (vL n) 1 x 0)
 let a3:=s2 n wh (vL n) (qw n wh (vL n) 2 y 0)
 let p3:=qw n wh (vL n) 3 y (Fd n)
 let a4:=s3 n wh (vL n) p3 0 0
 let a5:cg:={s3 n wh (vL n) p3 n L.length with st:=4}
 let G5:eA:=asked (cA g a5 (k+n+n+n+n) [] []) (stM L.length)
 have T1:∀j,mO (s1 n wh j):=λj=>akc hn;have T2:∀j,j<=10->mO (s2 n wh (vL n) (qw n wh (vL n) 1 x j)):=λj hj=>adh hn hvl lj hj;have T3:∀j,j<=10->mO (s2 n wh (vL n) (qw n wh (vL n) 2 y j)):=λj hj=>adh hn hvl (Nat.zero_le _) hj;have T4:∀j tl,mO (s3 n wh (vL n) p3 j tl):=λj tl=>adi (st:=3) (.inl rfl) hn hvl (Nat.zero_le _) (by omega);have T5:mO a5:=adi (st:=4) (.inr rfl) hn hvl (Nat.zero_le _) (by omega)
 -- Za start of Za agA
 have r5:∀w1,NV n 1 (some ⟨1,wh,1,wh,vL n⟩) L low (P+4) w1->∃w2 g2,eO (I:=iN) (kk+1) w1 G5 w2 g2/\X w2 g2:=λw1 h1=>by
  let m:=ux (cA g a5 (k+n+n+n+n) [] []) (stM L.length)
  obtain⟨fs,hst,hf⟩:∃fs:Nat->Int,fw w1.sq 1 L.length=(0,⟨1,L.length,fs⟩)/\∀k,-1<=fs k/\fs k<=1000000:=by
   rcases h1.sq with⟨h,h0⟩|⟨h2,h3,h4⟩
   ·refine⟨λ_=> -1,?_,λ_=>show(-1:Int)<= -1/\(-1:Int)<=1000000 by decide⟩;rw[h];unfold fw;rw[aq (by show ¬(1:Int)< -1;decide),aq (by omega),aB (by show(-1:Int)<1;decide)]
   ·refine⟨w1.sq.f,?_,h4⟩;unfold fw;rw[aq (by omega),aq (by omega),aq (by omega),h3,show max (L.length:Int) L.length=L.length by omega];have:∀s:NH,s.e=1->({s with n:=(L.length:Int)}:NH)=⟨1,L.length,s.f⟩:=λs hs=>by cases s;dsimp only at hs;rw[hs]
    rw[this _ h2]
  let r:MS:={cN m with err:=0,tail:=(L.length:Int),back:=1}
  have hr:jm w1 m=(some r,{w1 with sq:=⟨1,L.length,fs⟩}):=by
   unfold jm iU;rw[aB (show m.to=7 from rfl),aq (show ¬m.bV=true from λh=>(by cases h)),aB (show m.kind=9 from rfl),show fw w1.sq m.ep m.at'=_ from hst];rfl
  obtain⟨w2,g2,fg,hX⟩:=rest {w1 with sq:=⟨1,L.length,fs⟩} ⟨h1.len,h1.us,rfl,rfl,hf,h1.aQ⟩;refine⟨w2,g2,PR (m:=m) rfl (λ_=>⟨rfl,.inr rfl,?_⟩) hr ?_ fg,hX⟩
  ·rcases h1.sq with⟨h,_⟩|⟨_,h3,_⟩
   ·rw[h];show(0:Int)<=0;decide
   ·omega
  ·have Ha:mw (nf G5) r=true:=by
    unfold mw b9;simp[nf,G5,asked,r,m,ux,cN,stM,gS,dM]
   have hto:xv a5 r=some {a5 with st:=5}:=by
    unfold xv
    have ao0:Cn a5 r=true:=by
     unfold Cn dF;rw[aB (show a5.st=4 from rfl),List.any_cons];unfold Cm;rw[decide_eq_true (show(pe a5).to=r.fr from rfl),decide_eq_true (show(pe a5).kind=r.kind from rfl),decide_eq_true (show(pe a5).ep=r.ep from rfl),decide_eq_true (show(pe a5).at'=r.at' from rfl)];rfl
    rw[aB ⟨rfl,ao0⟩,aq (show ¬a5.st=1 from show ¬(4:Int)=1 by decide),aq (show ¬a5.st=2 from show ¬(4:Int)=2 by decide),aq (show ¬a5.st=3 from show ¬(4:Int)=3 by decide),aB (show a5.st=4 from rfl),aB (.inl rfl)]
   refine XX ⟨Nat.zero_le _,Nat.zero_le _⟩ rfl Ha T5 hto ?_
   have ep:iw (nf G5).bq r.fr=[]:=by
    unfold iw;simp[nf,G5,asked,r,m,ux,cN,stM,gS]
   rw[ep]
   let g6:eA:=cA g {a5 with st:=5} (k+n+n+n+n+1) [] []
   have h7:Ya n (KJ n g):=⟨⟨hg.c.p,hg.c.o,hg.c.b,by show 0<=g.num+(4*(n:Int)+2)/\g.num+(4*(n:Int)+2)<=2000000000000000;omega,⟨by show 0<=g.ga+1/\g.ga+1<=1000000000000;have:=hg.c.a.a;omega,hg.c.a.b,hg.c.a.n⟩⟩,hg.dH,rfl,hg.st,hg.op,hg.sm⟩;show gf 9 g6 _;refine .go hg.c.b (show((5:Int)≠5->_)/\((5:Int)=5->g.aZ.step≠3)from⟨λh=>absurd rfl h,λ_=>by rw[hg.st];decide⟩) (g1:=KJ n g) ?_ (abn h7);show eJ g6 {a5 with st:=5}=_;unfold eJ;rw[aB rfl];refine Prod.ext ?_ rfl;show({g with ga:=g.ga+1,Cr:=0,aQ:=p1 n,dH:=none,num:=k+n+n+n+n+1,bq:=[],out:=[],aZ:={g.aZ with op:=none,left:=if g.aZ.step=3 then WZ (p1 n)else g.aZ.left}}:eA)=KJ n g;rw[aq (by rw[hg.st];decide),show k+n+n+n+n+1=g.num+(4*(n:Int)+2) by show g.num+1+n+n+n+n+1=_;omega];have h1:=hg.c.p;have h2:=hg.c.o;have h3:=hg.op;have h4:=hg.dH;unfold KJ;cases g with
   |mk a b c d e f g' h i aZ dH Cr bq out waits id bH=>
    cases aZ;dsimp only at h1 h2 h3 h4;subst h1 h2 h3 h4;rfl
 -- Za cL are told
 have r4:∀w1,NV n 1 (some ⟨1,wh,1,wh,vL n⟩) L low (P+3) w1->∃w2 g2,eO (I:=iN) (kk+2) w1 (cB g a4 (k+n+n+n) xA n) w2 g2/\X w2 g2:=λw1 h1=>by
  refine phase (sw:=n) (GN:=G5) (aN:=a5) (st:=λj=>s3 n wh (vL n) p3 j (if j=0 then 0 else L.length)) (P:=US 1 (some ⟨1,wh,1,wh,vL n⟩) L low (P+3)) (Q:=US 1 (some ⟨1,wh,1,wh,vL n⟩) L low (P+4)) hn ⟨hn.1,Nat.le_refl _⟩ hg.c.b (by show 0<=g.num+1+(n:Int)+n+n/\_;omega) (λ_=>rfl) (λ_=>⟨Nat.zero_le _,Nat.zero_le _⟩) (λj _=>T4 j _) (λj _=>show(3:Int)≠5/\(3:Int)≠6 by decide) (λj hj=>Qc hn (by omega)) ?_ ?_ h1.len h1.us λw2 q1 q2 q3 q4=>r5 w2 ⟨q1,q2,by rw[q3];exact h1.sq,by rw[q4];exact h1.aQ⟩
  ·rw[Yo];obtain⟨s1',s2'⟩:=C0 (g:=g) (k:=k+n+n+n+n) (pd:=[]) (o:=[]) T5 (show(4:Int)≠5/\(4:Int)≠6 by decide);refine .one (g1:=cA g a5 (k+n+n+n+n) [] []) ⟨rfl,rfl,hg.c.b,?_,?_⟩ s1' (s2'.trans ?_) ⟨rfl,rfl,hg.c.b,?_,?_⟩ ⟨Nat.zero_le _,Nat.zero_le _⟩
   ·show 0<=g.num+1+n+n+n+n/\g.num+1+n+n+n+n<=_;omega
   ·exact⟨by show 0<=g.ga+1/\g.ga+1<=1000000000000;have:=hg.c.a.a;omega,hg.c.a.b,hg.c.a.n⟩
   ·unfold dF;rw[aB (show a5.st=4 from rfl)];rfl
   ·show 0<=g.num+1+n+n+n+n/\g.num+1+n+n+n+n<=_;omega
   ·exact⟨by show 0<=g.ga+1/\g.ga+1<=1000000000000;have:=hg.c.a.a;omega,hg.c.a.b,hg.c.a.n⟩
  ·intro j hj u hu;obtain⟨u',mq,h1,h2⟩:=PT (m:=bM g.node (k+n+n+n) xA j) hu (by omega) (.inr rfl) r8 rfl rfl rfl;refine⟨_,u',mq,h1,h2,⟨rfl,(tM (m:=bM _ _ _ _) (low:=low) rfl).2⟩,⟨Nat.zero_le _,Nat.zero_le _⟩,λ_=>?_,λh=>by omega⟩;have:=aoX (n:=n) (j:=j) (cS:=wh) (v:=vL n) (p:=p3) (tl:=if j=0 then 0 else L.length) hn hj (r:={xy (bM g.node (k+n+n+n) xA j) low with tail:=(L.length:Int)}) ⟨rfl,rfl,rfl,rfl,rfl,rfl⟩ (T:=L.length) (by show max (max _ (L.length:Int)) low=_;split<;>omega);rw[this,aq (show ¬j+1=0 by omega)]
   by_cases h:j+1<n
   ·rw[aB h,aB h]
   ·rw[aq h,aq h];obtain rfl:j+1=n:=by omega
    rfl
 -- ake ao1
 have r3:∀w1,NV n 1 (some {i0.getD zI with pr:=1,pw:=wh}) L low (P+2) w1->∃w2 g2,eO (I:=iN) (kk+3) w1 (cB g a3 (k+n+n) (abs wh (vL n)) n) w2 g2/\X w2 g2:=λw1 h1=>by
  refine phase (sw:=Fd n) (GN:=cB g a4 (k+n+n+n) xA n) (aN:=a4) (st:=λj=>s2 n wh (vL n) (qw n wh (vL n) 2 y j)) (P:=US 1 (some {i0.getD zI with pr:=1,pw:=wh}) L low (P+2)) (Q:=US 1 (some ⟨1,wh,1,wh,vL n⟩) L low (P+3)) hn hsw hg.c.b (by show 0<=g.num+1+(n:Int)+n/\_;omega) (λ_=>rfl) (λ_=>⟨Nat.zero_le _,by show(vL n).length<=_;omega⟩) (λj hj=>T3 j (by omega)) (λj _=>show(2:Int)≠5/\(2:Int)≠6 by decide) (λj hj=>?_) ?_ ?_ h1.len h1.us λw2 q1 q2 q3 q4=>r4 w2 ⟨q1,q2,by rw[q3];exact h1.sq,by rw[q4];exact h1.aQ⟩
  ·have:=Fc (n:=n) (j:=j) (cS:=wh) (v:=vL n) (x:=y) (ph:=2) hn.2 (by omega) (.inr rfl)
   rwa [aB rfl]at this
  ·exact Av hg.c.b (T4 _ _) (show(3:Int)≠5/\(3:Int)≠6 by decide) hn.2 (by show 0<=g.num+1+(n:Int)+n+n/\_;omega) (Qc hn (Nat.zero_le _)) (C1 (c:=7) (d:=4) (λ_=>rfl) (λ_=>rfl) (by decide)) (by unfold bP;simp;omega) (λ_=>rfl) λ_=>⟨Nat.zero_le _,Nat.zero_le _⟩
  ·intro j hj u hu;obtain⟨u',mq,h1,h2⟩:=afK (m:=bM g.node (k+n+n) (abs wh (vL n)) j) hu (by omega) rfl ⟨rfl,rfl⟩ yO hvl rfl rfl rfl ⟨rfl,rfl⟩ rfl;exact⟨_,u',mq,h1,h2,⟨rfl,(tM (m:=bM _ _ _ _) (low:=low) rfl).2⟩,⟨Nat.zero_le _,Nat.zero_le _⟩,λh=>aoW hn h rfl ⟨rfl,rfl,rfl,rfl,rfl,rfl⟩,λ_=>Qd hj rfl (show(7:Int)≠4 by decide)⟩
 -- ake als
 have r2:∀w1,NV n 1 i0 L low (P+1) w1->∃w2 g2,eO (I:=iN) (kk+4) w1 (cB g a2 (k+n) (KH wh) n) w2 g2/\X w2 g2:=λw1 h1=>by
  refine phase (sw:=Fd n) (GN:=cB g a3 (k+n+n) (abs wh (vL n)) n) (aN:=a3) (st:=λj=>s2 n wh (vL n) (qw n wh (vL n) 1 x j)) (P:=US 1 i0 L low (P+1)) (Q:=US 1 (some {i0.getD zI with pr:=1,pw:=wh}) L low (P+2)) hn hsw hg.c.b (by show 0<=g.num+1+(n:Int)/\_;omega) (λ_=>rfl) (λ_=>⟨Nat.zero_le _,Nat.zero_le _⟩) (λj hj=>T2 j (by omega)) (λj _=>show(2:Int)≠5/\(2:Int)≠6 by decide) (λj hj=>?_) ?_ ?_ h1.len h1.us λw2 q1 q2 q3 q4=>r3 w2 ⟨q1,q2,by rw[q3];exact h1.sq,by rw[q4];exact h1.aQ⟩
  ·have:=Fc (n:=n) (j:=j) (cS:=wh) (v:=vL n) (x:=x) (ph:=1) hn.2 (by omega) (.inl rfl)
   rwa [aq (by decide)]at this
  ·refine Av hg.c.b (T3 0 (by omega)) (show(2:Int)≠5/\(2:Int)≠6 by decide) hn.2 (by show 0<=g.num+1+(n:Int)+n/\_;omega) ?_ (C1 (c:=6) (d:=7) (λ_=>rfl) (λ_=>rfl) (by decide)) (by unfold bP;simp;omega) (λ_=>rfl) λ_=>⟨Nat.zero_le _,by show(vL n).length<=_;omega⟩;have:=Fc (n:=n) (j:=0) (cS:=wh) (v:=vL n) (x:=y) (ph:=2) hn.2 (by omega) (.inr rfl)
   rwa [aB rfl]at this
  ·intro j hj u hu;obtain⟨u',mq,h1,h2⟩:=abh (m:=bM g.node (k+n) (KH wh) j) hu (by omega) rfl akd yO rfl rfl rfl ⟨rfl,rfl⟩;refine⟨_,u',mq,h1,h2,⟨rfl,?_⟩,⟨Nat.zero_le _,by show x.val.length<=_;omega⟩,λh=>(aoV (y:=y) hn h rfl hx ⟨rfl,rfl,rfl,rfl,rfl,rfl⟩ rfl).trans (by split<;>rfl),λ_=>Qd hj rfl (show(6:Int)≠7 by decide)⟩;exact(tM (m:=bM g.node (k+n) (KH wh) j) (low:=low) rfl).2
 -- ake are ao2
 have r1:∀w1,NV n e0 i0 L low P w1->∃w2 g2,eO (I:=iN) (kk+5) w1 (cB g (s1 n wh 0) k xA n) w2 g2/\X w2 g2:=λw1 h1=>by
  refine phase (sw:=n) (GN:=cB g a2 (k+n) (KH wh) n) (aN:=a2) (st:=s1 n wh) (P:=US e0 i0 L low P) (Q:=US 1 i0 L low (P+1)) hn ⟨hn.1,Nat.le_refl _⟩ hg.c.b (by show 0<=g.num+1/\_;omega) (λ_=>rfl) (λ_=>⟨Nat.zero_le _,Nat.zero_le _⟩) (λj _=>T1 j) (λj _=>show(1:Int)≠5/\(1:Int)≠6 by decide) (λj hj=>Qb hn.2 (by omega)) ?_ ?_ h1.len h1.us λw2 q1 q2 q3 q4=>r2 w2 ⟨q1,q2,by rw[q3];exact h1.sq,by rw[q4];exact h1.aQ⟩
  ·rw[Yo];refine Av hg.c.b (T2 0 (by omega)) (show(2:Int)≠5/\(2:Int)≠6 by decide) hn.2 (by show 0<=g.num+1+(n:Int)/\_;omega) ?_ (λy hy=>by cases hy) (Nat.zero_le _) (λ_=>rfl) λ_=>⟨Nat.zero_le _,Nat.zero_le _⟩;have:=Fc (n:=n) (j:=0) (cS:=wh) (v:=vL n) (x:=x) (ph:=1) hn.2 (by omega) (.inl rfl)
   rwa [aq (by decide)]at this
  ·intro j hj u hu;obtain⟨u',mq,h1,h2⟩:=PT (m:=bM g.node k xA j) hu (by omega) he r8 rfl rfl rfl;exact⟨_,u',mq,h1,h2,⟨rfl,(tM (m:=bM g.node k xA j) (low:=low) rfl).2⟩,⟨Nat.zero_le _,Nat.zero_le _⟩,λ_=>aoU hn hj ⟨rfl,rfl,rfl,rfl,rfl,rfl⟩,λh=>by omega⟩
 -- its alt for a aqL is alu
 obtain⟨w2,g2,fg,hX⟩:=r1 w hw;refine⟨w2,g2,?_,hX⟩
 let m:=ux g (CY g)
 let r:MS:={cN m with err:=8}
 have et:fj w.sq m.ep m.at'=((0,0,8),w.sq):=by
  unfold fj;have:m.ep=0:=by show g.aQ.ep=0;rw[hg.aQ];rfl
  rw[aB ?_];rcases hw.sq with⟨h,_⟩|⟨h,_⟩
  ·left;rw[h];show(-1:Int)<0;decide
  ·right;rw[h,this];decide
 have hr:jm w m=(some r,w):=by
  unfold jm iU;rw[aB (show m.to=7 from rfl),aq (show ¬m.bV=true from λh=>(by cases h)),aq (show ¬m.kind=9 from λh=>absurd (show(8:Int)=9 from h) (by decide)),aB (show m.kind=8 from rfl),et];rfl
 refine xz hg.c hg.dH rfl (λ_=>⟨.inl rfl,?_⟩) hr ⟨rfl,?_⟩ ⟨Nat.zero_le _,Nat.zero_le _⟩ (λh=>absurd hg.st h) ?_ fg
 ·rcases hw.sq with⟨h,_⟩|⟨_,h,_⟩
  ·rw[h];show(0:Int)<=0;decide
  ·omega
 ·show dM r m=true;simp[dM,r,cN,m,ux,CY,gS]
 ·have e1:fx (uy g) r vf=cA g (s1 n wh 0) k [] []:=by
   unfold fx;rw[show(uy g).dH=none from hg.dH];dsimp only;rw[aB (show(uy g).aZ.step=0 from hg.st)];unfold kY;rw[aq (show ¬r.err=0 from show ¬(8:Int)=0 by decide),aB (show r.err=8 from rfl)]
   have hbe:jk g.aQ g.cL (iL (uy g))=s1 n wh 0:=by
    rw[hg.aQ,hg.cL,show iL (uy g)=wh from hwh.symm];exact abu hn yO
   show({g with num:=g.num+1,ga:=g.ga+1,dH:=some (jk g.aQ g.cL (iL (uy g))),Cr:=0}:eA)=_;rw[hbe];have h1:=hg.c.p;have h2:=hg.c.o;unfold cA;rw[<-h1,<-h2]
  rw[e1];exact Av hg.c.b (T1 0) (show(1:Int)≠5/\(1:Int)≠6 by decide) hn.2 (by show 0<=g.num+1/\_;omega) (Qb hn.2 (Nat.zero_le _)) (λy hy=>by cases hy) (Nat.zero_le _) (λ_=>rfl) λ_=>⟨Nat.zero_le _,Nat.zero_le _⟩
end
structure Qe(g:eA)(K:Int):Prop where
 b:g.busy=false
 w:g.waits=false
 p:g.bq=[]
 o:g.out=[]
 dH:g.dH=none
 num:0<=g.num/\g.num<=1000000000000+10000*K
 B5:0<=g.ga/\g.ga<=K/\0<=g.fQ/\g.fQ<=K
 id:0<=g.dz/\g.dz<=1000/\0<=g.node/\g.node<=100
def rD(g:eA)(j:sK)(bk:Int):cj:=⟨j.kind,g.node,g.dz,g.fQ+1,j.fJ,bk,j.pl⟩
def kB(g:eA)(j:sK):eA:=asked (cK g j) (CY (cK g j))
structure JTk(j:sK):Prop where
 st:j.step=0
 op:j.op=none
 sm:0<=j.fJ/\j.fJ<8
structure Aft(n:Nat)(L:List cj)(e:cj)(low wA:Int)(P:Nat)(K:Int)(g:eA)(w2:nr)(g2:eA):Prop where
 nd:tT n (L++[e]) low wA P (L.length+1) w2
 q:gO (L++[e]) (L.length+1) g2.rp
 id:Qe (bS g2) (K+1)
 o:g2.out=[]
 w:g2.waits=true
 bH:g2.bH=iR L e
 pl:g2.aQ=p1 n
 same:g2.node=g.node/\g2.dz=g.dz/\g2.cL=g.cL/\g2.fQ=g.fQ+1
 idd:g2.id=(g.node,g.dz,g.fQ+1)
section
variable {n P:Nat}{L:List cj}{low wA e0 K:Int}{i0:Option r6}{w:nr}{g:eA}{j:sK}
theorem Aw(hg:Qe g K)(hK:K<=1000):zK (cK g j):=⟨hg.p,hg.o,rfl,by show 0<=g.num/\g.num<=_;have:=hg.num;omega,⟨by show 0<=g.ga/\g.ga<=_;have:=hg.B5;omega,by show 0<=g.dz/\g.dz<=_;have:=hg.id;omega,by show 0<=g.node/\g.node<=_;have:=hg.id;omega⟩⟩
theorem C2(hg:Qe g K)(hK:K<=1000)(hj:JTk j):gf 9 (cK g j) (kB g j):=by
 have hc:=Aw (j:=j) hg hK;refine .one hc ?_ ?_ hc ⟨Nat.zero_le _,Nat.zero_le _⟩
 ·unfold io;rw[show(cK g j).dH=none from hg.dH];dsimp only;rw[aB (show(cK g j).aZ.step=0 from hj.st)];trivial
 ·unfold fb;rw[show(cK g j).dH=none from hg.dH];dsimp only;rw[aB (show(cK g j).aZ.step=0 from hj.st)];rfl
theorem Qf{g':eA}{e:cj}{q:fA}{d:Nat}{w2:nr}(hw:tT n (L++[e]) low wA P (L.length+1) w2)(hq:gO (L++[e]) (L.length+1) q)(hp:g'.aQ=p1 n)(hd:d<=5000)(hs:g'.node=g.node/\g'.dz=g.dz/\g'.cL=g.cL/\g'.fQ=g.fQ+1)(hn:0<=g'.num/\g'.num<=g.num+100)(ha:0<=g'.ga/\g'.ga<=g.ga+1)(hi:(g'.aZ.i1,g'.aZ.i2,g'.aZ.i3)=(g.node,g.dz,g.fQ+1))(hg:Qe g K):Aft n L e low wA P K g w2 (n5 g' q d (iR L e)) where
 nd:=hw
 q:=hq
 id:=by
  have h1:=hg.num;have h2:=hg.B5;have h3:=hg.id;rw[show bS (n5 g' q d (iR L e))={n5 g' q d (iR L e)with waits:=false,id:=(0,0,0),bH:={}}from aB rfl];refine⟨rfl,rfl,rfl,rfl,rfl,?_,?_,?_⟩
  ·show 0<=g'.num+(d:Int)/\g'.num+(d:Int)<=_;omega
  ·show 0<=g'.ga/\g'.ga<=K+1/\0<=g'.fQ/\g'.fQ<=K+1;omega
  ·show 0<=g'.dz/\g'.dz<=1000/\0<=g'.node/\g'.node<=100;omega
 o:=rfl
 w:=rfl
 bH:=rfl
 pl:=hp
 same:=hs
 idd:=hi
theorem KK(hn:1<=n/\n<=4)(hP:P<1900)(hL:lD L)(hle:L.length<=500)(hw:tT n L low wA P L.length w)(r8:low=0\/∃(s:Nat) (x:cj),low=s/\1<=s/\L[s]? =some x/\x.kind=2)(hg:Qe g K)(hK:K<=1000)(hp:g.aQ=p1 n)(hj:JTk j)
 (kE:∀bk,-1<=bk->bk<=1000000->qt L (rD g j bk)) (lp:∀bk,Fa L (rD g j bk)) (hq:(∃k,gO L k g.rp/\low<=k)\/g.rp=fu):
 ∃w2 g2 bk,-1<=bk/\bk<=1000000/\eO (I:=iN) 1000 w (kB g j) w2 g2/\Aft n L (rD g j bk) low wA (P+1) K g w2 g2:=by
 have h1:=hg.num;have h2:=hg.B5;obtain⟨w2,bk,q,d,b1,b2,hd,Pv,Ky,hr⟩:=PZ (g:=cK g j) hn (by omega) hL (by omega) hw r8 ⟨Aw hg hK,hg.dH,hp,hj.st,hj.op,hj.sm⟩ (by show g.num<=_;omega) kE lp hq;exact⟨w2,_,bk,b1,b2,hr.le (by omega),Qf Pv Ky hp (by omega) ⟨rfl,rfl,rfl,rfl⟩ (by show 0<=g.num/\g.num<=_;omega) (by show 0<=g.ga/\g.ga<=_;omega) rfl hg⟩
theorem Qg(hn:1<=n/\n<=4)(hP:P<1900)(hL:lD L)(hle:L.length<=500)(Tv:0<=low/\low<=L.length)(hw:NV n e0 i0 L low P w)(he:e0=0\/e0=1)(hi:i0=none\/∃wA,i0=some ⟨1,wA,1,wA,vL n⟩/\wA<iL g)(r8:low=0\/∃(s:Nat) (x:cj),low=s/\1<=s/\L[s]? =some x/\x.kind=2)(hg:Qe g K)(hK:K<=1000)(hp:g.aQ=p0 n)(hu:g.cL=n)(hj:JTk j)
 (yO:1<=iL g/\iL g<=2147483647) (kE:∀bk,-1<=bk->bk<=1000000->qt L (rD g j bk)) (lp:∀bk,Fa L (rD g j bk)) (hq:g.rp=fu):
 ∃w2 g2 bk,-1<=bk/\bk<=1000000/\eO (I:=iN) 1000 w (kB g j) w2 g2/\Aft n L (rD g j bk) low (iL g) (P+5) K g w2 g2:=by
 have h1:=hg.num;have h2:=hg.B5;have h3:=hg.id;have hc:=Aw (j:=j) hg hK
 obtain⟨w2,g2,hr,bk,b1,b2,hA⟩:=abv (g:=cK g j) (kk:=L.length+10) (X:=λw2 g2=>∃bk,-1<=bk/\bk<=1000000/\Aft n L (rD g j bk) low (iL g) (P+5) K g w2 g2) hn (by omega) (by omega) Tv ⟨hc,hg.dH,hp,hu,hj.st,hj.op,hj.sm⟩ hw he hi yO (by show g.num<=_;omega) (by show g.ga<=_;omega) λw1 Tq=>by
  have h7:Ya n (KJ n (cK g j)):=⟨⟨hc.p,hc.o,rfl,by show 0<=g.num+(4*(n:Int)+2)/\g.num+(4*(n:Int)+2)<=2000000000000000;omega,⟨by show 0<=g.ga+1/\g.ga+1<=1000000000000;omega,hc.a.b,hc.a.n⟩⟩,hg.dH,rfl,hj.st,hj.op,hj.sm⟩;obtain⟨w2,bk,q,d,b1,b2,hd,Pv,Ky,hr⟩:=PZ (g:=KJ n (cK g j)) hn (by omega) hL (by omega) Tq r8 h7 (by show g.num+(4*(n:Int)+2)<=_;omega) kE lp (.inr hq);exact⟨w2,_,hr,bk,b1,b2,Qf Pv Ky rfl (by omega) ⟨rfl,rfl,rfl,rfl⟩ (by show 0<=g.num+(4*(n:Int)+2)/\g.num+(4*(n:Int)+2)<=_;omega) (by show 0<=g.ga+1/\g.ga+1<=_;omega) rfl hg⟩
 exact⟨w2,g2,bk,b1,b2,hr.le (by omega),hA⟩
end
structure Lg(n B:Nat)(L:List cj)(low wA:Int)(P:Nat)(w:nr):Prop where
 w:tT n L low wA P L.length w
 ok:lD L
 low:low=0\/∃(s:Nat) (x:cj),low=s/\1<=s/\L[s]? =some x/\x.kind=2
 fst:∀x,L[0]? =some x->x.kind=1
 wf:ey B (ff L)
structure StL(n B M I:Nat)(Bu:Bool)(L:List cj)(low wA:Int)(P:Nat)(g:eA)(w:nr):Prop where
 lg:Lg n B L low wA P w
 id:Qe g M
 q:∃k:Nat,gO L k g.rp/\low<=k/\(Bu=true->k=L.length)
 pl:g.aQ=p1 n
 nd:g.node=8/\g.dz=0/\g.cL=n
 ids:∀(j:Nat) (x:cj),L[j]? =some x->x.kind=1->(x.cl=8/\x.bi=0/\x.nu<=g.fQ)\/(x.cl=9/\x.bi<I)
 wA:wA<73+65536*I
 len:L.length<=M/\P<=10*M
 ne:1<=L.length
def z8(n B M I:Nat)(Bu:Bool)(g:eA)(w:nr):Prop:=∃L low wA P,StL n B M I Bu L low wA P g w
def qu:eK:=⟨10,[47],[],0,0,[]⟩
def KL:eK:=⟨12,[],[],0,0,[]⟩
theorem xB:px qu=true:=by kernel_rfl
theorem KM:px KL=true:=by kernel_rfl
theorem Tb(x:eK):0<=gD x/\gD x<8:=by
 unfold gD;split
 ·omega
 ·split
  ·omega
  ·split<;>omega
theorem oQ(x:eK):JTk (gb x):=⟨rfl,rfl,Tb x⟩
theorem Yp{B:Nat}(hB:B<=27){n:Nd}(g:iu B n):(fU n).length<=600:=by
 have h1:(n.ay.flatMap mH).length<=n.ay.length*21:=km mH 21 n.ay λx hx=>by
  have:=(g.name x hx).1;unfold dm at this;simp at this;rw[Cg];omega
 have h2:=g.data;have h3:=g.qP;have hlen:(fU n).length=2+2+(4+n.data.length)+(4+(n.ay.flatMap mH).length):=by simp[fU,bF];omega
 rcases g.kind with⟨_,h,_⟩|⟨_,h⟩
 ·rw[h]at hlen;simp only[List.length_nil]at hlen;omega
 ·rw[h]at hlen;simp only[List.flatMap_nil,List.length_nil]at hlen;omega
theorem abw{B:Nat}(hB:B<=27){T:List Nd}(wf:ey B T)(u:Int):(jw u T).length<=40000:=by
 have h1:=tG wf;have h2:(T.flatMap fU).length<=T.length*600:=km fU 600 T λx hx=>Yp hB (wf.jY x hx);unfold jw mI;rw[kh,List.length_append,List.length_append,bF,bF];omega
theorem Tc{B:Nat}{T:List Nd}(wf:ey B T):(nQ T [47]).err=0:=by
 obtain⟨r,h,_⟩:=wf.root;have e:bG T [47]=(0,0):=rfl;unfold nQ;rw[e,aq (by decide)];dsimp only;rw[h]
section
variable {n B M I P:Nat}{f:Bool}{g g2:eA}{w w2:nr}{L:List cj}{low wA:Int}{e:cj}
theorem Yq{j:sK}(hj:JTk j)(hk:j.kind=1\/j.kind=2)(hl:j.pl.length<=65506){K:Int}(hg:Qe g K)(hK:K<=1000){bk:Int}(h1: -1<=bk)(h2:bk<=1000000):ei (rD g j bk)=true:=by
 have a1:=hg.B5;have a2:=hg.id;have a3:=hj.sm;unfold ei lO rD;simp only[Bool.and_eq_true,Bool.or_eq_true,decide_eq_true_eq];exact⟨⟨⟨⟨⟨⟨⟨⟨hk,by omega,by omega⟩,by omega,by omega⟩,by omega,by omega⟩,a3.1⟩,a3.2⟩,h1⟩,by omega⟩,hl⟩
theorem s8{x:eK}(hx:px x=true)(hs:x.path.length<=300/\x.aL.length<=300/\x.data.length<=600){K:Int}(hg:Qe g K)(hK:K<=1000){bk:Int}(h1: -1<=bk)(h2:bk<=1000000):qt L (rD g (gb x) bk):=
 ⟨Yq (oQ x) (.inl rfl) (by show(jM x).length<=_;rw[EV];omega) hg hK h1 h2,.inl ⟨rfl,x,qs hx,by omega⟩⟩
theorem yP{x:eK}(hx:px x=true){T:List Nd}{bk:Int}:stepT T (rD g (gb x) bk)=(zx T x.kind x.path x.aL x.off x.n x.data).1:=by
 unfold stepT;rw[aB (show(rD g (gb x) bk).kind=1 from rfl),show jx (rD g (gb x) bk).pl=some x from qs hx]
theorem C3(g:eA):(bS g).rp=g.rp/\(bS g).aQ=g.aQ/\(bS g).node=g.node/\(bS g).dz=g.dz/\(bS g).cL=g.cL/\(bS g).fQ=g.fQ:=by
 unfold bS;split<;>exact⟨rfl,rfl,rfl,rfl,rfl,rfl⟩
theorem Lg.Qh(h:Lg n B L low wA P w):0<=low/\low<=L.length:=by
 rcases h.low with h|⟨s,x,h1,h2,h3,_⟩
 ·omega
 ·have:=(List.getElem?_eq_some_iff.1 h3).1;omega
theorem Qi(h:low=0\/∃(s:Nat) (x:cj),low=s/\1<=s/\L[s]? =some x/\x.kind=2)(e:cj):low=0\/∃(s:Nat) (x:cj),low=s/\1<=s/\(L++[e])[s]? =some x/\x.kind=2:=
 h.imp id λ⟨s,x,h1,h2,h3,h4⟩=>⟨s,x,h1,h2,by rw[List.getElem?_append_left (List.getElem?_eq_some_iff.1 h3).1];exact h3,h4⟩
theorem Qj(h:∀x,L[0]? =some x->x.kind=1)(h0:L=[]->e.kind=1):∀x,(L++[e])[0]? =some x->x.kind=1:=λx hx=>by
 cases L with
 |nil=>cases hx;exact h0 rfl
 |cons y l=>exact h x hx
theorem Qk{j:Nat}{x:cj}(h:(L++[e])[j]? =some x):L[j]? =some x\/x=e:=by
 by_cases hj:j<L.length
 ·rw[List.getElem?_append_left hj]at h;exact .inl h
 ·rw[List.getElem?_append_right (by omega)]at h;have:=List.mem_of_getElem? h;exact .inr (List.mem_singleton.1 this)
theorem GZ{B':Nat}{P':Nat}{wA' K:Int}(hA:Aft n L e low wA' P' K g w2 g2)(hK:K=M)(hok:lD L)(he:qt L e)(r8:low=0\/∃(s:Nat) (x:cj),low=s/\1<=s/\L[s]? =some x/\x.kind=2)(VD:low<=L.length)(hf:∀x,L[0]? =some x->x.kind=1)(h0:L=[]->e.kind=1)(hwf:ey B' (stepT (ff L) e))
 (iZ:g.node=8/\g.dz=0/\g.cL=n) (hid:∀(j:Nat) (x:cj),L[j]? =some x->x.kind=1->(x.cl=8/\x.bi=0/\x.nu<=g.fQ)\/(x.cl=9/\x.bi<I)) (hee:e.cl=8/\e.bi=0/\e.nu=g.fQ+1) (hw:wA'<73+65536*I) (hl:L.length<=M/\P'<=10*(M+1)):z8 n B' (M+1) I true (bS g2) w2:=by
 obtain⟨s1,s2,s3,s4,s5,s6⟩:=C3 g2;have hlen:(L++[e]).length=L.length+1:=by simp
 refine⟨L++[e],low,wA',P',⟨⟨by rw[hlen];exact hA.nd,hok.app he,Qi r8 e,Qj hf h0,by rw[tL];exact hwf⟩,?_,⟨L.length+1,by rw[s1];exact hA.q,by omega,λ_=>hlen.symm⟩,s2.trans hA.pl,⟨by rw[s3,hA.same.1];exact iZ.1,by rw[s4,hA.same.2.1];exact iZ.2.1,by rw[s5,hA.same.2.2.1];exact iZ.2.2⟩,λj x hx h1=>?_,hw,⟨by rw[hlen];omega,hl.2⟩,by rw[hlen];omega⟩⟩
 ·have:=hA.id;rw[hK]at this;exact this
 ·have hj:=hA.same.2.2.2;rcases Qk hx with h|rfl
  ·rcases hid j x h h1 with⟨q1,q2,q3⟩|h
   ·exact .inl ⟨q1,q2,by rw[s6,hj];omega⟩
   ·exact .inr h
  ·exact .inl ⟨hee.1,hee.2.1,by rw[s6,hj,hee.2.2];exact Int.le_refl _⟩
theorem z8.call(hn:1<=n/\n<=4)(h:z8 n B M I f g w)(hM:M<=150){x:eK}(hx:px x=true)(hs:x.path.length<=300/\x.aL.length<=300/\x.data.length<=600){B':Nat}(hB:∀T,ey B T->ey B' (zx T x.kind x.path x.aL x.off x.n x.data).1):
 gf 9 (cK g (gb x)) (kB g (gb x))/\∃w2 g2,eO (I:=iN) 1000 w (kB g (gb x)) w2 g2/\g2.out=[]/\g2.waits=true/\z8 n B' (M+1) I true (bS g2) w2:=by
 obtain⟨L,low,wA,P,h⟩:=h;have hl:=h.len;have Yr:((M:Nat):Int)<=1000:=by omega
 refine⟨C2 h.id Yr (oQ x),?_⟩;obtain⟨k,hq,iV,_⟩:=h.q
 obtain⟨w2,g2,bk,b1,b2,hr,hA⟩:=KK (j:=gb x) hn (by omega) h.lg.ok (by omega) h.lg.w h.lg.low h.id Yr h.pl (oQ x) (λbk b1 b2=>s8 hx hs h.id Yr b1 b2) (λbk j y hy h1 hid=>by
  have e1:y.cl=g.node:=congrArg Prod.fst hid;have e3:y.nu=g.fQ+1:=congrArg (λz:rl=>z.2.2) hid;rcases h.ids j y hy h1 with⟨_,_,q⟩|⟨q,_⟩
  ·omega
  ·have:=h.nd.1;omega) (.inl ⟨k,hq,iV⟩)
 exact⟨w2,g2,hr,hA.o,hA.w,GZ hA rfl h.lg.ok (s8 hx hs h.id Yr b1 b2) h.lg.low h.lg.Qh.2 h.lg.fst (λ_=>rfl) (by rw[yP hx];exact hB _ h.lg.wf) h.nd h.ids ⟨h.nd.1,h.nd.2.1,rfl⟩ h.wA ⟨hl.1,by omega⟩⟩
theorem z8.ajC(hn:1<=n/\n<=4)(h:z8 n B M I true g w)(hM:M<=150)(hB:B<=27):
 ∃T,fA.T g.rp=some T/\ey B T/\(jw (fA.nx g.rp) T).length<=1000000/\gf 9 (cK g (oP g.rp T)) (kB g (oP g.rp T))/\∃w2 g2,eO (I:=iN) 1000 w (kB g (oP g.rp T)) w2 g2/\g2.out=[]/\g2.waits=true/\z8 n B (M+1) I true (bS g2) w2:=by
 obtain⟨L,low,wA,P,h⟩:=h;have hl:=h.len;have Yr:((M:Nat):Int)<=1000:=by omega
 obtain⟨k,hq,iV,hk⟩:=h.q;obtain rfl:=hk rfl;have hT:fA.T g.rp=some (ff L):=by rw[hq.T,List.take_length]
 have hsn:=abw hB h.lg.wf (fA.nx g.rp);have hj:JTk (oP g.rp (ff L)):=⟨rfl,rfl,by show(0:Int)<=0;decide,by show(0:Int)<8;decide⟩;refine⟨ff L,hT,h.lg.wf,by omega,C2 h.id Yr hj,?_⟩;have he:∀bk,-1<=bk->bk<=1000000->qt L (rD g (oP g.rp (ff L)) bk):=λbk b1 b2=>⟨Yq hj (.inr rfl) (by show(jw _ _).length<=_;omega) h.id Yr b1 b2,.inr ⟨rfl,by show jw (fA.nx g.rp) _=_;rw[hq.nx]⟩⟩
 obtain⟨w2,g2,bk,b1,b2,hr,hA⟩:=KK (j:=oP g.rp (ff L)) hn (by omega) h.lg.ok (by omega) h.lg.w h.lg.low h.id Yr h.pl hj he (λbk j y hy h1 hid=>by
  have e1:y.cl=g.node:=congrArg Prod.fst hid;have e3:y.nu=g.fQ+1:=congrArg (λz:rl=>z.2.2) hid;rcases h.ids j y hy h1 with⟨_,_,q⟩|⟨q,_⟩
  ·omega
  ·have:=h.nd.1;omega) (.inl ⟨_,hq,iV⟩)
 refine⟨w2,g2,hr,hA.o,hA.w,GZ hA rfl h.lg.ok (he bk b1 b2) h.lg.low h.lg.Qh.2 h.lg.fst (λhn=>?_) ?_ h.nd h.ids ⟨h.nd.1,h.nd.2.1,rfl⟩ h.wA ⟨hl.1,by omega⟩⟩
 ·have:=h.ne;rw[hn]at this;exact absurd this (by decide)
 ·unfold stepT;rw[aq (show ¬(rD g (oP g.rp (ff L)) bk).kind=1 from show ¬(2:Int)=1 by decide)];exact h.lg.wf
theorem z8.ao4(hn:1<=n/\n<=4)(h:z8 n B M I true g w)(hM:M<=150):
 dw g.aQ=true/\(0<=fA.at' g.rp->∃gg,gf 9 (cK g (zG g.rp g.aQ)) gg/\∃w2 g2,eO (I:=iN) 1000 w gg w2 g2/\g2.out=[]/\g2.waits=true/\z8 n B (M+1) I true (bS g2) w2):=by
 obtain⟨L,low,wA,P,h⟩:=h;have hl:=h.len;have Yr:((M:Nat):Int)<=1000:=by omega
 obtain⟨k,hq,iV,hk⟩:=h.q;obtain rfl:=hk rfl;refine⟨by rw[h.pl];exact(CV hn).1,λh0=>?_⟩;obtain⟨s,e,hs,hsl,hx,OM⟩:=hq.sn.resolve_left (by omega)
 have hs1:1<=s:=by
  rcases Nat.eq_zero_or_pos s with h0|h0
  ·rw[h0]at hx;have:=h.lg.fst e hx;omega
  ·exact h0
 have hls:low<=s:=by
  rcases h.lg.low with h1|⟨s',x,h1,h2,h3,h4⟩
  ·omega
  ·have:=hq.mx s' x (List.getElem?_eq_some_iff.1 h3).1 h3 h4;rw[hs]at this;omega
 have hb:=Aw (j:=zG g.rp g.aQ) h.id Yr;have DB:=h.id.num;have atp:=h.id.B5;have hid:=h.id.id;have hT:TmS n s 0 (cK g (zG g.rp g.aQ)):=⟨rfl,h.id.dH,h.pl,rfl,by show fA.up g.rp=_;rw[hq.up,hs],by show mT g.aQ=_;rw[h.pl,afP hn];rfl,hb.num,hb.a⟩;obtain⟨gg,w2,g1,g2,g3⟩:=Yj hn (by omega) h.lg.w ⟨hls,by omega,h.lg.Qh.1⟩ hT h.id.p h.id.o (by show g.num<=_;omega);refine⟨gg,g1 8,w2,_,g3.le (by omega),rfl,rfl,L,s,wA,P+1,⟨⟨g2,h.lg.ok,.inr ⟨s,e,rfl,hs1,hx,OM⟩,h.lg.fst,h.lg.wf⟩,?_,⟨L.length,hq,by omega,λ_=>rfl⟩,h.pl,h.nd,λj x hx h1=>(h.ids j x hx h1).imp (λ⟨q1,q2,q3⟩=>⟨q1,q2,by show x.nu<=g.fQ+1;omega⟩) id,h.wA,⟨by omega,by omega⟩,h.ne⟩⟩;refine⟨rfl,rfl,rfl,rfl,rfl,?_,?_,?_⟩
 ·show 0<=g.num+(n:Int)/\g.num+(n:Int)<=1000000000000+10000*((M+1:Nat):Int);omega
 ·show 0<=g.ga/\g.ga<=((M+1:Nat):Int)/\0<=g.fQ+1/\g.fQ+1<=((M+1:Nat):Int);omega
 ·exact hid
theorem Ax{node dz:Int}(h1:0<=dz/\dz<=100)(h2:0<=node/\node<=100){K:Int}(hK:0<=K):Qe (iM node dz n (p0 n) fu) K:=
 ⟨rfl,rfl,rfl,rfl,rfl,by show 0<=dz*4294967296/\dz*4294967296<=_;omega,by show(0:Int)<=0/\(0:Int)<=K/\(0:Int)<=0/\(0:Int)<=K;omega,by show 0<=dz/\dz<=1000/\_;exact⟨h1.1,by omega,h2⟩⟩
theorem z8.aL(hn:1<=n/\n<=4)(h:z8 n B M I true g w)(hM:M<=150)(hI:I<=40):
 gf 9 (cK (iM 9 I n (p0 n) fu) (gb qu)) (kB (iM 9 I n (p0 n) fu) (gb qu))/\∃w2 d,eO (I:=iN) 1000 w (kB (iM 9 I n (p0 n) fu) (gb qu)) w2 d/\d.out=[]/\d.waits=true/\d.bH.err=0/\
  (∃T,fA.T g.rp=some T/\fA.T d.rp=some T/\ey B T)/\(∃k:Nat,fA.nx g.rp=k/\fA.nx d.rp=(k:Int)+1/\k<=1000)/\d.aQ=p1 n/\g.aQ=p1 n/\z8 n B (M+1) (I+1) false g w2:=by
 obtain⟨L,low,wA,P,h⟩:=h;have hl:=h.len;have Yr:((M:Nat):Int)<=1000:=by omega
 obtain⟨k,hq,iV,hk⟩:=h.q;obtain rfl:=hk rfl;have hd:Qe (iM 9 I n (p0 n) fu:eA) 0:=Ax (by omega) (by decide) (Int.le_refl _);refine⟨C2 hd (by decide) (oQ qu),?_⟩
 have yO:iL (iM 9 I n (p0 n) fu:eA)=73+65536*(I:Int):=by
  show 64*((0:Int)+1)+65536*(I:Int)+9=_;omega
 have hwA:=h.wA;have kE:∀bk,-1<=bk->bk<=1000000->qt L (rD (iM 9 I n (p0 n) fu:eA) (gb qu) bk):=λbk b1 b2=>s8 xB (by decide) hd (by decide) b1 b2
 obtain⟨w2,d,bk,b1,b2,hr,hA⟩:=Qg (g:=(iM 9 I n (p0 n) fu:eA)) (j:=gb qu) hn (by omega) h.lg.ok (by omega) h.lg.Qh (e0:=1) (i0:=some ⟨1,wA,1,wA,vL n⟩) ⟨h.lg.w.len,h.lg.w.us,.inr ⟨h.lg.w.e,h.lg.w.nn,h.lg.w.f⟩,h.lg.w.aQ⟩ (.inr rfl) (.inr ⟨wA,rfl,by rw[yO];exact hwA⟩) h.lg.low hd (by decide) rfl rfl (oQ qu) (by rw[yO];omega) kE (λbk j y hy h1 hid=>by
  have e1:y.cl=9:=congrArg Prod.fst hid;have e2:y.bi=I:=congrArg (λz:rl=>z.2.1) hid;rcases h.ids j y hy h1 with⟨q,_⟩|⟨_,q⟩<;>omega) rfl
 obtain⟨e,he⟩:∃e,e=rD (iM 9 I n (p0 n) fu:eA) (gb qu) bk:=⟨_,rfl⟩;have hst:stepT (ff L) e=ff L:=by rw[he,yP xB];rfl
 have heo:qt L e:=by rw[he];exact kE bk b1 b2
 have akf:e.cl=9/\e.bi=I/\e.kind=1:=by rw[he];exact⟨rfl,rfl,rfl⟩
 have I7:iR L e=nQ (ff L) [47]:=by
  unfold iR;rw[aq (by omega),show jx e.pl=some qu by rw[he];exact qs xB];rfl
 rw[<-he]at hA;rw[yO]at hA;have hlen:(L++[e]).length=L.length+1:=by simp
 refine⟨w2,d,hr,hA.o,hA.w,by rw[hA.bH,I7];exact Tc h.lg.wf,⟨ff L,by rw[hq.T,List.take_length],?_,h.lg.wf⟩,⟨L.length,hq.nx,by rw[hA.q.nx];omega,by omega⟩,hA.pl,h.pl,L++[e],low,73+65536*(I:Int),P+5,⟨⟨by rw[hlen];exact hA.nd,h.lg.ok.app heo,Qi h.lg.low e,Qj h.lg.fst λ_=>akf.2.2,by rw[tL,hst];exact h.lg.wf⟩,?_,⟨L.length,hq.Da e,iV,λh=>(by cases h)⟩,h.pl,h.nd,λj x hx h1=>?_,by omega,⟨by rw[hlen];omega,by omega⟩,by rw[hlen];omega⟩⟩
 ·rw[hA.q.T,show L.length+1=(L++[e]).length from hlen.symm,List.take_length,tL,hst]
 ·have h1:=h.id;have h2:=h.id.num;have h3:=h.id.B5;exact⟨h1.b,h1.w,h1.p,h1.o,h1.dH,by omega,by omega,h1.id⟩
 ·rcases Qk hx with h'|rfl
  ·rcases h.ids j x h' h1 with q|⟨q1,q2⟩
   ·exact .inl q
   ·exact .inr ⟨q1,by omega⟩
  ·exact .inr ⟨akf.1,by omega⟩
theorem z8.le(h:z8 n B M I f g w){B' M' I':Nat}(hB:B<=B')(hM:M<=M')(hI:I<=I'):z8 n B' M' I' f g w:=by
 obtain⟨L,low,wA,P,h⟩:=h;have h1:=h.id;have h2:=h.id.num;have h3:=h.id.B5;have h4:=h.wA;have h5:=h.len;exact⟨L,low,wA,P,⟨h.lg.w,h.lg.ok,h.lg.low,h.lg.fst,h.lg.wf.le hB⟩,⟨h1.b,h1.w,h1.p,h1.o,h1.dH,by omega,by omega,h1.id⟩,h.q,h.pl,h.nd,λj x hx hk=>(h.ids j x hx hk).imp id λq=>⟨q.1,by omega⟩,by omega,⟨by omega,by omega⟩,h.ne⟩
theorem Ff(hn:1<=n/\n<=4){x:eK}(hx:px x=true)(hs:x.path.length<=300/\x.aL.length<=300/\x.data.length<=600):
 ∃w2 g2 bk,-1<=bk/\bk<=1000000/\eO (I:=iN) 1000 (gW n) (kB (iM 8 0 n (p0 n) fu) (gb x)) w2 g2/\Aft n [] (rD (iM 8 0 n (p0 n) fu:eA) (gb x) bk) 0 72 5 0 (iM 8 0 n (p0 n) fu) w2 g2:=by
 have hd:Qe (iM 8 0 n (p0 n) fu:eA) 0:=Ax (by decide) (by decide) (Int.le_refl _);have hL0:lD ([]:List cj):=λk e h=>by cases h
 have hus:∀u∈(gW n).us,US 0 none [] 0 0 u:=λu hu=>by
  obtain rfl:=List.eq_of_mem_replicate hu;exact⟨rfl,rfl,rfl,rfl,funext λk=>by unfold pD;split<;>rfl,Nat.le_refl _⟩
 have yO:iL (iM 8 0 n (p0 n) fu:eA)=72:=rfl;exact Qg (g:=(iM 8 0 n (p0 n) fu:eA)) (L:=[]) (low:=0) (P:=0) (w:=gW n) (j:=gb x) hn (by decide) hL0 (by decide) ⟨by decide,by decide⟩ (e0:=0) (i0:=none) ⟨by unfold gW;simp,hus,.inl ⟨rfl,rfl⟩,rfl⟩ (.inl rfl) (.inl rfl) (.inl rfl) hd (by decide) rfl rfl (oQ x) (by rw[yO];decide) (λbk b1 b2=>s8 hx hs hd (by decide) b1 b2) (λbk j y hy h1 hid=>by cases hy) rfl
theorem z8.first(hn:1<=n/\n<=4){x:eK}(hx:px x=true)(hs:x.path.length<=300/\x.aL.length<=300/\x.data.length<=600):
 gf 9 (cK (iM 8 0 n (p0 n) fu) (gb x)) (kB (iM 8 0 n (p0 n) fu) (gb x))/\∃w2 g2,eO (I:=iN) 1000 (gW n) (kB (iM 8 0 n (p0 n) fu) (gb x)) w2 g2/\g2.out=[]/\g2.waits=true/\z8 n 2 1 I true (bS g2) w2:=by
 have hd:Qe (iM 8 0 n (p0 n) fu:eA) 0:=Ax (by decide) (by decide) (Int.le_refl _);refine⟨C2 hd (by decide) (oQ x),?_⟩;obtain⟨w2,g2,bk,b1,b2,hr,hA⟩:=Ff hn hx hs;refine⟨w2,g2,hr,hA.o,hA.w,GZ (M:=0) hA rfl (λk e h=>by cases h) (s8 hx hs hd (by decide) b1 b2) (.inl rfl) (by decide) (λy hy=>by cases hy) (λ_=>rfl) (by rw[yP hx];exact Gv.do (Nat.le_refl _) _ _ _ _ _ _) ⟨rfl,rfl,rfl⟩ (λj y hy=>by cases hy) ⟨rfl,rfl,rfl⟩ (by omega) ⟨by decide,by decide⟩⟩
end
def G0:eK:=⟨1,[47,97],[],0,0,[]⟩
theorem Ay:px G0=true:=by kernel_rfl
theorem akg{a:aG}{n c:Nat}{es:List p9}{k j:Nat}{x:p9}{v:Int}(hk:es[k]? =some x)(hj:x.aJ.toList[j]? =some (an v)):aM prog (bO 3 (.pointer (a.map λy=>(y.add (k*16)).add j))) (PL eI a n c es) (an v):=by
 have hlt:j<16:=(List.getElem?_eq_some_iff.1 hj).1;refine cU Tryz.underlying3 (by kernel_rfl) (by kernel_rfl) (PL.rd (K:=eI) a n c es) (k:=k*16) (off:=j) ?_;rw[gQ eI.aJ 16 eI.len es k j x hk hlt];exact hj
theorem afS:(zx sH 1 [47,97] [] 0 0 []).2.err=0:=by decide+kernel
theorem afT:(zx sH 1 [47,97] [] 0 0 []).1.length=2:=by decide+kernel
theorem bX.zero(S:HP):bX S Option.none 0 []:=⟨λw R h F s a j u hj=>by simp at hj,λ_ _ _ _=>rfl⟩
theorem qv{g:eA}(h:g.out=[]):nf g=g:=by
 cases g;dsimp only at h;subst h;rfl
theorem Td:gf 9 (cK (iM 8 0 2 (p0 2) fu) (gb G0)) (kB (iM 8 0 2 (p0 2) fu) (gb G0))/\∃w2 g2,eO (I:=iN) 1000 (gW 2) (kB (iM 8 0 2 (p0 2) fu) (gb G0)) w2 g2/\g2.out=[]/\g2.waits=true/\g2.bH.err=0/\g2.id=(8,0,1)/\∃T,fA.T g2.rp=some T/\T.length=2/\ey 2 T:=by
 have hd:Qe (iM 8 0 2 (p0 2) fu:eA) 0:=Ax (by decide) (by decide) (Int.le_refl _);refine⟨C2 hd (by decide) (oQ G0),?_⟩;obtain⟨w2,g2,bk,b1,b2,hr,hA⟩:=Ff (n:=2) (by decide) Ay (by decide);refine⟨w2,g2,hr,hA.o,hA.w,?_,hA.idd,_,hA.q.T,?_⟩
 ·rw[hA.bH]
  have e:∀q:cj,q.kind=1->jx q.pl=some G0->iR [] q=(zx sH 1 [47,97] [] 0 0 []).2:=λq h1 h2=>by
   unfold iR;rw[aq (by omega),h2];rfl
  rw[e _ rfl (qs Ay)];exact afS
 ·have e:∀q:cj,q.kind=1->jx q.pl=some G0->ff (([]++[q]).take ([]:List cj).length.succ)=(zx sH 1 [47,97] [] 0 0 []).1:=λq h1 h2=>by
   show stepT sH q=_;unfold stepT;rw[aB h1,h2];rfl
  rw[show ff _=_ from e _ rfl (qs Ay)];exact⟨afT,Gv.do (Nat.le_refl _) _ _ _ _ _ _⟩
set_option maxHeartbeats 4000000 in
theorem KN:az prog 4 #[] tt (λv=>aA (v=.bool true) tt):=by
 refine ao (ρ:=[]) {fk:=tI,aF:=tJ,link:=[(22,0)],K3:=true,dN:=true,dv:=true,ck:=tK} [] [] 0 ?_;refine(E1 2 (by decide) (by decide)).wk ?_;rintro v R h ⟨bw,rfl,r,hk,H⟩;refine⟨bw,DN bw (gW 2) r,rfl,⟨_,_,_,_,vj (vs:=[an (gW 2).aQ.ep,.slice r.pa r.iG.length r.pc]) (by kernel_rfl) (by kernel_rfl) (by kernel_rfl) rfl rfl,?_⟩,H⟩;clear H;obtain⟨Rb,w2,g2,fg,ho,hwt,ao5,hid,T,hT,hT2,hwf⟩:=Td;refine(CN (I:=iN) fu yN 8 0 2 (gW 2).aQ.ep r.pa r.iG.length r.pc r.iG (DN bw (gW 2) r) (λR h H=>PW.part (k:=2) rfl H) (by decide) hk.pb.1 hk.pb.2).wk ?_;rintro v R h ⟨bc,rfl,H⟩;rw[show(⟨(gW 2).aQ.ep,r.iG.map (·.l)⟩:rx)=p0 2 by rw[hk.p];rfl]at H;refine⟨pt bc,bA bc (iM 8 0 2 (p0 2) fu:eA),vr bw (gW 2),rfl,?_,ae H (λ_ h=>h) λ_ h=>⟨r,hk,h⟩⟩;clear H
 have hdo:sL FQ (iM 8 0 2 (p0 2) fu) G0=(kB (iM 8 0 2 (p0 2) fu) (gb G0),0):=by
  unfold sL;rw[aq (by rintro(h|h)<;>cases h),aB Ay];exact congrArg (·,(0:Int)) Rb.2
 refine(At (I:=iN) G0 none 0 tt (bX.zero _) (λh=>absurd rfl h) (by decide) (by decide) (λ_ _=>Rb.1)).aK (λ_ _ h=>aD h) ?_;rintro v R h ⟨rfl,H⟩;rw[show sL iN.F (iM 8 0 2 (p0 2) fu) G0=_ from hdo]at H⊢
 let g:eA:=iM 8 0 2 (p0 2) fu
 let m0:MS:=ux (cK g (gb G0)) (CY (cK g (gb G0)))
 have hout:(kB g (gb G0)).out=[m0]:=rfl;refine⟨0,bA bc (kB g (gb G0)),rfl,?_,ai H⟩;clear H;refine Kk.wk ?_;rintro v R h ⟨a,c,es,⟨rfl,he⟩,H⟩;rw[hout]at he
 obtain⟨x,rfl⟩:∃x,es=[x]:=by
  have:=congrArg List.length he;simp at this;exact List.length_eq_one_iff.1 this
 have kM:x.m=m0:=by simpa using he
 have ha:a.isSome=true:=QO (ai H) (by simp);have hx:[x][0]? =some x:=rfl;have hk8:x.m.kind=8:=by rw[kM];rfl
 have ht7:x.m.to=7:=by rw[kM];rfl
 refine⟨a,1,c,PL eI a 1 c [x],bA bc (nf (kB g (gb G0))),rfl,⟨λh=>absurd rfl h,λ_=>⟨λh=>absurd rfl h,λ_=>⟨by decide,λ_=>⟨ha,λ_=>⟨x.m.kind,akg (k:=0) (j:=4) hx rfl,λh=>absurd hk8 h,λ_=>⟨x.m.to,akg (k:=0) (j:=1) hx rfl,λh=>absurd ht7 h,λ_=>⟨_,_,_,_,_,_,_,_,_,_,_,_,_,_,_,_,_,_,_,_,ldM (k:=0) hx,?_⟩⟩⟩⟩⟩⟩⟩,H⟩;clear H;have Lr:afJ (gW 2) x.m:=λ_=>⟨by rw[kM];rfl,.inl hk8,by show(0:Int)<=0;decide⟩
 obtain⟨r1,w1,g1,QC,A4,akh⟩:∃r1 w1 g1,jm (gW 2) x.m=(some r1,w1)/\TkS (I:=iN) (nf (kB g (gb G0))) r1 g1/\eO (I:=iN) 999 w1 g1 w2 g2:=by
  rw[kM];have kL:(jm (gW 2) m0).1.isSome=true:=rfl;obtain⟨r1,hr1⟩:=Option.isSome_iff_exists.1 kL
  obtain⟨w1,g1,hc,xF⟩:∃w1 g1,xw (I:=iN) (gW 2) (nf (kB g (gb G0))) [m0] w1 g1/\eO (I:=iN) 999 w1 g1 w2 g2:=by
   generalize hq:kB g (gb G0)=q at fg hout;cases fg with
   |done h=>rw[hout]at h;cases h
   |step _ h h2=>rw[hout]at h;exact⟨_,_,h,h2⟩
  cases hc with
  |@cons _ _ _ _ g4 _ _ _ hmt iY=>
   cases iY;rw[hr1]at hmt;exact⟨r1,_,_,Prod.ext hr1 rfl,hmt,xF⟩
 refine((CQ (b:=bw) (w:=gW 2) x.m x.ca x.cc x.va x.vc Lr).frame (PL eI a 1 c [x])).aK (λR h H=>?_) ?_
 ·obtain⟨d1,d2⟩:=ac9 (x:=x) List.mem_cons_self (ah H) h;have H1:=HP.pick [x.m.cW x.ca,x.m.cI x.va,vr bw (gW 2),PL eI a 1 c [x]] [2,0,1,3] (by decide) rfl (bN.join d1 (bN.join d2 H));exact aC (ae H1 (λ_ h=>h) λ_ h=>aC h)
 rintro v R h ⟨mK,Zo,d,l1,l2,⟨kT,qU,kU,qV,rfl,H⟩,HK⟩;have H:=au (A:=vr bw (jm (gW 2) x.m).2) ⟨mK,Zo,d,l1,l2,H,HK⟩;rw[QC]at H⊢;refine⟨r1.fr,r1.to,r1.num,r1.bV,r1.kind,r1.ep,r1.at',r1.cell.what,kT,r1.cell.data.length,qU,r1.cW kT,r1.br,r1.bw,kU,r1.val.length,qV,r1.cI kU,r1.err,r1.tail,r1.low,r1.back,true,vr bw w1,tt,rfl,λblk=>?_,?_⟩;rotate_left
 ·have H1:=ae H (λ_ h=>h) λ_ h=>ae (au (ae h (λ_ h=>ah (ah h)) λ_ h=>h)) (λ_ h=>h) λ_ h=>h;have H2:=HP.pick [vr bw w1,r1.cW kT,r1.cI kU,PL eI a 1 c [x]] [1,2,0,3] (by decide) rfl H1;exact ae H2 (λ_ h=>h) λ_ h=>ae h (λ_ h=>h) λ_ h=>ae h (λ_ h=>h) λ_ _=>trivial
 clear H HK;refine(EW r1 kT qU kU qV A4.s A4.ok).aK (λR h H=>H) ?_;rintro v R h ⟨a',⟨rfl,Fw⟩,H⟩;rw[A4.eq a' Fw]at H;refine⟨bA bc g1,tt,tt,rfl,⟨λh=>absurd rfl h,λ_=>?_⟩,ae (aD H) (λ_ h=>h) λ_ h=>aD h⟩;clear H;refine(sZ (bw:=bw) (bc:=bc) akh (by decide)).aK (λR h H=>H) ?_;rintro v R h ⟨rfl,H⟩;refine⟨true,vr bw w2,bA bc (nf g2),rfl,⟨λh=>absurd rfl h,λ_=>?_⟩,H⟩;clear H;refine mu.wk ?_;rintro v R h ⟨da,dc,na,nc,rfl,H⟩;rw[qv ho]at H⊢;rw[aB hwt,aB hwt,hwt,hid];refine⟨8,0,1,g2.bH.err,g2.bH.kind,g2.bH.size,g2.bH.bo,da,g2.bH.data.length,dc,bE da g2.bH.data.length g2.bH.data,na,g2.bH.bp.length,nc,zU na g2.bH.bp.length g2.bH.bp,true,bA bc (bS g2),rfl,λb1 b2=>⟨λ_=>⟨λ_=>⟨λ_=>⟨λ_=>?_,λh=>absurd rfl h⟩,λh=>absurd rfl h⟩,λh=>absurd ao5 h⟩,λh=>absurd rfl h⟩,H⟩;clear H;have hT':fA.T (bS g2).rp=some T:=by rw[(C3 g2).1];exact hT
 refine(vq (B:=2) (by decide) λT' e=>by rw[hT']at e;cases e;exact hwf).wk ?_;rintro v R h ⟨a2,c2,rfl,H⟩;rw[hT']at H⊢;refine⟨a2,T.length,c2,_,rfl,.of λR h H=>⟨?_,trivial⟩,H⟩;rw[hT2];rfl
end
section
open Go.ChangeShapes Go.Deep Go.RowKit Go.WideShapes RX
structure fW where
 kind:Int
 path:ax
 aL:ax
 off:Int
 n:Int
 data:ax
 da:aG
 dc:Nat
abbrev fW.aJ(x:fW):List Value:=[an x.kind,.string ⟨x.path.toArray⟩,.string ⟨x.aL.toArray⟩,an x.off,an x.n,.slice x.da x.data.length x.dc]
def fW.hp(x:fW):HP:=HP.both (HP.pure (okI x.kind)) (HP.both (HP.pure (x.path.length<=9223372036854775807)) (HP.both (HP.pure (x.aL.length<=9223372036854775807)) (HP.both (HP.pure (okI x.off)) (HP.both (HP.pure (okI x.n)) (aA (x.data.length<=140737488355328) (bE x.da x.data.length x.data))))))
theorem fW.iF(x:fW)(R h h':PH)(H:(x.hp).p R h):(x.hp).p R h':=⟨H.1,⟨H.2.1,⟨H.2.2.1,⟨H.2.2.2.1,⟨H.2.2.2.2.1,H.2.2.2.2.2⟩⟩⟩⟩⟩
instance:Inhabited fW:=⟨⟨0,[],[],0,0,[],none,0⟩⟩
def G1:o5 fW:=⟨6,by decide,fW.aJ,λ_=>rfl,fW.hp,fW.iF⟩
theorem fW.aby{H:Type}{enc:TypeId×Value->H}{w:World}{cs:List Value}{n:Nat}{x:DataW H×List MemPlace}(h:DataW.trod enc prog w 0 (λ_=>true) true n 39 cs=some x)(hs:Small prog 39 x.1):∃m:fW,cs=G1.aJ m/\∀h,(G1.hp m).p (lw w) h:=by
 obtain⟨TE,n0,_,G9,hl0,aki,Wf⟩:=DataW.trod_struct Tryz.underlying39 h;replace aki:TE.length=6:=aki
 have hs0:Small prog 39 (.agg (TE.map (·.1))):=by
  have e:=G9
  first|(subst e;exact hs)|(rw[e]at hs;exact hs)|(have e2:=congrArg Prod.fst e;rw[<-e2];exact hs)|(rw[<-e];exact hs)
 obtain⟨c0,e0,w0⟩:=xQ Tryz.underlying3 (show 0<TE.length by omega) (by kernel_rfl) (Wf 0 _ rfl);obtain⟨c1,e1,w1⟩:=D8 Tryz.underlying9 (show 1<TE.length by omega) (by kernel_rfl) (Wf 1 _ rfl);obtain⟨c2,e2,w2⟩:=D8 Tryz.underlying9 (show 2<TE.length by omega) (by kernel_rfl) (Wf 2 _ rfl);obtain⟨c3,e3,w3⟩:=xQ Tryz.underlying3 (show 3<TE.length by omega) (by kernel_rfl) (Wf 3 _ rfl);obtain⟨c4,e4,w4⟩:=xQ Tryz.underlying3 (show 4<TE.length by omega) (by kernel_rfl) (Wf 4 _ rfl);obtain⟨a5,l5,k5,e5⟩:=Ii Tryz.underlying37 (show 5<TE.length by omega) (by kernel_rfl) (Wf 5 _ rfl);have q5:=Wf 5 _ rfl;rw[List.getElem?_eq_getElem (show 5<TE.length by omega)]at q5
 have g5:DataW.trod enc prog w 0 (λ_=>true) true n0 37 [.slice a5 l5 k5]=some TE[5]:=by
  rw[<-adY e5];exact q5
 have s5:Small prog 37 TE[5].1:=Small.part (i:=5) hs0 Tryz.underlying39 rfl (by rw[List.getElem?_map,List.getElem?_eq_getElem (show 5<TE.length by omega)];rfl);obtain⟨b5,d5,m5,r5,y5,z5⟩:=Dk g5 s5;simp only[Value.slice.injEq]at r5;obtain⟨rfl,rfl,rfl⟩:=r5;have hlen:cs.length=6:=hl0.trans (by kernel_rfl);refine⟨⟨c0,c1,c2,c3,c4,d5,a5,k5⟩,?_,λhh=>⟨Bd w0,⟨w1,⟨w2,⟨Bd w3,⟨Bd w4,⟨y5,z5 hh⟩⟩⟩⟩⟩⟩⟩;clear h hl0 Wf q5 g5 s5;revert e0 e1 e2 e3 e4 e5
 match cs,hlen with
 |[u0,u1,u2,u3,u4,u5],_=>
  intro e0;obtain rfl:u0=.int _ c0:=Option.some.inj e0;intro e1;obtain rfl:u1=.string ⟨c1.toArray⟩:=Option.some.inj e1;intro e2;obtain rfl:u2=.string ⟨c2.toArray⟩:=Option.some.inj e2;intro e3;obtain rfl:u3=.int _ c3:=Option.some.inj e3;intro e4;obtain rfl:u4=.int _ c4:=Option.some.inj e4;intro e5;obtain rfl:u5=.slice a5 d5.length k5:=Option.some.inj e5;rfl
end
section
open RX
abbrev oS:o5 fW:=G1
abbrev afV(x:fW):List Value:=x.aJ
def fW.m(x:fW):kR:=⟨x.kind,x.path,x.aL,x.off,x.n,x.da,x.data.length,x.dc⟩
def NW(L:List fW):Prop:=∀x∈L,x.data.length≠0->x.da.isSome=true
theorem Te{a:aG}{n:Nat}{L:List fW}{R h:PH}(H:(Ls oS a n L).p R h):NW L:=λx hx hd=>bN.some (H.2.2 x hx).2.2.2.2.2.2 (by omega)
theorem Ys{a:aG}{n:Nat}{L:List fW}(hL:NW L){x:fW}(hx:x∈L):JM x.m (Ls oS a n L) x.data where
 rd:=⟨tN (bX.ro 1 x.da x.data.length (x.data.map eX)).rd λR h H=>(H.2.2 x hx).2.2.2.2.2.2,λR h H e=>(bX.ro 1 x.da x.data.length (x.data.map eX)).none R h (H.2.2 x hx).2.2.2.2.2.2 e⟩
 len:=rfl
 ur:=hL x hx
variable {b:Nat}{t:TS}
theorem abz:∃d,prog.underlying 39=some d:=Option.isSome_iff_exists.1 (by kernel_rfl)
theorem abA:∃d,prog.underlying 101=some d:=Option.isSome_iff_exists.1 (by kernel_rfl)
theorem abB:gZ prog 101=true:=by kernel_rfl
theorem afW:iA prog 101=5:=by kernel_rfl
theorem abC:gZ prog 39=true:=by kernel_rfl
theorem afX:iA prog 39=6:=by kernel_rfl
theorem Ls.some{α:Type}{K:o5 α}{a:aG}{n:Nat}{l:List α}{R h:PH}(H:(Ls K a n l).p R h)(hn:n≠0):a.isSome=true:=by
 exact bN.some H.2.1 (Nat.pos_of_ne_zero hn)
theorem KO{a:aG}{n:Nat}{l:List fW}{k:Nat}{x:fW}(hk:l[k]? =some x):aM prog (bO 39 (.pointer (a.map λy=>(y.add (k*6)).add 0))) (Ls oS a n l) (.agg (afV x).toArray):=by
 obtain⟨d,hd⟩:=abz;exact Ls.load (K:=oS) hd abC afX hk
theorem KP{a:aG}{n:Nat}{l:List dh}{k:Nat}{x:dh}(hk:l[k]? =some x):aM prog (bO 101 (.pointer (a.map λy=>(y.add (k*5)).add 0))) (Ls gM a n l) (.agg (eW x).toArray):=by
 obtain⟨d,hd⟩:=abA;exact Ls.load (K:=gM) hd abB afW hk
def n6(L:List fW):Bool:=decide (120<L.length)||L.any λx=>decide (300<x.path.length)||decide (300<x.aL.length)||decide (600<x.data.length)
set_option maxHeartbeats 1000000 in
theorem NX(a:aG)(n c:Nat)(L:List fW):az prog 5 #[.slice a n c] (Ls oS a n L) (λv=>aA (v=.bool (n6 L)) (Ls oS a n L)):=by
 refine az.cM (φ:=L.length=n/\(n≠0->a.isSome=true)) (λR h H=>⟨H.1,λhn=>Ls.some H hn⟩) λ⟨hl,ha⟩=>?_;refine ao (ρ:=[.a a,.n n,.n c,.p (Ls oS a n L)]) {fk:=tI,aF:=tJ,link:=[(22,0)],K3:=true,dN:=true,dv:=true,ck:=tK} [(.s 0)] [(0,3)] 4 ?_;refine⟨λh=>.of λR h' H=>⟨?_,H⟩,λh=>?_⟩
 ·have:120<L.length:=by omega
  simp[n6,this]
 refine⟨λ_ i=>∃k:Nat,i=k/\k<=n/\∀j x,j<k->L[j]? =some x->x.path.length<=300/\x.aL.length<=300/\x.data.length<=600,λ_ i=>n - i.toNat,⟨0,rfl,Nat.zero_le _,λj x hj=>absurd hj (by omega)⟩,?_⟩;rintro _ _ ⟨k,rfl,hk,hb⟩;refine⟨λhlt=>⟨by omega,λ_=>⟨ha (by omega),λ_=>?_⟩⟩,λlH=>.of λR h' H=>⟨?_,H⟩⟩
 ·obtain⟨x,hx⟩:∃x,L[k]? =some x:=⟨_,List.getElem?_eq_getElem (by omega)⟩;have kM:=List.mem_of_getElem? hx;refine⟨x.kind,x.path,x.aL,x.off,x.n,x.da,x.data.length,x.dc,KO hx,λq=>?_⟩
  have key:300<x.path.length\/300<x.aL.length\/600<x.data.length->n6 L=true:=λh=>by
   unfold n6;rw[Bool.or_eq_true,List.any_eq_true];refine .inr ⟨x,kM,?_⟩;simp only[Bool.or_eq_true,decide_eq_true_eq];omega
  have sz:∀l:ax,(⟨l.toArray⟩:ByteArray).size=l.length:=λl=>by simp[ByteArray.size]
  refine⟨λh=>.of λR h' H=>⟨?_,H⟩,λh1=>⟨λh=>.of λR h' H=>⟨?_,H⟩,λh2=>⟨λh=>.of λR h' H=>⟨?_,H⟩,λh3=>⟨eU _ (by omega) (by omega),λ_=>⟨⟨k+1,by omega,by omega,λj y hj hy=>?_⟩,by dsimp only;omega⟩⟩⟩⟩⟩
  ·rw[key (by omega)]
  ·rw[key (by omega)]
  ·rw[key (by omega)]
  ·rcases Nat.lt_or_eq_of_le (Nat.le_of_lt_succ hj)with h|h
   ·exact hb j y h hy
   ·subst h;rw[hx]at hy;cases hy;omega
 ·have:n6 L=false:=by
   unfold n6;rw[Bool.or_eq_false_iff];refine⟨by simp;omega,?_⟩;rw[List.any_eq_false];intro x hx;obtain⟨j,hj⟩:=List.mem_iff_getElem?.1 hx;have L4:=(List.getElem?_eq_some_iff.1 hj).1;have:=hb j x (by omega) hj;simp;omega
  rw[this]
end
namespace RX
-- cH/YO.Same:ρ:=[.a aa,.n al,.n ac,.p aP,.a ba,.n bl,.n bc,.p bP]
abbrev Yt:Hp:=[(0,3),(4,7)]
end RX
section
open RX
instance alv:DecidableEq fH:=λr s=>decidable_of_iff (r.err=s.err/\r.kind=s.kind/\r.size=s.size/\r.bo=s.bo/\r.data=s.data/\r.bp=s.bp) ⟨λ⟨h1,h2,h3,h4,h5,h6⟩=>by cases r;cases s;simp only at h1 h2 h3 h4 h5 h6;subst h1 h2 h3 h4 h5 h6;rfl,λh=>by subst h;exact⟨rfl,rfl,rfl,rfl,rfl,rfl⟩⟩
theorem bX.isSome{S:HP}{a:aG}{n:Nat}{xs:List Value}(r:bX S a n xs){R h:PH}(H:S.p R h)(hn:n≠0):a.isSome=true:=by
 cases a with
 |some x=>rfl
 |none=>exact absurd (r.none R h H rfl) hn
theorem G2{α:Type}{l m:List α}{k:Nat}{x y:α}(hx:l[k]? =some x)(hy:m[k]? =some y)(h:l.take k=m.take k)(e:x=y):l.take (k+1)=m.take (k+1):=by
 rw[List.take_add_one,List.take_add_one,hx,hy,h,e]
theorem Tf{α:Type}{l:List α}{k:Nat}(h:k<l.length):∃x,l[k]? =some x:=⟨_,List.getElem?_eq_getElem h⟩
theorem Yu{α:Type}{l m:List α}{k:Nat}{x y:α}(hx:l[k]? =some x)(hy:m[k]? =some y)(h:x≠y):l≠m:=λe=>by
 subst e;rw[hx]at hy;exact h (Option.some.inj hy)
theorem Tg(a:aG)(n c:Nat)(la:ax)(b:aG)(m d:Nat)(lb:ax)(Sa Sb:HP)(hA:bX Sa a n (la.map eX))(hB:bX Sb b m (lb.map eX))(hla:la.length=n)(hlb:lb.length=m)(hn:n<=140737488355328):
 az prog 34 #[.slice a n c,.slice b m d] (aj Sa Sb) (λv=>aA (v=.bool (decide (la=lb))) (aj Sa Sb)):=by
 refine az.cM (φ:=(n≠0->a.isSome=true)/\(m≠0->b.isSome=true)) (λR h H=>⟨hA.isSome (ai H),hB.isSome (ah H)⟩) λ⟨ha,hb⟩=>?_;refine ao (ρ:=[.a a,.n n,.n c,.p Sa,.a b,.n m,.n d,.p Sb]) {aF:=[34,13],dv:=true} [(.s 0),(.s 4)] Yt 8 ?_;refine⟨λh=>.of λR h' H=>⟨?_,H⟩,λh=>?_⟩
 ·rw[decide_eq_false];intro e;subst e;omega
 have hnm:n=m:=by omega
 subst hnm;refine⟨λ_ i=>∃k:Nat,i=k/\k<=n/\la.take k=lb.take k,λ_ i=>n - i.toNat,⟨0,rfl,Nat.zero_le _,rfl⟩,?_⟩;rintro x _ ⟨k,rfl,hk,hpre⟩;refine⟨λhlt=>⟨by omega,λ_=>⟨ha (by omega),λ_=>?_⟩⟩,λlH=>.of λR h' H=>⟨?_,H⟩⟩
 ·obtain⟨x,hx⟩:=Tf (l:=la) (k:=k) (by omega);obtain⟨y,hy⟩:=Tf (l:=lb) (k:=k) (by omega);have ra:=cU Io Zi sz8 hA.rd (k:=(k:Int).toNat*1) (off:=0) (v:=eX x) (by rw[Int.toNat_natCast,Nat.mul_one,Nat.add_zero,List.getElem?_map,hx];rfl);have rb:=cU Io Zi sz8 hB.rd (k:=(k:Int).toNat*1) (off:=0) (v:=eX y) (by rw[Int.toNat_natCast,Nat.mul_one,Nat.add_zero,List.getElem?_map,hy];rfl);refine⟨_,ra,by omega,λ_=>⟨hb (by omega),λ_=>⟨_,rb,λh1=>.of λR h' H=>⟨by rw[decide_eq_false (Yu hx hy λe=>h1 (by rw[e]))],H⟩,λh1=>⟨eU _ (by omega) (by omega),λ_=>⟨⟨k+1,by omega,by omega,G2 hx hy hpre (UInt8.toNat_inj.1 (by omega))⟩,by dsimp only;omega⟩⟩⟩⟩⟩
 ·have LG:k=n:=by omega
  subst LG;rw[List.take_of_length_le (by omega),List.take_of_length_le (by omega)]at hpre;rw[decide_eq_true hpre]
theorem ao6{x y:ax}:((⟨x.toArray⟩:ByteArray).toList==(⟨y.toArray⟩:ByteArray).toList)=decide (x=y):=by
 rw[ByteArray.toList_eq,ByteArray.toList_eq]
 by_cases e:x=y
 ·subst e;simp
 ·simp[e]
theorem NY{w:World}(r r':Nm)(q q':Int):(Op.equal 104 (.agg #[sE r,an q]) (.agg #[sE r',an q'])).run prog w=.ok (decide (r=r')&&decide (q=q')) w:=by
 have hs:prog.stoodInHeld 104=false:=by kernel_rfl
 have hi:prog.underlying 3=some (.int .i64):=by kernel_rfl
 have ht:prog.underlying 9=some .string:=by kernel_rfl
 have e2:∀n,(Op.equalIn (n+2) 104 (.agg #[sE r,an q]) (.agg #[sE r',an q'])).run prog w=.ok (decide (r=r')&&decide (q=q')) w:=λn=>by
  rw[Op.equalIn];simp only[Sem.run_bind,RX.run_underlying Tryz.underlying104,Result.andThen_ok];simp[program,Sem.run,hs,Result.andThen]
  have pt:∀(cs:dI) (off:Nat) (v:Value),cs[off]? =some v->(part 9 cs off).run prog w=.ok v w:=λcs off v h=>by
   have ha:gZ prog 9=false:=by kernel_rfl
   simp only[part,Sem.run_bind,RX.iB ht,Result.andThen_ok,ha,Bool.false_eq_true,if_false,h];rfl
  have pi:∀(cs:dI) (off:Nat) (v:Value),cs[off]? =some v->(part 3 cs off).run prog w=.ok v w:=λcs off v h=>by
   have ha:gZ prog 3=false:=by kernel_rfl
   simp only[part,Sem.run_bind,RX.iB hi,Result.andThen_ok,ha,Bool.false_eq_true,if_false,h];rfl
  have p0:∀(a:Nm) (b:Int),Sem.run prog (part 9 #[sE a,Value.int IntKind.i64 b] 0) w=.ok (sE a) w:=λa b=>pt _ _ _ rfl;have p1:∀(a:Nm) (b:Int),Sem.run prog (part 3 #[sE a,Value.int IntKind.i64 b] 1) w=.ok (an b) w:=λa b=>pi _ _ _ rfl
  have eqi:∀(n:Nat) (a b:Int),(Op.equalIn (n+1) 3 (an a) (an b)).run prog w=.ok (decide (a=b)) w:=λn a b=>by
   simp only[Op.equalIn,Sem.run_bind,RX.run_underlying hi,Result.andThen_ok,if_true,Sem.run_pure];rfl
  have eqs:∀(n:Nat) (a b:Nm),(Op.equalIn (n+1) 9 (sE a) (sE b)).run prog w=.ok (decide (a=b)) w:=λn a b=>by
   show(Op.equalIn (n+1) 9 (.string _) (.string _)).run prog w=_;rw[run_equalIn_string w n 9 _ _ ht,ao6]
  simp only[p0,eqs]
  by_cases h1:r=r'
  ·simp[h1,Sem.run_bind,p1,eqi]
   by_cases h2:q=q'
   ·simp[h2]
   ·simp[h2]
  ·simp[h1]
 exact e2 9998
theorem afY{i j:Nat}{ty u:TypeId}(h:i≠j){r r':Nm}{q q':Int}{A:HP}:
 aM prog (bZ (.binOp .neq 104 (.tmp i) (.tmp j) u) ty [(i,.agg #[sE r,an q]),(j,.agg #[sE r',an q'])]) A (.bool (!(decide (r=r')&&decide (q=q')))):=λw R hh F s _=>by
 have h':(i==j)=false:=by simpa using h
 have hg:prog.eqGuardType prog.depth 104=false:=by kernel_rfl
 simp only[bZ,execOp,lW,List.find?_cons,beq_self_eq_true,h'];simp[eqGuard,binOp,hg,program,Sem.run_bind,Sem.run,Result.andThen,NY]
instance ao7:DecidableEq Nd:=λr s=>decidable_of_iff (r.num=s.num/\r.kind=s.kind/\r.bo=s.bo/\r.data=s.data/\r.ay=s.ay) ⟨λ⟨h1,h2,h3,h4,h5⟩=>by cases r;cases s;simp only at h1 h2 h3 h4 h5;subst h1 h2 h3 h4 h5;rfl,λh=>by subst h;exact⟨rfl,rfl,rfl,rfl,rfl⟩⟩
theorem Fg{a:aG}{n:Nat}{es:List dh}{x:dh}(hx:x∈es):bX (Ls gM a n es) x.da x.nd.data.length (x.nd.data.map eX):=
 ⟨tN (bX.ro 1 x.da x.nd.data.length (x.nd.data.map eX)).rd λR h H=>(H.2.2 x hx).1,λR h H e=>(bX.ro 1 x.da x.nd.data.length (x.nd.data.map eX)).none R h (H.2.2 x hx).1 e⟩
theorem afZ:∃d,prog.underlying 104=some d:=Option.isSome_iff_exists.1 (by kernel_rfl)
theorem af0:gZ prog 104=true:=by kernel_rfl
theorem akj:iA prog 104=2:=by kernel_rfl
theorem Ql{a:aG}{n:Nat}{es:List dh}{x:dh}(hx:x∈es){k:Nat}{e:Nm×Nat}(hk:x.nd.ay[k]? =some e):aM prog (bO 104 (.pointer (x.ea.map λy=>(y.add (k*2)).add 0))) (Ls gM a n es) (.agg #[sE e.1,an e.2]):=by
 obtain⟨d,hd⟩:=afZ;exact aM.aT (.of λR h H=>(H.2.2 x hx).2) (Ls.load (K:=tO) hd af0 akj hk)
theorem Qm{a:aG}{n:Nat}{es:List dh}{R h:PH}(H:(Ls gM a n es).p R h):∀x∈es,x.nd.ay.length≠0->x.ea.isSome=true:=λx hx hn=>Ls.some (H.2.2 x hx).2 hn
set_option maxHeartbeats 1000000 in
theorem G3(a:aG)(n c:Nat)(es:List dh)(b:aG)(m d:Nat)(fs:List dh)(hb:∀x∈es,x.nd.data.length<=140737488355328/\x.nd.ay.length<=140737488355328)(hn:n<=140737488355328):
 az prog 13 #[.slice a n c,.slice b m d] (aj (Ls gM a n es) (Ls gM b m fs)) (λv=>aA (v=.bool (decide (es.map (·.nd)=fs.map (·.nd)))) (aj (Ls gM a n es) (Ls gM b m fs))):=by
 refine az.cM (φ:=(es.length=n/\fs.length=m)/\((n≠0->a.isSome=true)/\(m≠0->b.isSome=true))/\(∀x∈es,x.nd.ay.length≠0->x.ea.isSome=true)/\(∀x∈fs,x.nd.ay.length≠0->x.ea.isSome=true)) (λR h H=>⟨⟨(ai H).1,(ah H).1⟩,⟨λh=>Ls.some (ai H) h,λh=>Ls.some (ah H) h⟩,Qm (ai H),Qm (ah H)⟩) λ⟨⟨hl,hm⟩,⟨ha,YE⟩,hea,heb⟩=>?_;refine ao (ρ:=[.a a,.n n,.n c,.p (Ls gM a n es),.a b,.n m,.n d,.p (Ls gM b m fs)]) {aF:=[34,13],dv:=true,jn:=[((20,10),some {ss:=[.n,.n,.i,.i,.i,.a,.n,.n,.a,.n,.n,.i,.i,.i,.a,.n,.n,.a,.n,.n],n:=30,tv:=[(20,none),(21,none),(22,none),(23,none),(24,none),(25,none),(26,none),(27,none),(6,some (.ptr 10 0)),(7,some (.ptr 11 0))],h:=[((.b 11),(.cells [12,13,14,(.s 15),(.s 18)] 101)),((.b 10),(.cells [21,22,23,(.s 24),(.s 27)] 101)),(0,3),(4,7)],lk:=[(15,(.a 4)),(18,(.a 4)),(24,(.a 0)),(27,(.a 0))]})]} [(.s 0),(.s 4)] Yt 8 ?_;have no:es.map (·.nd)≠fs.map (·.nd)->HP.aT (aj (Ls gM a n es) (Ls gM b m fs)) (aA (Value.bool false=.bool (decide (es.map (·.nd)=fs.map (·.nd)))) (aj (Ls gM a n es) (Ls gM b m fs))):=λh=>.of λR h' H=>⟨by rw[decide_eq_false h],H⟩;refine⟨λh=>no λe=>?_,λh=>?_⟩
 ·have:=congrArg List.length e;simp only[List.length_map]at this;omega
 have hnm:n=m:=by omega
 refine⟨λ_ i=>∃k:Nat,i=k/\k<=n/\(es.map (·.nd)).take k=(fs.map (·.nd)).take k,λ_ i=>n - i.toNat,⟨0,rfl,Nat.zero_le _,rfl⟩,?_⟩;rintro x0 _ ⟨k,rfl,hk,hpre⟩;refine⟨λhlt=>?_,λlH=>.of λR h' H=>⟨?_,H⟩⟩
 ·obtain⟨x,hx⟩:=Tf (l:=es) (k:=k) (by omega);obtain⟨y,hy⟩:=Tf (l:=fs) (k:=k) (by omega);have kM:=List.mem_of_getElem? hx;have KV:=List.mem_of_getElem? hy;have QI:(es.map (·.nd))[k]? =some x.nd:=by rw[List.getElem?_map,hx];rfl
  have I6:(fs.map (·.nd))[k]? =some y.nd:=by rw[List.getElem?_map,hy];rfl
  have hxb:=hb x kM;refine⟨λ_ _ n2 k2 l2 da2 dl2 dc2 ea2 el2 ec2 n1 k1 l1 da1 dl1 dc1 ea1 el1 ec1=>n2=y.nd.num/\k2=y.nd.kind/\l2=y.nd.bo/\da2=y.da/\dl2=y.nd.data.length/\dc2=y.dc/\ea2=y.ea/\el2=y.nd.ay.length/\ec2=y.ec/\n1=x.nd.num/\k1=x.nd.kind/\l1=x.nd.bo/\da1=x.da/\dl1=x.nd.data.length/\dc1=x.dc/\ea1=x.ea/\el1=x.nd.ay.length/\ec1=x.ec,?_,?_⟩
  ·refine⟨by omega,λ_=>⟨ha (by omega),λ_=>⟨x.nd.num,x.nd.kind,x.nd.bo,x.da,x.nd.data.length,x.dc,x.ea,x.nd.ay.length,x.ec,KP hx,by omega,λ_=>⟨YE (by omega),λ_=>⟨y.nd.num,y.nd.kind,y.nd.bo,y.da,y.nd.data.length,y.dc,y.ea,y.nd.ay.length,y.ec,KP hy,?_⟩⟩⟩⟩⟩;exact⟨λ_ _=>⟨rfl,rfl,rfl,rfl,rfl,rfl,rfl,rfl,rfl,rfl,rfl,rfl,rfl,rfl,rfl,rfl,rfl,rfl⟩,λ_ _=>⟨rfl,rfl,rfl,rfl,rfl,rfl,rfl,rfl,rfl,rfl,rfl,rfl,rfl,rfl,rfl,rfl,rfl,rfl⟩⟩
  rintro _ _ _ _ _ _ _ _ _ _ _ _ _ _ _ _ _ _ _ _ ⟨rfl,rfl,rfl,rfl,rfl,rfl,rfl,rfl,rfl,rfl,rfl,rfl,rfl,rfl,rfl,rfl,rfl,rfl⟩;have dif:x.nd≠y.nd->es.map (·.nd)≠fs.map (·.nd):=Yu QI I6;refine⟨λh=>no (dif λe=>h (by rw[e])),λe1=>⟨λh=>no (dif λe=>h (by rw[e])),λe2=>⟨λh=>no (dif λe=>h (by rw[e])),λe3=>?_⟩⟩⟩;refine(Tg x.da _ x.dc x.nd.data y.da _ y.dc y.nd.data (Ls gM a n es) (Ls gM b m fs) (Fg kM) (Fg KV) rfl rfl hxb.1).wk ?_;rintro v R h ⟨rfl,H⟩;refine⟨_,rfl,⟨λh=>no (dif λe=>h (by rw[e];simp)),λe4=>⟨λh=>no (dif λe=>h (by rw[e])),λe5=>?_⟩⟩,H⟩;have e4':=of_decide_eq_true e4;clear H;refine⟨λ_ i=>∃j:Nat,i=j/\j<=x.nd.ay.length/\x.nd.ay.take j=y.nd.ay.take j,λ_ i=>x.nd.ay.length - i.toNat,⟨0,rfl,Nat.zero_le _,rfl⟩,?_⟩;rintro x1 _ ⟨j,rfl,hj,Yv⟩;refine⟨λLv=>⟨by omega,λ_=>⟨hea x kM (by omega),λ_=>?_⟩⟩,λaiM=>?_⟩
  ·obtain⟨p,hp⟩:=Tf (l:=x.nd.ay) (k:=j) (by omega);obtain⟨q,hq⟩:=Tf (l:=y.nd.ay) (k:=j) (by omega);refine⟨p.1,p.2,Ql kM hp,by omega,λ_=>⟨heb y KV (by omega),λ_=>⟨q.1,q.2,Ql KV hq,_,afY (by decide),λh=>no (dif λe=>?_),λh=>⟨eU _ (by omega) (by omega),λ_=>⟨⟨j+1,by omega,by omega,G2 hp hq Yv ?_⟩,by dsimp only;omega⟩⟩⟩⟩⟩
   ·have:p=q:=by rw[e]at hp;rw[hp]at hq;exact Option.some.inj hq
    subst this;simp at h
   ·simp at h;exact Prod.ext h.1 (by have:=h.2;omega)
  ·have e6:x.nd.ay=y.nd.ay:=by
    rw[List.take_of_length_le (by omega),List.take_of_length_le (by omega)]at Yv;exact Yv
   have e7:x.nd=y.nd:=by
    obtain⟨⟨a1,a2,a3,a4,a5⟩,_,_,_,_⟩:=x;obtain⟨⟨b1,b2,b3,b4,b5⟩,_,_,_,_⟩:=y;simp only at e1 e2 e3 e4' e6⊢;have:a1=b1:=by omega
    subst this e2 e3 e4' e6;rfl
   exact⟨eU _ (by omega) (by omega),λ_=>⟨⟨k+1,by omega,by omega,G2 QI I6 hpre e7⟩,by dsimp only;omega⟩⟩
 ·have LG:k=n:=by omega
  subst LG;rw[List.take_of_length_le (by simp;omega),List.take_of_length_le (by simp;omega)]at hpre;rw[decide_eq_true hpre]
def fW.cq(x:fW):eK:=⟨x.kind,x.path,x.aL,x.off,x.n,x.data⟩
theorem abD{L:List fW}(h:¬n6 L=true):∀x∈L,x.path.length<=300/\x.aL.length<=300/\x.data.length<=600:=λx hx=>by
 have h':n6 L=false:=by simpa using h
 unfold n6 at h';rw[Bool.or_eq_false_iff,List.any_eq_false]at h';have:=h'.2 x hx;simp only[Bool.or_eq_true,decide_eq_true_eq]at this;omega
def G4(N k:Nat)(g:eA)(w:nr):Prop:=(g=iM 8 0 N (p0 N) fu/\w=gW N)\/z8 N (k+1) (4*k) k true g w
theorem G4.abE{N k:Nat}{g:eA}{w:nr}(h:G4 N k g w)(hk:k<=30):¬(g.busy=true\/g.waits=true)/\(0<=g.fQ/\g.fQ<=1000000000000):=by
 rcases h with⟨rfl,_⟩|⟨_,_,_,_,h⟩
 ·exact⟨(by rintro(h|h)<;>cases h),show(0:Int)<=0/\(0:Int)<=1000000000000 by decide⟩
 ·have h1:=h.id;have h3:=h.id.B5;exact⟨(by rw[h1.b,h1.w];rintro(h|h)<;>cases h),by omega,by omega⟩
theorem G4.next{N k:Nat}{g:eA}{w:nr}(h:G4 N k g w):G4 N (k+1) g w:=h.imp id λh=>h.le (by omega) (by omega) (by omega)
theorem G4.call{N k:Nat}{g:eA}{w:nr}(hn:1<=N/\N<=4)(h:G4 N k g w)(hk:k<=30){x:eK}(hx:px x=true)(hs:x.path.length<=300/\x.aL.length<=300/\x.data.length<=600):
 gf 9 (cK g (gb x)) (kB g (gb x))/\∃w2 g2,eO (I:=iN) 1000 w (kB g (gb x)) w2 g2/\g2.out=[]/\g2.waits=true/\z8 N (k+2) (4*k+1) k true (bS g2) w2:=by
 rcases h with⟨rfl,rfl⟩|h
 ·obtain⟨h1,w2,g2,h2,h3,h4,h5⟩:=z8.first hn (I:=k) hx hs
  exact⟨h1,w2,g2,h2,h3,h4,h5.le (by omega) (by omega) (Nat.le_refl _)⟩
 ·exact h.call hn (by omega) hx hs λT wf=>wf.do (by omega) _ _ _ _ _ _
theorem Yw{g:eA}{x:eK}(hi:¬(g.busy=true\/g.waits=true))(hx:px x=true)(Rb:gf 9 (cK g (gb x)) (kB g (gb x))):sL FQ g x=(kB g (gb x),0):=by
 unfold sL;rw[aq hi,aB hx];exact congrArg (·,(0:Int)) Rb.2
theorem af1{g:eA}{x:eK}(hi:¬(g.busy=true\/g.waits=true))(hx:¬px x=true):sL FQ g x=(g,1):=by
 unfold sL;rw[aq hi,aq hx]
theorem z8.abE{n B M I:Nat}{f:Bool}{g:eA}{w:nr}(h:z8 n B M I f g w)(hM:M<=1000):¬(g.busy=true\/g.waits=true)/\(0<=g.fQ/\g.fQ<=1000000000000):=by
 obtain⟨_,_,_,_,h⟩:=h;have h1:=h.id;have h3:=h.id.B5;exact⟨(by rw[h1.b,h1.w];rintro(h|h)<;>cases h),by omega,by omega⟩
theorem abF{g:eA}(hi:¬(g.busy=true\/g.waits=true)){T:List Nd}(hT:fA.T g.rp=some T)(Rb:gf 9 (cK g (oP g.rp T)) (kB g (oP g.rp T))):pB g=(kB g (oP g.rp T),0):=by
 unfold pB;rw[aq hi,hT];exact congrArg (·,(0:Int)) Rb.2
theorem Yx{g:eA}(hi:¬(g.busy=true\/g.waits=true))(h:fA.at' g.rp<0):mJ g=(g,5):=by
 unfold mJ;rw[aq hi,aB h]
theorem abG{g gg:eA}(hi:¬(g.busy=true\/g.waits=true))(h:¬fA.at' g.rp<0)(Rb:gf 9 (cK g (zG g.rp g.aQ)) gg):mJ g=(gg,0):=by
 unfold mJ;rw[aq hi,aq h];exact congrArg (·,(0:Int)) Rb.2
theorem abH{k n:Nat}(h:n≠0):∃j:Nat,j<n/\(k:Int).tmod (n:Int)=j:=⟨k%n,Nat.mod_lt _ (by omega),Int.ofNat_tmod k n |>.symm⟩
set_option maxHeartbeats 16000000 in
theorem C4(size:Int)(a:aG)(n c:Nat)(L:List fW)(ta:aG)(tc:Nat)(wh:List Int):
 az prog 3 #[an size,.slice a n c,.slice ta wh.length tc] (aj (Ls oS a n L) (Ls Lz ta wh.length wh)) (λv=>HP.pure (v=.bool true)):=by
 refine az.cM (φ:=(L.length=n/\(n≠0->a.isSome=true)/\NW L)/\(wh.length≠0->ta.isSome=true)) (λR h H=>⟨⟨(ai H).1,λhn=>Ls.some (ai H) hn,Te (ai H)⟩,λhn=>bN.some (ah H).2.1 (by omega)⟩) λ⟨⟨hl,ha,hL⟩,hta⟩=>?_;refine ao (ρ:=[.i size,.a a,.n n,.n c,.p (Ls oS a n L),.a ta,.n wh.length,.n tc,.p (Ls Lz ta wh.length wh)]) {fk:=tI,hv:=[(0,[(.a 17),(.b 11),(.a 1)])],aF:=tJ,link:=[(22,0)],K3:=true,dN:=true,dv:=true,ck:=tK,jn:=[((3000019,10),some {ss:=[.c],n:=11,tv:=[(19,none),(20,none),(21,none),(22,none),(23,none),(24,none),(25,none),(26,none),(27,none),(28,none),(29,none),(30,some (.bool 10))],h:=[(1,4),(5,8)],lk:=[]}),((2000063,57),some {ss:=[.i],n:=58,tv:=[(64,none),(65,none),(66,none),(67,none),(68,none),(69,none),(70,none),(71,none),(12,some 57)],h:=[(47,50),(51,54),(17,56),(.b 11,38),(1,36),((.b 33),(.cells [25,(.str 26),(.str 27),28,29,(.s 30)] 39)),(5,8)],lk:=[]}),((3000072,58),some {ss:=[.c,.p],n:=60,tv:=[(72,none),(73,none),(74,none),(75,none),(76,none),(77,none),(78,none),(79,none),(80,none),(81,none),(82,none),(83,none),(84,none),(85,none),(86,none),(87,some (.bool 58))],h:=[(17,59),(47,50),(51,54),(.b 11,38),(1,36),((.b 33),(.cells [25,(.str 26),(.str 27),28,29,(.s 30)] 39)),(5,8)],lk:=[]}),((2000087,60),some {ss:=[.p,.p],n:=62,tv:=[(88,none),(89,none),(90,none),(91,none),(6,some (.bool 20)),(92,none),(93,none)],h:=[(17,60),(.b 11,61),(47,50),(51,54),(1,36),((.b 33),(.cells [25,(.str 26),(.str 27),28,29,(.s 30)] 39)),(5,8)],lk:=[]}),((3000101,69),some {ss:=[.c,.p,.p],n:=72,tv:=[(101,none),(102,none),(103,none),(104,none),(105,none),(106,none),(107,none),(108,none),(109,none),(110,some (.bool 69))],h:=[(66,70),(.b 11,71),(17,60),(47,50),(51,54),(1,36),((.b 33),(.cells [25,(.str 26),(.str 27),28,29,(.s 30)] 39)),(5,8)],lk:=[]}),((3000117,91),some {ss:=[.c],n:=92,tv:=[(117,none),(118,none),(119,none),(120,none),(121,none),(122,none),(123,none),(124,none),(125,none),(126,none),(127,none),(128,none),(129,none),(130,none),(131,none),(132,none),(133,none),(134,none),(135,none),(136,none),(137,none),(138,none),(139,none),(140,none),(141,none),(142,none),(143,none),(144,none),(145,none),(146,none),(147,none),(148,some (.bool 91))],h:=[((.b 90),(.cells [75,76,77,78,(.s 79),(.s 83)] 47)),((.b 89),(.cells [72,73,74] 44)),(79,82),(83,86),(66,88),(.b 11,71),(17,60),(47,50),(51,54),(1,36),((.b 33),(.cells [25,(.str 26),(.str 27),28,29,(.s 30)] 39)),(5,8)],lk:=[]}),((3000149,92),some {ss:=[.c,.p,.p],n:=95,tv:=[(149,none),(150,none),(151,none),(152,none),(153,none),(154,none),(155,none),(156,none),(157,none),(158,some (.bool 92))],h:=[(17,93),((.b 90),(.cells [75,76,77,78,(.s 79),(.s 83)] 47)),((.b 89),(.cells [72,73,74] 44)),(79,82),(83,86),(66,88),(.b 11,94),(47,50),(51,54),(1,36),((.b 33),(.cells [25,(.str 26),(.str 27),28,29,(.s 30)] 39)),(5,8)],lk:=[]}),((1000001,25),some {ss:=[.p,.p,.p],n:=28,tv:=[(48,none),(49,none),(50,none),(11,none),(10,none),(51,none),(52,none),(53,none),(54,none),(55,none),(56,none),(57,none),(58,none),(6,some (.bool 20)),(59,none),(60,none),(12,none),(61,none),(62,none),(63,none),(64,none),(65,none),(66,none),(67,none),(68,none),(69,none),(70,none),(71,none),(72,none),(73,none),(74,none),(75,none),(76,none),(77,none),(78,none),(79,none),(80,none),(81,none),(82,none),(83,none),(84,none),(85,none),(86,none),(87,none),(88,none),(89,none),(90,none),(91,none),(92,none),(93,none),(94,none),(95,none),(96,none),(97,none),(98,none),(99,none),(100,none),(13,none),(101,none),(102,none),(103,none),(104,none),(105,none),(106,none),(107,none),(108,none),(109,none),(110,none),(112,none),(113,none),(111,none),(114,none),(115,none),(116,none),(14,none),(15,none),(16,none),(117,none),(118,none),(119,none),(120,none),(121,none),(122,none),(123,none),(124,none),(125,none),(126,none),(127,none),(128,none),(129,none),(130,none),(131,none),(132,none),(133,none),(134,none),(135,none),(136,none),(137,none),(138,none),(139,none),(140,none),(141,none),(142,none),(143,none),(144,none),(145,none),(146,none),(147,none),(148,none),(149,none),(150,none),(151,none),(152,none),(153,none),(154,none),(155,none),(156,none),(157,none),(158,none),(159,none),(160,none)],h:=[(17,25),(1,26),(.b 11,27),(5,8)],lk:=[]})]} [0,(.s 1),(.s 5)] [(1,4),(5,8)] 9 ?_
 try simp only[amA,ne_eq,Nat.reduceEqDiff,not_false_eq_true]
 refine KN.aK (λ_ _ _=>trivial) ?_;rintro v R h ⟨rfl,_⟩;refine⟨true,rfl,⟨λh=>absurd rfl h,λ_=>?_⟩,trivial⟩;refine⟨λb=>b=false->(¬n6 L=true)/\n<=25,?_,?_⟩
 ·refine(NX a n c L).wk ?_;rintro v R h ⟨rfl,H⟩;refine⟨n6 L,rfl,⟨λ_ h=>(by cases h),λhg=>⟨λ_ h=>(by cases h),λh25 h=>⟨hg,by omega⟩⟩⟩,H⟩
 rintro b hb;refine⟨λ_=>.of λR h H=>trivial,λhbf=>?_⟩;obtain⟨hg,h25⟩:=hb (by simpa using hbf);obtain⟨N,hN⟩:∃N:Nat,size%4+1=N:=⟨_,(Int.toNat_of_nonneg (by omega)).symm⟩;have hn:1<=N/\N<=4:=by omega
 simp(maxSteps:=10000000) only[hN];refine⟨bh _ (by omega) (by omega),λ_=>?_⟩;refine(E1 N hn.1 (by omega)).aK (λ_ _ _=>trivial) ?_;rintro v R h ⟨bw,rfl,r,hk,H⟩;refine⟨bw,DN bw (gW N) r,rfl,⟨_,_,_,_,vj (vs:=[an (gW N).aQ.ep,.slice r.pa r.iG.length r.pc]) (by kernel_rfl) (by kernel_rfl) (by kernel_rfl) rfl rfl,?_⟩,H⟩;clear H;refine(CN (I:=iN) fu yN 8 0 N (gW N).aQ.ep r.pa r.iG.length r.pc r.iG (DN bw (gW N) r) (λR h H=>PW.part (k:=2) rfl H) (by decide) hk.pb.1 hk.pb.2).wk ?_;rintro v R h ⟨bc,rfl,H⟩;rw[show(⟨(gW N).aQ.ep,r.iG.map (·.l)⟩:rx)=p0 N by rw[hk.p];rfl]at H;refine⟨pt bc,bA bc (iM 8 0 N (p0 N) fu:eA),vr bw (gW N),rfl,?_,ae H (λ_ h=>h) λ_ h=>⟨r,hk,h⟩⟩;clear H;refine⟨λ_ i P17 P11 P1=>∃(k:Nat) (g:eA) (w:nr),i=k/\k<=n/\P17=bA bc g/\P11=vr bw w/\P1=Ls oS a n L/\G4 N k g w,λ_ i _ _ _=>n - i.toNat,⟨0,_,_,rfl,Nat.zero_le _,rfl,rfl,rfl,.inl ⟨rfl,rfl⟩⟩,?_⟩;rintro cf _ _ _ _ ⟨k,g,w,rfl,hkn,rfl,rfl,rfl,hM⟩;refine⟨λhlt=>?_,λlH=>.of λR h H=>trivial⟩;refine⟨λQ17 Q1 Q11=>∃g w,Q17=bA bc g/\Q1=Ls oS a n L/\Q11=vr bw w/\G4 N (k+1) g w,?_,?_⟩
 ·obtain⟨x,hx⟩:∃x,L[k]? =some x:=⟨_,List.getElem?_eq_getElem (by omega)⟩;have kM:=List.mem_of_getElem? hx;have hsz:=abD hg x kM;have af3:k<=30:=by omega
  have hid:=hM.abE af3;refine⟨by omega,λ_=>⟨ha (by omega),λ_=>⟨x.kind,x.path,x.aL,x.off,x.n,x.da,x.data.length,x.dc,KO hx,λq=>?_⟩⟩⟩;refine(At (I:=iN) x.cq x.da x.dc (Ls oS a n L) (Ys hL kM).rd (hL x kM) ⟨Nat.le_trans hsz.1 (by decide),Nat.le_trans hsz.2.1 (by decide),Nat.le_trans hsz.2.2 (by decide)⟩ hid.2 (λh1 h2=>(hM.call hn af3 h2 hsz).1.1)).wk ?_;rintro v R h ⟨rfl,H⟩
  by_cases A9:px x.cq=true
  rotate_left
  ·rw[show sL iN.F g x.cq=_ from af1 hid.1 A9]at H⊢;exact⟨1,bA bc g,Ls oS a n L,rfl,⟨λ_=>⟨g,w,rfl,rfl,rfl,hM.next⟩,λh=>absurd h (by decide)⟩,H⟩
  obtain⟨Rb,w2,g2,fg,ho,hwt,hS⟩:=hM.call hn af3 A9 hsz;rw[show sL iN.F g x.cq=_ from Yw hid.1 A9 Rb]at H⊢;refine⟨0,bA bc (kB g (gb x.cq)),Ls oS a n L,rfl,⟨λh=>absurd rfl h,λ_=>?_⟩,H⟩;clear H;refine(sZ (bw:=bw) (bc:=bc) fg (by decide)).aK (λR h H=>H) ?_;rintro v R h ⟨rfl,h1,h2,d,l1,l2,⟨r2,Ed,H1⟩,H2⟩;rw[qv ho]at H2;refine⟨true,DN bw w2 r2,bA bc g2,rfl,⟨λh=>absurd rfl h,λ_=>?_⟩,⟨h1,h2,d,l1,l2,H1,H2⟩⟩;clear H1 H2;refine mu.wk ?_;rintro v R h ⟨da,dc,na,nc,rfl,H⟩;rw[aB hwt,aB hwt,hwt];refine⟨_,_,_,g2.bH.err,g2.bH.kind,g2.bH.size,g2.bH.bo,da,g2.bH.data.length,dc,bE da g2.bH.data.length g2.bH.data,na,g2.bH.bp.length,nc,zU na g2.bH.bp.length g2.bH.bp,true,bA bc (bS g2),rfl,?_,H⟩;clear H;obtain⟨g1,hg1⟩:∃g1,g1=bS g2:=⟨_,rfl⟩;rw[<-hg1]at hS⊢;refine⟨λ_=>True,?_,?_⟩
  ·refine⟨λhw0=>?_,λ_=>trivial⟩;obtain⟨t,htl,ht⟩:=abH (k:=k) (n:=wh.length) (by omega);simp(maxSteps:=10000000) only[ht];have hgt:wh[t]? =some wh[t]:=List.getElem?_eq_getElem htl;generalize wh[t]=p at hgt;have hrt:aM prog (bO 3 (.pointer (ta.map λy=>(y.add ((t:Int).toNat*1)).add 0))) (Ls Lz ta wh.length wh) (an p):=Ls.aca (K:=Lz) rV Dj Oz (off:=0) hgt rfl;exact⟨by omega,λ_=>⟨by omega,λ_=>⟨by omega,λ_=>⟨hta (by omega),λ_=>⟨p,hrt,trivial⟩⟩⟩⟩⟩
  rintro kd _;refine⟨λb Q=>∃g',Q=bA bc g'/\(b=true->∃w2' g2',eO (I:=iN) 1000 w2 g' w2' g2'/\g2'.out=[]/\g2'.waits=true/\z8 N (k+2) (4*k+2) k true (bS g2') w2')/\(b=false->g'=g1),?_,?_⟩
  ·have hi:=hS.abE (by omega);refine⟨λk1=>?_,λk1=>⟨λk2=>?_,λk2=>⟨g1,rfl,λh=>(by cases h),λ_=>rfl⟩⟩⟩
   ·obtain⟨T,hT,hwf,hsl,akl,w3,g3,hr3,ho3,hw3,hS3⟩:=hS.ajC hn (by omega) (by omega);refine(SS (B:=k+2) (by omega) (λT' e=>by rw[hT]at e;cases e;exact⟨hwf,hsl⟩) hi.2 (λ_ T' e=>by rw[hT]at e;cases e;exact akl.1)).wk ?_;rintro v R h ⟨rfl,H⟩;rw[abF hi.1 hT akl]at H⊢;exact⟨0,_,rfl,⟨λ_=>⟨_,rfl,λ_=>⟨w3,g3,hr3,ho3,hw3,hS3⟩,λh=>(by cases h)⟩,λh=>absurd rfl h⟩,H⟩
   ·obtain⟨hrt,htr⟩:=hS.ao4 hn (by omega);refine(SU hrt hi.2 (λ_ h0=>let⟨gg,hgg,_⟩:=htr h0;hgg.1)).wk ?_;rintro v R h ⟨rfl,H⟩
    by_cases h0:fA.at' g1.rp<0
    ·rw[Yx hi.1 h0]at H⊢;exact⟨5,bA bc g1,rfl,⟨g1,rfl,λh=>(by cases h),λ_=>rfl⟩,H⟩
    ·obtain⟨gg,hgg,w3,g3,hr3,ho3,hw3,hS3⟩:=htr (by omega);rw[abG hi.1 h0 hgg]at H⊢;exact⟨0,bA bc gg,rfl,⟨gg,rfl,λ_=>⟨w3,g3,hr3,ho3,hw3,hS3⟩,λh=>(by cases h)⟩,H⟩
  rintro b2 _ ⟨g',rfl,ako,af4⟩;refine⟨λQ17 Q11=>∃g' w' r',Q17=bA bc g'/\Q11=DN bw w' r'/\NdK w' r'/\z8 N (k+2) (4*k+2) k true g' w',⟨λTk=>?_,λTk=>?_⟩,?_⟩
  ·obtain⟨w3,g3,hr3,ho3,hw3,hS3⟩:=ako Tk;refine(sZ (bw:=bw) (bc:=bc) hr3 (by decide)).aK (λR h H=>ae H (λ_ h=>⟨r2,Ed,h⟩) λ_ h=>h) ?_;rintro v R h ⟨rfl,h1,h2,d,l1,l2,⟨r3,ON,H1⟩,H2⟩;rw[qv ho3]at H2;refine⟨true,DN bw w3 r3,bA bc g3,rfl,⟨λh=>absurd rfl h,λ_=>?_⟩,⟨h1,h2,d,l1,l2,H1,H2⟩⟩;clear H1 H2;refine mu.wk ?_;rintro v R h ⟨da,dc,na,nc,rfl,H⟩;rw[aB hw3,aB hw3,hw3];exact⟨_,_,_,g3.bH.err,g3.bH.kind,g3.bH.size,g3.bH.bo,da,g3.bH.data.length,dc,bE da g3.bH.data.length g3.bH.data,na,g3.bH.bp.length,nc,zU na g3.bH.bp.length g3.bH.bp,true,bA bc (bS g3),rfl,⟨_,_,r3,rfl,rfl,ON,hS3⟩,H⟩
  ·obtain rfl:=af4 (by simpa using Tk);exact⟨_,_,r2,rfl,rfl,Ed,hS.le (Nat.le_refl _) (by omega) (Nat.le_refl _)⟩
  rintro _ _ ⟨g3,w3,r3,rfl,rfl,ON,hS3⟩;refine⟨_,_,_,_,vj (vs:=[an w3.aQ.ep,.slice r3.pa r3.iG.length r3.pc]) (by kernel_rfl) (by kernel_rfl) (by kernel_rfl) rfl rfl,?_⟩;refine(CN (I:=iN) fu yN 9 k N w3.aQ.ep r3.pa r3.iG.length r3.pc r3.iG (DN bw w3 r3) (λR h H=>PW.part (k:=2) rfl H) (by omega) ON.pb.1 ON.pb.2).wk ?_;rintro v R h ⟨bd,rfl,H⟩;obtain⟨UJ,w4,d4,yW,hod,hwd,hed,⟨T,hTg,hTd,hwf⟩,⟨nx,hng,iZ,ZO⟩,hpd,hpg,hS4⟩:=hS3.aL hn (by omega) (by omega);have G7:w3.aQ=p0 N:=by obtain⟨_,_,_,_,h⟩:=hS3;exact h.lg.w.aQ
  rw[show(⟨w3.aQ.ep,r3.iG.map (·.l)⟩:rx)=p0 N by rw[ON.p,<-G7]]at H;refine⟨pt bd,bA bd (iM 9 k N (p0 N) fu:eA),vr bw w3,rfl,?_,ae H (λ_ h=>h) λ_ h=>⟨r3,ON,h⟩⟩;clear H;refine⟨λb Q66 Q11=>b=false/\Q66=bA bd d4/\Q11=vr bw w4,?_,?_⟩
  ·have hi:¬((iM 9 k N (p0 N) fu:eA).busy=true\/(iM 9 k N (p0 N) fu:eA).waits=true):=by rintro(h|h)<;>cases h
   refine(At (I:=iN) qu none 0 tt (bX.zero _) (λh=>absurd rfl h) (by decide) (show(0:Int)<=0/\(0:Int)<=1000000000000 by decide) (λ_ _=>UJ.1)).aK (λ_ _ h=>aD h) ?_;rintro v R h ⟨rfl,H⟩;rw[show sL iN.F (iM 9 k N (p0 N) fu) qu=_ from Yw hi xB UJ]at H⊢;refine⟨0,bA bd (kB (iM 9 k N (p0 N) fu) (gb qu)),rfl,⟨λh=>absurd rfl h,λ_=>?_⟩,ai H⟩;clear H;refine(sZ (bw:=bw) (bc:=bd) yW (by decide)).aK (λR h H=>H) ?_;rintro v R h ⟨rfl,H⟩;rw[qv hod]at H;exact⟨true,vr bw w4,bA bd d4,rfl,⟨rfl,rfl,rfl⟩,H⟩
  rintro _ _ _ ⟨rfl,rfl,rfl⟩;refine⟨λh=>absurd h (by decide),λ_=>?_⟩;refine mu.wk ?_;rintro v R h ⟨da,dc,na,nc,rfl,H⟩;rw[aB hwd,aB hwd,hwd];obtain⟨s1,s2,_,_,_,_⟩:=C3 d4;refine⟨_,_,_,d4.bH.err,d4.bH.kind,d4.bH.size,d4.bH.bo,da,d4.bH.data.length,dc,bE da d4.bH.data.length d4.bH.data,na,d4.bH.bp.length,nc,zU na d4.bH.bp.length d4.bH.bp,true,bA bd (bS d4),rfl,λb5 b6=>?_,H⟩;clear H;refine⟨λb=>b=false,?_,?_⟩
  ·refine⟨λh=>absurd rfl h,λ_=>⟨λh=>absurd hed h,λ_=>?_⟩⟩;have nodes:∀ {g:eA},fA.T g.rp=some T->∀T',fA.T g.rp=some T'->ey (k+2) T':=λh T' e=>by rw[h]at e;cases e;exact hwf
   have akp:fA.T (bS d4).rp=some T:=by rw[s1];exact hTd
   refine(vq (B:=k+2) (by omega) (nodes hTg)).wk ?_;rintro v R h ⟨a1,c1,rfl,h1,h2,d,l1,l2,⟨G8,he1,H1⟩,H2⟩;rw[hTg]at he1 H1⊢;refine⟨a1,T.length,c1,Ls gM a1 T.length G8,rfl,?_,⟨h1,h2,d,l1,l2,H1,H2⟩⟩;clear H1 H2;refine(vq (B:=k+2) (by omega) (nodes akp)).wk ?_;rintro v R h ⟨a2,c2,rfl,h1,h2,d,l1,l2,⟨es2,he2,H1⟩,H2⟩;rw[akp]at he2 H1⊢;refine⟨a2,T.length,c2,Ls gM a2 T.length es2,rfl,?_,⟨h1,h2,d,l1,l2,H1,H2⟩⟩;clear H1 H2;have he1:G8.map (·.nd)=T:=he1;have he2:es2.map (·.nd)=T:=he2;have h64:=tG hwf;refine(G3 a1 T.length c1 G8 a2 T.length c2 es2 (λx hx=>?_) (by omega)).wk ?_
   ·have g:=hwf.jY x.nd (by rw[<-he1];exact List.mem_map.2 ⟨x,hx,rfl⟩);have q1:=g.data;have q2:=g.qP;exact⟨by omega,by omega⟩
   rintro v R h ⟨rfl,H⟩;rw[he1,he2];refine⟨true,by simp,⟨λh=>absurd rfl h,λ_=>?_⟩,H⟩;clear H;refine EX.wk ?_;rintro v R h ⟨rfl,H⟩;refine⟨FQ.nx (bS d4).rp,rfl,?_,H⟩;clear H;refine EX.wk ?_;rintro v R h ⟨rfl,H⟩;have q1:FQ.nx (bS d4).rp=(nx:Int)+1:=by rw[s1];exact iZ
   have q2:FQ.nx g3.rp=(nx:Int):=hng;rw[q1,q2];refine⟨(nx:Int),rfl,⟨bh _ (by omega) (by omega),λ_=>⟨λh=>absurd rfl h,λ_=>?_⟩⟩,H⟩;clear H;refine EY.wk ?_;rintro v R h ⟨a3,c3,es3,⟨rfl,_⟩,H⟩;refine⟨(bS d4).aQ.ep,a3,es3.length,c3,_,rfl,?_,H⟩;clear H;refine EY.wk ?_;rintro v R h ⟨a4,c4,es4,⟨rfl,_⟩,H⟩;refine⟨g3.aQ.ep,a4,es4.length,c4,_,rfl,?_,H⟩;rw[s2,hpd,hpg];show decide ((p1 N).ep<(p1 N).ep)=false;exact decide_eq_false (Int.lt_irrefl _)
  rintro _ rfl;refine⟨λh=>absurd h (by decide),λ_=>?_⟩;obtain⟨hgs,w5,g5,hr5,ho5,hw5,hS5⟩:=hS4.call (x:=KL) (B':=k+2) hn (by omega) KM (by decide) λT wf=>wf;refine⟨λb Q17 Q11=>b=false/\Q17=bA bc g5/\Q11=vr bw w5,?_,?_⟩
  ·have hi:=hS4.abE (by omega);refine(At (I:=iN) KL none 0 tt (bX.zero _) (λh=>absurd rfl h) (by decide) hi.2 (λ_ _=>hgs.1)).aK (λ_ _ h=>aD h) ?_;rintro v R h ⟨rfl,H⟩;rw[show sL iN.F g3 KL=_ from Yw hi.1 KM hgs]at H⊢;refine⟨0,bA bc (kB g3 (gb KL)),rfl,⟨λh=>absurd rfl h,λ_=>?_⟩,ai H⟩;clear H;refine(sZ (bw:=bw) (bc:=bc) hr5 (by decide)).aK (λR h H=>H) ?_;rintro v R h ⟨rfl,H⟩;rw[qv ho5]at H;exact⟨true,vr bw w5,bA bc g5,rfl,⟨rfl,rfl,rfl⟩,H⟩
  rintro _ _ _ ⟨rfl,rfl,rfl⟩;refine⟨λh=>absurd h (by decide),λ_=>?_⟩;refine mu.wk ?_;rintro v R h ⟨da,dc,na,nc,rfl,H⟩;rw[aB hw5,aB hw5,hw5];exact⟨_,_,_,g5.bH.err,g5.bH.kind,g5.bH.size,g5.bH.bo,da,g5.bH.data.length,dc,bE da g5.bH.data.length g5.bH.data,na,g5.bH.bp.length,nc,zU na g5.bH.bp.length g5.bH.bp,true,bA bc (bS g5),rfl,⟨_,w5,rfl,rfl,rfl,.inr hS5⟩,H⟩
 rintro _ _ _ ⟨g',w',rfl,rfl,rfl,hM'⟩;exact⟨bh _ (by omega) (by omega),λ_=>⟨⟨k+1,g',w',by omega,by omega,rfl,rfl,rfl,hM'⟩,by dsimp only;omega⟩⟩
end
section
open Go.ChangeAt Go.ChangeShapes Go.RowKit Go.WideShapes RX
theorem C5:prog.globalNamed "tideline/check.fours" =some 0:=by kernel_rfl
theorem NZ:(prog.globals[(0:Nat)]?).map (·.type)=some 259:=by kernel_rfl
theorem abI:prog.cellsOf 143=1:=by kernel_rfl
theorem akq{w:World}{x:String×DataW Unit}{r:List (String×DataW Unit)}{ps:List MemPlace}(h:DataW.LaidVars prog w (x::("tideline/check.fours",Rows.laid_tideline_check_fours)::r) ps):GR (lw w):=by
 obtain⟨_,_,_,_,_,q1,_,_,_,_,h2,_⟩:=h;obtain⟨g,t,cs,fuel,p,q,hg,ht,hv,htr,_,_⟩:=h2;rw[C5]at hg;cases hg;rw[NZ]at ht;cases ht;unfold World.var? at hv;rw[C5]at hv;simp only[Option.bind_some]at hv
 obtain⟨ty,fr,hh⟩:∃ty fr,w.heap[(0:Nat)]? =some (.cells cs ty fr):=by
  split at hv
  ·rename_i c ty fr e;cases hv;exact⟨ty,fr,e⟩
  ·cases hv
 refine⟨cs,ty,fr,hh,λi v hi=>?_⟩;obtain⟨xs,m,_,hx,hl,hn,Ts⟩:=DataW.trod_array ahN htr;have apd:i<16:=(List.getElem?_eq_some_iff.1 hi).1
 have hd:xs.map (·.1)=q7.map λn:Nat=>DataW.lit (.int .u32 ((n:Nat):Int)):=by
  have:=congrArg Prod.fst hx;unfold Rows.laid_tideline_check_fours at this;injection this with this;exact this.symm
 have h1:=Ts i apd;rw[abI,Nat.mul_one]at h1;have h3:(xs.map (·.1))[i]? =some (DataW.lit (.int .u32 (v:Int))):=by rw[hd,List.getElem?_map,hi];rfl
 rw[List.getElem?_map]at h3;obtain⟨y,hy,U5⟩:=Option.map_eq_some_iff.1 h3;rw[hy]at h1;obtain⟨z,hz,KS,_⟩:=DataW.trod_int acl h1;rw[KS]at U5
 have e:z=(v:Int):=by
  injection U5 with e;injection e
 subst e;have h5:(List.take 1 (cs.toList.drop i))[0]? =some (Value.int .u32 (v:Int)):=by rw[hz];rfl
 rw[List.getElem?_take,aB (by decide),List.getElem?_drop,Nat.add_zero]at h5;simpa using h5
end
section
open Go.ChangeShapes Go.Deep Go.RowKit Go.WideShapes RX
set_option maxRecDepth 100000 in
theorem yQ{H:Type}(enc:TypeId×Value->H)(base:Nat)(v0 v1 v2:Value)(w:World)
 (k0:Value.okWide prog w .any base 3 v0) (h0:∃d p,DataW.Trod enc prog w 0 (λ_=>true) true 3 v0 d p/\Small prog 3 d)
 (k1:Value.okWide prog w .any base 22 v1) (h1:∃d p,DataW.Trod enc prog w 0 (λ_=>true) true 22 v1 d p/\Small prog 22 d)
 (k2:Value.okWide prog w .any base 23 v2) (h2:∃d p,DataW.Trod enc prog w 0 (λ_=>true) true 23 v2 d p/\Small prog 23 d) (hG:GR (lw w)):
 Calls prog 3 #[v0,v1,v2] w λe w'=>e=.returned (.bool true)/\Below w.heap.size w w':=by
 obtain⟨n0,rfl,r0⟩:=QM k0 h0;obtain⟨a1,l1,c1,rfl,b1,z1⟩:=Bc G1 Tryz.underlying22 (by kernel_rfl) (of_decide_eq_true (by kernel_rfl)) fW.aby k1 h1;obtain⟨a2,l2,c2,rfl,b2,z2⟩:=Bc Lz Tryz.underlying23 (by kernel_rfl) (of_decide_eq_true (by kernel_rfl)) QN k2 h2;exact az.run (C4 n0 a1 l1.length c1 l1 a2 c2 l2) ⟨PH.cV,_,PH.eL _,PH.dB _,PH.le.refl _,z1 _,z2 _⟩ hG
end
end Go.Proofs.YtchjlaebbhpioaaGreatDoor
namespace Go.Proofs.YtchjlaebbhpioaaGreatDoor.clientFresh
open Go.ChangeShapes Go.WideShapes Go.ChangeAt Go.RowKit
open _root_.Go.Proofs.Tryz (prog)
set_option linter.unusedVariables false
theorem own:ownKnob prog.godebug=none:=by kernel_rfl
theorem G6:laidOutB prog=true:=by kernel_rfl
def zL:List (String×DataW Unit):=[("unicode/utf8.acceptRanges",Rows.laid_unicode_utf8_acceptRanges),("tideline/check.fours",Rows.laid_tideline_check_fours),("unicode/utf8.first",Rows.laid_unicode_utf8_first)]
set_option maxRecDepth 100000 in
theorem Yy(w:World):laidMetH prog zL w=laidMet prog zL w:=MakeChecks.laidMetH_plain _ _ _ (by kernel_rfl)
set_option maxRecDepth 100000 in
theorem Yz(os:Os)(args:dI):laidMetH prog zL ((World.laidAll prog os zL).forCall (λ_ _=>0) ⟨#[],args,[]⟩).memory:=by
 rw[Yy];exact laidMet_laidAll _ (by kernel_rfl) (by kernel_rfl)
end Go.Proofs.YtchjlaebbhpioaaGreatDoor.clientFresh
namespace Go.Proofs.YtchjlaebbhpioaaGreatDoor
open HP (aE aA aj tt aD ai au ae aC ak aW ah Az)
open _root_.Go.Proofs.Tryz (prog)
set_option maxRecDepth 100000
end Go.Proofs.YtchjlaebbhpioaaGreatDoor
namespace Go.Proofs.YtchjlaebbhpioaaGreatDoor.clientFresh
open Go.ChangeShapes Go.WideShapes Go.ChangeAt Go.RowKit
open _root_.Go.Proofs.Tryz (prog)
set_option linter.unusedVariables false
set_option maxRecDepth 100000 in
theorem lifted(os:Os)(started:os.Started)(H:Type)(enc:TypeId×Value->H):
 ReturnsInHanded {} Tryz.checked os 3 .any (λw args=>(Rows.clientFreshSpec.pre enc prog Tryz.f3 [] false w args/\laidMetH prog zL w)/\sizedMet enc prog Tryz.f3 (OpenSpec.ofChange Rows.clientFreshSpec) false w args) (Rows.clientFreshSpec.post enc prog Tryz.f3 false true false false):=by
 refine returnsInHanded_of_change_and (C:=Tryz.checked) (X:=λw _=>laidMetH prog zL w) (λ_ _ _ hh h=>h.of_heap hh) own started (by kernel_rfl) Tryz.func3
  (ChangeSpec.witness_shaped (enc:=enc) (C:=Tryz.checked) (os:=os) (X:=λw _=>laidMetH prog zL w) false (World.laidAll prog os zL) #[an 0,.slice none 0 0,.slice none 0 0] 8 (World.laidAll_os _ _ _) (World.shaped_of_ZipB (by kernel_rfl) (by kernel_rfl)) (by kernel_rfl) (by kernel_rfl) (by kernel_rfl) (Yz os _)) ?_
 intro W base args ds gs ape akr hW atZ aks hX _;have hG:GR (lw W):=by rw[Yy]at hX;obtain⟨_,hv,_⟩:=hX;exact akq hv
 have v8:∀(j:Nat) t v,Tryz.f3.params[j]? =some t->args[j]? =some v->Value.okWide prog W .any base t v:=akr;have hW':=hW;obtain⟨p,q,hA0,hV,rfl,hfz,iZ⟩:=hW;have hA:DataW.TrodAll enc prog W 0 (λ_=>true) true Tryz.f3.params.toList args.toList ds p:=hA0;have hsz:(DataW.weightsEach prog (Tryz.f3.params.toList++Rows.clientFreshSpec.plain.varTypes prog) (ds++gs)).all (· <=reachBytes)=true:=aks;clear aks;rw[Tryz.params3]at hA v8 hsz;obtain⟨v0,vs0,d0,ds0,p0,q0,Ia,rfl,rfl,h0,r0⟩:=trodAll_cons hA;obtain⟨v1,vs1,d1,ds1,p1,q1,rfl,rfl,rfl,h1,r1⟩:=trodAll_cons r0;obtain⟨v2,vs2,d2,ds2,p2,q2,rfl,rfl,rfl,h2,r2⟩:=trodAll_cons r1;obtain⟨rfl,rfl,rfl⟩:=trodAll_nil r2;obtain rfl:args= #[v0,v1,v2]:=by cases args;simp_all
 obtain⟨rfl,rfl⟩:=trodVars_none hV;have lt0:∀x∈p0,x.block<W.heap.size:=by obtain⟨m,hm⟩:=h0;exact DataW.trod_lt m _ _ _ hm
 have lt1:∀x∈p1,x.block<W.heap.size:=by obtain⟨m,hm⟩:=h1;exact DataW.trod_lt m _ _ _ hm
 have lt2:∀x∈p2,x.block<W.heap.size:=by obtain⟨m,hm⟩:=h2;exact DataW.trod_lt m _ _ _ hm
 refine(yQ enc base v0 v1 v2 W (v8 0 3 v0 rfl rfl) ⟨_,_,h0,Small.arg hsz (j:=0) rfl rfl⟩ (v8 1 22 v1 rfl rfl) ⟨_,_,h1,Small.arg hsz (j:=1) rfl rfl⟩ (v8 2 23 v2 rfl rfl) ⟨_,_,h2,Small.arg hsz (j:=2) rfl rfl⟩ hG).mono λe W' ⟨he,fm⟩=>?_;subst he;exact⟨_,rfl,_,_,_,[],_,[],hW',trodAll_mk1 (shut_bool Tryz.underlying4 _),(trodAll_cons_mk (Below.trod G6 (by kernel_rfl) (of_decide_eq_true (by kernel_rfl)) h0 fm lt0) (trodAll_cons_mk (Below.trod G6 (by kernel_rfl) (of_decide_eq_true (by kernel_rfl)) h1 fm lt1) (trodAll_cons_mk (Below.trod G6 (by kernel_rfl) (of_decide_eq_true (by kernel_rfl)) h2 fm lt2) trodAll_mk0))),rfl,fm.frame _,λh=>by cases h⟩
end Go.Proofs.YtchjlaebbhpioaaGreatDoor.clientFresh
namespace Go.Proofs.YtchjlaebbhpioaaGreatDoor
open HP (aE aA aj tt aD ai au ae aC ak aW ah Az)
open _root_.Go.Proofs.Tryz (prog)
set_option maxRecDepth 100000
end Go.Proofs.YtchjlaebbhpioaaGreatDoor
