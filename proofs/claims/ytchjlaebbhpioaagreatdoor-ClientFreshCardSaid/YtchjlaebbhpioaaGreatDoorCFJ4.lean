/- Texts of this claim, joined. No condition. -/
import Derived.Test.YtchjlaebbhpioaaGreatDoorCFJ1
import Derived.Test.YtchjlaebbhpioaaGreatDoorCFJ2
import Derived.Test.YtchjlaebbhpioaaGreatDoorCFJ3
import Derived.Laws.IdiomStrings
import Derived.KernelRfl
import Derived.Lib.BufferRead
import Derived.Laws.Cover1
set_option linter.unusedSimpArgs false
set_option linter.unusedVariables false
namespace Go.Proofs.YtchjlaebbhpioaaGreatDoor
open HP (aE aA aj tt aD ai au ae aC ak aW ah Az)
open _root_.Go.Proofs.Tryz (prog)
set_option maxRecDepth 100000
section
open RX
theorem dU g:∀n,(fE g n).num=n.num:=λ_=>rfl
theorem yw d:∀n,(fL d n).num=n.num:=λ_=>rfl
theorem MG g:∀n,(fD g n).num=n.num:=λ_=>rfl
def dg(k:Nat)(kind:Int):Nd:=⟨k,if kind=1 then 1 else 2,1,[],[]⟩
def um(T:List Nd):Nat:=((List.range 64).find? λk=>(nodeAt T k).isNone).getD 0
def uo(T:List Nd)(kind:Int)(path:Nm):List Nd×Int:=
 if(bj T path).2.2≠0 then(T,(bj T path).2.2)else if 64<=T.length then(T,27)else
  (bL (mG (dg (um T) kind) T) (bj T path).1 (fE (de (bj T path).2.1 (um T))),0)
def po(T:List Nd)(path:Nm):List Nd×Int:=
 if(aV T path).2.2.2≠0 then(T,(aV T path).2.2.2)else match nodeAt T (aV T path).2.2.1 with
  |none=>(T,1)
  |some n=>if n.kind≠1 then(T,23)else if n.ay≠[]then(T,25)else(lr (bL T (aV T path).1 (fE (bb (aV T path).2.1))) (aV T path).2.2.1,0)
def lY(T:List Nd)(path:Nm):List Nd×Int:=
 if(aV T path).2.2.2≠0 then(T,(aV T path).2.2.2)else match nodeAt T (aV T path).2.2.1 with
  |none=>(T,1)
  |some n=>if n.kind=1 then(T,24)else if n.bo=1
   then(lr (bL (bL T (aV T path).1 (fE (bb (aV T path).2.1))) (aV T path).2.2.1 (fL (-1))) (aV T path).2.2.1,0)
   else(bL (bL T (aV T path).1 (fE (bb (aV T path).2.1))) (aV T path).2.2.1 (fL (-1)),0)
def uq(T:List Nd)(path aL:Nm):List Nd×Int:=
 if(dy T path).2≠0 then(T,(dy T path).2)else if(bj T aL).2.2≠0 then(T,(bj T aL).2.2)else
  (bL (bL T (bj T aL).1 (fE (de (bj T aL).2.1 (dy T path).1))) (dy T path).1 (fL 1),0)
def ft(T:List Nd)(path aL:Nm):List Nd×Int:=
 if(aV T path).2.2.2≠0 then(T,(aV T path).2.2.2)else if aL=path then(T,0)else if kO aL path=true then(T,26)else
  if(bj T aL).2.2≠0 then(T,(bj T aL).2.2)else
  (bL (bL T (aV T path).1 (fE (bb (aV T path).2.1))) (bj T aL).1 (fE (de (bj T aL).2.1 (aV T path).2.2.1)),0)
def wrote(off:Nat)(d l:ax):ax:=(nN l (max l.length (off+d.length))).take off++d++(nN l (max l.length (off+d.length))).drop (off+d.length)
def pq(T:List Nd)(path:Nm)(off:Int)(d:ax):List Nd×Int:=
 if(dy T path).2≠0 then(T,(dy T path).2)else if off<0\/256<d.length then(T,1)else if 512<off+d.length then(T,27)else if d=[]then(T,0)else
  (bL T (dy T path).1 (fD (wrote off.toNat d)),0)
def DC(T:List Nd)(path:Nm)(n:Int):List Nd×Int:=
 if(dy T path).2≠0 then(T,(dy T path).2)else if n<0 then(T,1)else if 512<n then(T,27)else
  (bL T (dy T path).1 (fD λl=>nN l n.toNat),0)
theorem kQ{T}{s}(h:(bj T s).2.2=0):∃x,nodeAt T (bj T s).1=some x/\x.kind=1/\lk x.ay (bj T s).2.1=none/\dm (bj T s).2.1=true:=by
 unfold bj at h⊢;cases hs:gw s with
 |none=>rw[hs]at h;simp at h
 |some q=>
  obtain⟨ab,nm⟩:=q;rw[hs]at h;simp only at h⊢
  by_cases hc:(bG T ab).2≠0
  ·rw[aB hc]at h;exact absurd h hc
  ·rw[aq hc]at h⊢;cases hx:nodeAt T (bG T ab).1 with
   |none=>rw[hx]at h;simp at h
   |some x=>
    rw[hx]at h;simp only at h⊢
    by_cases hk:x.kind≠1
    ·rw[aB hk]at h;simp at h
    ·rw[aq hk]at h⊢
     by_cases hl:(lk x.ay nm).isSome=true
     ·rw[aB hl]at h;simp at h
     ·rw[aq hl];refine⟨x,hx,by simpa using hk,by simpa using hl,?_⟩;obtain⟨l,h1,_⟩:=mZ hs;exact(ji h1).2 nm (by simp)
theorem jr{T}{s}(h:(aV T s).2.2.2=0):∃x,nodeAt T (aV T s).1=some x/\x.kind=1/\lk x.ay (aV T s).2.1=some (aV T s).2.2.1/\∃ab,gw s=some (ab,(aV T s).2.1)/\(bG T ab).1=(aV T s).1/\(bG T ab).2=0/\(bG T s).1=(aV T s).2.2.1/\(bG T s).2=0:=by
 unfold aV at h⊢;cases hs:gw s with
 |none=>rw[hs]at h;simp at h
 |some q=>
  obtain⟨ab,nm⟩:=q;rw[hs]at h;simp only at h⊢
  by_cases hc:(bG T s).2≠0
  ·rw[aB hc]at h;exact absurd h hc
  ·have rF:(bG T s).2=0:=by simpa using hc
   obtain⟨h1,n,h2,h3,h4⟩:=Wd hs rF;rw[aq hc,aq (by simp[h1])];exact⟨n,h2,h3,h4,ab,rfl,rfl,h1,rfl,rF⟩
theorem qQ{B}{T}(wf:ey B T){s}(h:(dy T s).2=0):∃x,nodeAt T (dy T s).1=some x/\x.kind=2/\(dy T s).1=(bG T s).1/\(bG T s).2=0:=by
 unfold dy at h⊢
 by_cases hc:(bG T s).2≠0
 ·rw[aB hc]at h;exact absurd h hc
 ·rw[aq hc]at h⊢;cases hx:nodeAt T (bG T s).1 with
  |none=>rw[hx]at h;simp at h
  |some x=>
   rw[hx]at h;simp only at h⊢
   by_cases hk:x.kind=1
   ·rw[aB hk]at h;simp at h
   ·rw[aq hk];refine⟨x,hx,?_,rfl,by simpa using hc⟩;rcases(wf.jY x (bI hx).1).kind with⟨h1,_⟩|⟨h1,_⟩
    ·exact absurd h1 hk
    ·exact h1
theorem iu.le{B B'}{n}(h:iu B n)(hb:B<=B'):iu B' n:={h with yq:=by have:=h.yq;omega,qP:=by have:=h.qP;omega}
theorem ey.le{B B'}{T}(h:ey B T)(hb:B<=B'):ey B' T:={h with jY:=λn hn=>(h.jY n hn).le hb}
theorem ey.at'{B}{T}(h:ey B T){k}{n}(hn:nodeAt T k=some n):iu B n/\n.num=k/\n∈T:=⟨h.jY n (bI hn).1,(bI hn).2,(bI hn).1⟩
theorem mk'{B}{T}(sorted:(T.map (·.num)).Pairwise (· < ·))(root:∃r,nodeAt T 0=some r/\r.kind=1)(jY:∀k n,nodeAt T k=some n->iu B n)
 (u6:∀k n,nodeAt T k=some n->∀e∈n.ay,(nodeAt T e.2).isSome=true) (B5:∀k n,nodeAt T k=some n->k≠0->(refs T k:Int)=n.bo):ey B T where
 sorted:=sorted
 root:=root
 jY n hn:=jY n.num n (fi (eV sorted) hn)
 u6 n hn:=u6 n.num n (fi (eV sorted) hn)
 B5 n hn:=B5 n.num n (fi (eV sorted) hn)
theorem Ev{T}{k}(h:∀n∈T,∀e∈n.ay,e.2≠k):refs T k=0:=by
 unfold refs
 induction T with
 |nil=>rfl
 |cons n r ih=>
  rw[List.map_cons,List.sum_cons,ih λm hm=>h m (by simp[hm])];have:dQ n.ay k=0:=by unfold dQ;rw[List.countP_eq_zero];intro e he;simpa using h n (by simp) e he
  omega
theorem We{T}{k}{n}{e}(hn:n∈T)(he:e∈n.ay)(hk:e.2=k):0<refs T k:=by
 unfold refs
 induction T with
 |nil=>cases hn
 |cons m r ih=>
  rw[List.map_cons,List.sum_cons];rcases List.mem_cons.1 hn with rfl|hn
  ·have:0<dQ n.ay k:=by unfold dQ;rw[List.countP_pos_iff];exact⟨e,he,by simpa using hk⟩
   omega
  ·have:=ih hn;omega
theorem free_spec{T}(hs:(T.map (·.num)).Pairwise (· < ·))(hl:T.length<64):nodeAt T (um T)=none/\um T<64/\∀j<um T,(nodeAt T j).isSome=true:=by
 have h:((List.range 64).find? λk=>(nodeAt T k).isNone).isSome=true:=by
  rw[List.find?_isSome];refine Classical.byContradiction λhno=>?_
  have hall:∀k<64,(nodeAt T k).isSome=true:=λk hk=>by
   cases hq:nodeAt T k with
   |none=>exact absurd ⟨k,List.mem_range.2 hk,by rw[hq];rfl⟩ hno
   |some _=>rfl
  have hp:(((T.map (·.num)).filter λk=>decide (k<64))).Perm (List.range 64):=by
   refine(List.perm_ext_iff_of_nodup ((eV hs).sublist List.filter_sublist) List.nodup_range).2 λk=>?_;rw[List.mem_filter,List.mem_range];constructor
   ·intro h;simpa using h.2
   ·intro hk;obtain⟨n,hn⟩:=Option.isSome_iff_exists.1 (hall k hk);obtain⟨h1,h2⟩:=bI hn;exact⟨List.mem_map.2 ⟨n,h1,h2⟩,by simpa using hk⟩
  have h1:=hp.length_eq;have h2:=List.length_filter_le (λk=>decide (k<64)) (T.map (·.num));rw[List.length_range]at h1;rw[List.length_map]at h2;omega
 obtain⟨k,hk⟩:=Option.isSome_iff_exists.1 h;have e:um T=k:=by unfold um;rw[hk];rfl
 rw[e];have h1:=List.find?_some hk;have h2:=List.mem_range.1 (List.mem_of_find?_eq_some hk);refine⟨by simpa using h1,h2,λj hj=>?_⟩;obtain⟨_,pre,post,h3,h4⟩:=List.find?_eq_some_iff_append.1 hk
 have:j∈pre:=by
  have yx:j∈List.range 64:=List.mem_range.2 (by omega);have hp:(pre++k::post).Pairwise (· < ·):=by rw[<-h3];exact List.pairwise_lt_range
  rw[h3,List.mem_append]at yx;rcases yx with h|h
  ·exact h
  ·rw[List.pairwise_append]at hp;rcases List.mem_cons.1 h with rfl|h
   ·omega
   ·have:=(List.pairwise_cons.1 hp.2.1).1 j h;omega
 have:=h4 j this;cases hq:nodeAt T j with
 |none=>rw[hq]at this;simp at this
 |some _=>rfl
theorem iu.put{B}{n}(h:iu B n)(hk:n.kind=1){nm}{k}(hn:lk n.ay nm=none)(ho:dm nm=true)(h0:k≠0):iu (B+1) (fE (de nm k) n) where
 kind:=by
  rcases h.kind with⟨h1,h2,h3⟩|⟨h1,_⟩
  ·exact .inl ⟨h1,h2,h3⟩
  ·omega
 data:=h.data
 yp:=h.yp
 yq:=by have:=h.yq;simp only[fE];omega
 qP:=by have:=h.qP;simp only[fE,JJ];omega
 sort:=zw h.sort hn
 name e he:=by
  rcases qe.1 he with rfl|he
  ·exact⟨ho,h0⟩
  ·exact h.name e he
 num:=h.num
theorem qf{nm}{l}{e}(h:e∈bb nm l):e∈l:=(List.mem_filter.1 h).1
theorem iu.drop{B}{n}(h:iu B n)(hk:n.kind=1) nm:iu B (fE (bb nm) n) where
 kind:=by
  rcases h.kind with⟨h1,h2,h3⟩|⟨h1,_⟩
  ·exact .inl ⟨h1,h2,h3⟩
  ·omega
 data:=h.data
 yp:=h.yp
 yq:=h.yq
 qP:=by have:=h.qP;have:=List.length_filter_le (λy:Nm×Nat=>decide (y.1≠nm)) n.ay;simp only[fE,bb];omega
 sort:=Gr h.sort
 name e he:=h.name e (qf he)
 num:=h.num
theorem iu.link{B}{n}(h:iu B n)(hk:n.kind=2){d}(h1:0<n.bo+d)(h2:d<=1):iu (B+1) (fL d n) where
 kind:=by
  rcases h.kind with⟨h1,_⟩|⟨h1,h2⟩
  ·omega
  ·exact .inr ⟨h1,h2⟩
 data:=h.data
 yp:=h1
 yq:=by have:=h.yq;simp only[fL];omega
 qP:=by have:=h.qP;simp only[fL];omega
 sort:=h.sort
 name e he:=h.name e he
 num:=h.num
theorem iu.bytes{B}{n}(h:iu B n)(hk:n.kind=2){g}(h1:(g n.data).length<=512):iu B (fD g n) where
 kind:=by
  rcases h.kind with⟨h1,_⟩|⟨h1,h2⟩
  ·omega
  ·exact .inr ⟨h1,h2⟩
 data:=h1
 yp:=h.yp
 yq:=h.yq
 qP:=h.qP
 sort:=h.sort
 name e he:=h.name e he
 num:=h.num
theorem ey.Zd{B}{T}(wf:ey B T){a}{x}(hx:nodeAt T a=some x)(hk:x.kind=2){g}(h1:(g x.data).length<=512):ey B (bL T a (fD g)):=by
 have iZ:=eV wf.sorted;have pV:=cG (T:=T) (k:=a) (f:=fD g) (MG g);rw[hx]at pV;refine mk' (by rw[d7 (MG g)];exact wf.sorted) ?_ ?_ ?_ ?_
 ·obtain⟨r,h1,h2⟩:=wf.root;rw[pV];split
  ·rename_i e;subst e;rw[hx]at h1;cases h1;exact⟨_,rfl,h2⟩
  ·exact⟨r,h1,h2⟩
 ·intro k n hn;rw[pV]at hn;split at hn
  ·cases hn;exact(wf.at' hx).1.bytes hk h1
  ·exact(wf.at' hn).1
 ·intro k n hn e he;rw[pV];split
  ·rfl
  ·rw[pV]at hn;split at hn
   ·cases hn;exact wf.u6 x (wf.at' hx).2.2 e he
   ·exact wf.u6 n (wf.at' hn).2.2 e he
 ·intro k n hn h0;have hr:=kP (f:=fD g) k iZ hx;have h2:dQ (fD g x).ay k=dQ x.ay k:=rfl;have hr':refs (bL T a (fD g)) k=refs T k:=by omega
  rw[hr'];rw[pV]at hn;split at hn
  ·rename_i e;subst e;cases hn;have:=wf.B5 x (wf.at' hx).2.2 (by rw[(wf.at' hx).2.1];exact h0);rw[(wf.at' hx).2.1]at this;exact this
  ·have:=wf.B5 n (wf.at' hn).2.2 (by rw[(wf.at' hn).2.1];exact h0);rw[(wf.at' hn).2.1]at this;exact this
theorem ey.wV{B}{T}(wf:ey B T){k}{n}(hn:nodeAt T k=some n)(h0:k≠0):(refs T k:Int)=n.bo:=by
 have:=wf.B5 n (wf.at' hn).2.2 (by rw[(wf.at' hn).2.1];exact h0);rw[(wf.at' hn).2.1]at this;exact this
theorem ey.make{B}{T}(wf:ey B T) kind(hB:1<=B) path:ey (B+1) (uo T kind path).1:=by
 unfold uo;split
 ·exact wf.le (by omega)
 rename_i hc;have hc:(bj T path).2.2=0:=by simpa using hc
 split
 ·exact wf.le (by omega)
 rename_i hl;obtain⟨hf,aeR,hfj⟩:=free_spec wf.sorted (by omega);obtain⟨x,hx,Dt,lj,RK⟩:=kQ hc;obtain⟨f,Y3⟩:∃f,um T=f:=⟨_,rfl⟩;rw[Y3]at hf aeR hfj⊢;generalize (bj T path).1=up at*;generalize (bj T path).2.1=nm at*;have Wf:f≠0:=λe=>by obtain⟨r,hr,_⟩:=wf.root;rw[<-e,hf]at hr;cases hr
 have hne:up≠f:=λe=>by rw[e,hf]at hx;cases hx
 have DB:∀n∈T,n.num≠f:=λn hn e=>by
  have:=fi (eV wf.sorted) hn;rw[e,hf]at this;cases this
 have hs1:((mG (dg f kind) T).map (·.num)).Pairwise (· < ·):=sG wf.sorted DB
 have pV:∀j,nodeAt (bL (mG (dg f kind) T) up (fE (de nm f))) j=if j=up then some (fE (de nm f) x)else if j=f then some (dg f kind)else nodeAt T j:=λj=>by
  rw[cG (dU _)];split
  ·rw[lN,aq (by exact hne),hx];rfl
  ·rw[lN];rfl
 have hx1:nodeAt (mG (dg f kind) T) up=some x:=by rw[lN,aq (by exact hne),hx]
 have anm:iu (B+1) (dg f kind):=by
  refine⟨?_,by simp[dg],by simp[dg],by simp only[dg];omega,by simp[dg],by simp[dg],by simp[dg],aeR⟩
  by_cases hk:kind=1
  ·exact .inl ⟨by simp[dg,hk],rfl,rfl⟩
  ·exact .inr ⟨by simp[dg,hk],rfl⟩
 have ur:∀j,(nodeAt T j).isSome=true->(nodeAt (bL (mG (dg f kind) T) up (fE (de nm f))) j).isSome=true:=λj hj=>by
  rw[pV];split
  ·rfl
  ·split
   ·rfl
   ·exact hj
 refine mk' (by rw[d7 (dU _)];exact hs1) ?_ ?_ ?_ ?_
 ·obtain⟨r,h1,h2⟩:=wf.root;rw[pV];split
  ·exact⟨_,rfl,Dt⟩
  ·rw[aq (Ne.symm Wf)];exact⟨r,h1,h2⟩
 ·intro k n hn;rw[pV]at hn;split at hn
  ·cases hn;exact(wf.at' hx).1.put Dt lj RK Wf
  ·split at hn
   ·cases hn;exact anm
   ·exact(wf.at' hn).1.le (by omega)
 ·intro k n hn e he;rw[pV k]at hn;split at hn
  ·cases hn;rcases qe.1 he with rfl|he
   ·rw[pV,aq (Ne.symm hne),aB rfl];rfl
   ·exact ur _ (wf.u6 x (wf.at' hx).2.2 e he)
  ·split at hn
   ·cases hn;simp[dg]at he
   ·exact ur _ (wf.u6 n (wf.at' hn).2.2 e he)
 ·intro k n hn h0;have hr:=kP (f:=fE (de nm f)) k (eV hs1) hx1;have h2:dQ (fE (de nm f) x).ay k=dQ x.ay k+if f=k then 1 else 0:=wU nm f k x.ay
  have h3:=JI (dg f kind) k T;have h4:dQ (dg f kind).ay k=0:=rfl;have hr':refs (bL (mG (dg f kind) T) up (fE (de nm f))) k=refs T k+if f=k then 1 else 0:=by omega
  rw[hr'];rw[pV k]at hn
  by_cases e:k=f
  ·subst e;rw[aq (Ne.symm hne),aB rfl]at hn;cases hn;rw[Ev λm hm e he q=>?_]
   ·simp[dg]
   ·have:=wf.u6 m hm e he;rw[q,hf]at this;cases this
  ·rw[aq (Ne.symm e),Nat.add_zero];split at hn
   ·rename_i e2;subst e2;cases hn;have:=wf.wV hx h0;exact this
   ·exact wf.wV hn h0
theorem ey.gone{B}{T}(wf:ey B T){up a}{nm}{x n}(hx:nodeAt T up=some x)(Dt:x.kind=1)(lj:lk x.ay nm=some a)(hn:nodeAt T a=some n)(he:n.ay=[])(hl:n.bo=1):
 ey B (lr (bL T up (fE (bb nm))) a):=by
 have iZ:=eV wf.sorted;have ha0:a≠0:=((wf.at' hx).1.name _ (gL lj)).2
 have hne:up≠a:=λe=>by
  rw[e,hn]at hx;cases hx;rw[he]at lj;cases lj
 have hs1:((bL T up (fE (bb nm))).map (·.num)).Pairwise (· < ·):=by rw[d7 (dU _)];exact wf.sorted
 have pV:∀j,nodeAt (lr (bL T up (fE (bb nm))) a) j=if j=a then none else if j=up then some (fE (bb nm) x)else nodeAt T j:=λj=>by
  rw[Ca,cG (dU _),hx];rfl
 have hr:∀k,refs (lr (bL T up (fE (bb nm))) a) k+(if a=k then 1 else 0)=refs T k:=λk=>by
  have h1:=kP (f:=fE (bb nm)) k iZ hx;have h2:=JG k (a:=a) (x:=n) (eV hs1) (by rw[cG (dU _),aq (Ne.symm hne)];exact hn);have h3:dQ (fE (bb nm) x).ay k+(if a=k then 1 else 0)=dQ x.ay k:=qd k (nO (wf.at' hx).1.sort) lj;have h4:dQ n.ay k=0:=by rw[he];rfl
  omega
 have hz:refs (lr (bL T up (fE (bb nm))) a) a=0:=by
  have h1:=hr a;rw[aB rfl]at h1;have h2:=wf.wV hn ha0;rw[hl]at h2;omega
 have old:∀k m,nodeAt (lr (bL T up (fE (bb nm))) a) k=some m->∀e∈m.ay,∃m',m'∈T/\e∈m'.ay:=λk m hm e h=>by
  rw[pV]at hm;split at hm
  ·cases hm
  ·split at hm
   ·cases hm;exact⟨x,(wf.at' hx).2.2,qf h⟩
   ·exact⟨m,(wf.at' hm).2.2,h⟩
 refine mk' (JF hs1) ?_ ?_ ?_ ?_
 ·obtain⟨r,h1,h2⟩:=wf.root;rw[pV,aq (Ne.symm ha0)];split
  ·exact⟨_,rfl,Dt⟩
  ·exact⟨r,h1,h2⟩
 ·intro k m hm;rw[pV]at hm;split at hm
  ·cases hm
  ·split at hm
   ·cases hm;exact(wf.at' hx).1.drop Dt nm
   ·exact(wf.at' hm).1
 ·intro k m hm e h;obtain⟨m',h1,h2⟩:=old k m hm e h
  have hea:e.2≠a:=λq=>by
   have:=We (bI hm).1 h q;omega
  rw[pV,aq hea];split
  ·rfl
  ·exact wf.u6 m' h1 e h2
 ·intro k m hm h0;have h1:=hr k;rw[pV]at hm;split at hm
  ·cases hm
  ·rename_i hka;rw[aq (Ne.symm hka)]at h1;rw[Nat.add_zero]at h1;rw[h1];split at hm
   ·rename_i e;subst e;cases hm;have:=wf.wV hx h0;exact this
   ·exact wf.wV hm h0
theorem ey.Wg{B}{T}(wf:ey B T){up a}{d}{g}{x n}(hx:nodeAt T up=some x)(Dt:x.kind=1)(hn:nodeAt T a=some n)(hnk:n.kind=2)(h0:a≠0)
 (hg:iu (B+1) (fE g x)) (hd:0<n.bo+d) (hd1:d<=1) (hc:∀k,(dQ (g x.ay) k:Int)=dQ x.ay k+if a=k then d else 0) (ht:∀e∈g x.ay,(nodeAt T e.2).isSome=true):
 ey (B+1) (bL (bL T up (fE g)) a (fL d)):=by
 have iZ:=eV wf.sorted
 have hne:up≠a:=λe=>by
  rw[e,hn]at hx;cases hx;omega
 have hs1:((bL T up (fE g)).map (·.num)).Pairwise (· < ·):=by rw[d7 (dU _)];exact wf.sorted
 have xD:nodeAt (bL T up (fE g)) a=some n:=by rw[cG (dU _),aq (Ne.symm hne)];exact hn
 have pV:∀j,nodeAt (bL (bL T up (fE g)) a (fL d)) j=if j=a then some (fL d n)else if j=up then some (fE g x)else nodeAt T j:=λj=>by
  rw[cG (yw _),xD,cG (dU _),hx];rfl
 have hr:∀k,(refs (bL (bL T up (fE g)) a (fL d)) k:Int)=refs T k+if a=k then d else 0:=λk=>by
  have h1:=kP (f:=fE g) k iZ hx;have h2:=kP (f:=fL d) k (eV hs1) xD;have h3:dQ (fL d n).ay k=dQ n.ay k:=rfl;have h4:dQ (fE g x).ay k=dQ (g x.ay) k:=rfl;have:=hc k;omega
 have ur:∀j,(nodeAt T j).isSome=true->(nodeAt (bL (bL T up (fE g)) a (fL d)) j).isSome=true:=λj hj=>by
  rw[pV];split
  ·rfl
  ·split
   ·rfl
   ·exact hj
 refine mk' (by rw[d7 (yw _)];exact hs1) ?_ ?_ ?_ ?_
 ·obtain⟨r,h1,h2⟩:=wf.root;rw[pV,aq (Ne.symm h0)];split
  ·exact⟨_,rfl,Dt⟩
  ·exact⟨r,h1,h2⟩
 ·intro k m hm;rw[pV]at hm;split at hm
  ·cases hm;exact(wf.at' hn).1.link hnk hd hd1
  ·split at hm
   ·cases hm;exact hg
   ·exact(wf.at' hm).1.le (by omega)
 ·intro k m hm e h;refine ur _ ?_;rw[pV]at hm;split at hm
  ·cases hm;exact wf.u6 n (wf.at' hn).2.2 e h
  ·split at hm
   ·cases hm;exact ht e h
   ·exact wf.u6 m (wf.at' hm).2.2 e h
 ·intro k m hm Eh;rw[hr];rw[pV]at hm;split at hm
  ·rename_i e;subst e;cases hm;rw[aB rfl,wf.wV hn Eh];rfl
  ·rename_i hka;rw[aq (Ne.symm hka),Int.add_zero];split at hm
   ·rename_i e;subst e;cases hm;have:=wf.wV hx Eh;exact this
   ·exact wf.wV hm Eh
theorem ey.aiD{B}{T}(wf:ey B T){u1 u2 a}{o nm}{x y}(hx:nodeAt T u1=some x)(Dt:x.kind=1)(lj:lk x.ay o=some a)(hy:nodeAt T u2=some y)(hyk:y.kind=1)(tg:lk y.ay nm=none)(hok:dm nm=true):
 ey (B+1) (bL (bL T u1 (fE (bb o))) u2 (fE (de nm a))):=by
 have iZ:=eV wf.sorted;have h0:a≠0:=((wf.at' hx).1.name _ (gL lj)).2;have hs1:((bL T u1 (fE (bb o))).map (·.num)).Pairwise (· < ·):=by rw[d7 (dU _)];exact wf.sorted
 obtain⟨z,hz,hzk,Y2,hzg⟩:∃z,nodeAt (bL T u1 (fE (bb o))) u2=some z/\z.kind=1/\lk z.ay nm=none/\iu B z/\∀e∈z.ay,∃m∈T,e∈m.ay:=by
  rw[cG (dU _),hx];split
  ·rename_i e;subst e;rw[hx]at hy;cases hy;refine⟨_,rfl,Dt,?_,(wf.at' hx).1.drop Dt o,λe he=>⟨x,(wf.at' hx).2.2,qf he⟩⟩;show lk (bb o x.ay) nm=none;rw[oL];split
   ·rfl
   ·exact tg
  ·exact⟨y,hy,hyk,tg,(wf.at' hy).1,λe he=>⟨y,(wf.at' hy).2.2,he⟩⟩
 have pV:∀j,nodeAt (bL (bL T u1 (fE (bb o))) u2 (fE (de nm a))) j=if j=u2 then some (fE (de nm a) z)else if j=u1 then some (fE (bb o) x)else nodeAt T j:=λj=>by
  rw[cG (dU _),hz,cG (dU _),hx];rfl
 have hr:∀k,refs (bL (bL T u1 (fE (bb o))) u2 (fE (de nm a))) k=refs T k:=λk=>by
  have h1:=kP (f:=fE (bb o)) k iZ hx;have h2:=kP (f:=fE (de nm a)) k (eV hs1) hz;have h3:dQ (fE (bb o) x).ay k+(if a=k then 1 else 0)=dQ x.ay k:=qd k (nO (wf.at' hx).1.sort) lj;have h4:dQ (fE (de nm a) z).ay k=dQ z.ay k+(if a=k then 1 else 0):=wU nm a k z.ay;omega
 have ur:∀j,(nodeAt T j).isSome=true->(nodeAt (bL (bL T u1 (fE (bb o))) u2 (fE (de nm a))) j).isSome=true:=λj hj=>by
  rw[pV];split
  ·rfl
  ·split
   ·rfl
   ·exact hj
 refine mk' (by rw[d7 (dU _)];exact hs1) ?_ ?_ ?_ ?_
 ·obtain⟨r,h1,h2⟩:=wf.root;rw[pV];split
  ·exact⟨_,rfl,hzk⟩
  ·split
   ·exact⟨_,rfl,Dt⟩
   ·exact⟨r,h1,h2⟩
 ·intro k m hm;rw[pV]at hm;split at hm
  ·cases hm;exact hzg.1.put hzk Y2 hok h0
  ·split at hm
   ·cases hm;exact((wf.at' hx).1.drop Dt o).le (by omega)
   ·exact(wf.at' hm).1.le (by omega)
 ·intro k m hm e h;refine ur _ ?_;rw[pV]at hm;split at hm
  ·cases hm;rcases qe.1 h with rfl|h
   ·have:=wf.u6 x (wf.at' hx).2.2 (o,a) (gL lj);exact this
   ·obtain⟨m,h1,h2⟩:=hzg.2 e h;exact wf.u6 m h1 e h2
  ·split at hm
   ·cases hm;exact wf.u6 x (wf.at' hx).2.2 e (qf h)
   ·exact wf.u6 m (wf.at' hm).2.2 e h
 ·intro k m hm Eh;rw[hr];rw[pV]at hm;split at hm
  ·rename_i e;subst e;cases hm;show(refs T k:Int)=z.bo;rw[cG (dU _),hx]at hz;split at hz
   ·rename_i e;subst e;cases hz;have:=wf.wV hx Eh;exact this
   ·exact wf.wV hz Eh
  ·split at hm
   ·rename_i e;subst e;cases hm;have:=wf.wV hx Eh;exact this
   ·exact wf.wV hm Eh
theorem JK T a{f}(hf:∀n,(f n).num=n.num):lr (bL T a f) a=lr T a:=by
 induction T with
 |nil=>rfl
 |cons z r ih=>
  unfold lr bL at ih⊢;rw[List.map_cons,List.filter_cons,List.filter_cons,ih]
  by_cases h:z.num=a
  ·simp[h,hf]
  ·simp[h]
theorem ey.Wh{B}{T}(wf:ey B T) path:ey (B+1) (po T path).1:=by
 unfold po;split
 ·exact wf.le (by omega)
 rename_i hc;obtain⟨x,h1,h2,h3,-⟩:=jr (T:=T) (s:=path) (by simpa using hc);split
 ·exact wf.le (by omega)
 rename_i n hn;split
 ·exact wf.le (by omega)
 rename_i hk;split
 ·exact wf.le (by omega)
 rename_i he;refine(wf.gone h1 h2 h3 hn (by simpa using he) ?_).le (by omega);rcases(wf.at' hn).1.kind with⟨_,_,h⟩|⟨h,_⟩
 ·exact h
 ·exact absurd h (by have:n.kind=1:=by simpa using hk
                     omega)
theorem ey.unlink{B}{T}(wf:ey B T) path:ey (B+1) (lY T path).1:=by
 unfold lY;split
 ·exact wf.le (by omega)
 rename_i hc;obtain⟨x,h1,h2,h3,-⟩:=jr (T:=T) (s:=path) (by simpa using hc);split
 ·exact wf.le (by omega)
 rename_i n hn;split
 ·exact wf.le (by omega)
 rename_i hk
 have Ed:n.kind=2/\n.ay=[]:=by
  rcases(wf.at' hn).1.kind with⟨h,_⟩|h
  ·exact absurd h hk
  ·exact h
 have h0:=((wf.at' h1).1.name _ (gL h3)).2;split
 ·rename_i hl;rw[JK _ _ (yw _)];exact(wf.gone h1 h2 h3 hn Ed.2 hl).le (by omega)
 ·rename_i hl;have:=(wf.at' hn).1.yp;refine wf.Wg h1 h2 hn Ed.1 h0 (((wf.at' h1).1.drop h2 _).le (by omega)) (by omega) (by omega) (λk=>?_) λe he=>wf.u6 x (wf.at' h1).2.2 e (qf he);have:=qd k (nO (wf.at' h1).1.sort) h3;split at this<;>split<;>omega
theorem ey.link{B}{T}(wf:ey B T) path aL:ey (B+1) (uq T path aL).1:=by
 unfold uq;split
 ·exact wf.le (by omega)
 rename_i hc;obtain⟨n,hn,hk,-⟩:=qQ wf (s:=path) (by simpa using hc);split
 ·exact wf.le (by omega)
 rename_i hp;obtain⟨x,h1,h2,h3,h4⟩:=kQ (T:=T) (s:=aL) (by simpa using hp)
 have h0:(dy T path).1≠0:=λe=>by
  obtain⟨r,hr,hrk⟩:=wf.root;rw[e,hr]at hn;cases hn;omega
 have:=(wf.at' hn).1.yp;refine wf.Wg h1 h2 hn hk h0 ((wf.at' h1).1.put h2 h3 h4 h0) (by omega) (by omega) (λk=>?_) λe he=>?_
 ·have:=wU (bj T aL).2.1 (dy T path).1 k x.ay;split at this<;>split<;>omega
 ·rcases qe.1 he with rfl|he
  ·rw[hn];rfl
  ·exact wf.u6 x (wf.at' h1).2.2 e he
theorem ey.rename{B}{T}(wf:ey B T) path aL:ey (B+1) (ft T path aL).1:=by
 unfold ft;split
 ·exact wf.le (by omega)
 rename_i hc;obtain⟨x,h1,h2,h3,-⟩:=jr (T:=T) (s:=path) (by simpa using hc);split
 ·exact wf.le (by omega)
 split
 ·exact wf.le (by omega)
 split
 ·exact wf.le (by omega)
 rename_i hp;obtain⟨y,g1,g2,g3,g4⟩:=kQ (T:=T) (s:=aL) (by simpa using hp);exact wf.aiD h1 h2 h3 g1 g2 g3 g4
theorem yy l n:(nN l n).length=n:=by simp[nN];omega
theorem RL off d l:(wrote off d l).length=max l.length (off+d.length):=by
 simp only[wrote,List.length_append,List.length_take,List.length_drop,yy];omega
theorem ey.write{B}{T}(wf:ey B T) path off d:ey B (pq T path off d).1:=by
 unfold pq;split
 ·exact wf
 rename_i hc;obtain⟨n,hn,hk,-⟩:=qQ wf (s:=path) (by simpa using hc);split
 ·exact wf
 split
 ·exact wf
 split
 ·exact wf
 refine wf.Zd hn hk ?_;have:=(wf.at' hn).1.data;rw[RL];omega
theorem ey.cut{B}{T}(wf:ey B T) path n:ey B (DC T path n).1:=by
 unfold DC;split
 ·exact wf
 rename_i hc;obtain⟨x,hn,hk,-⟩:=qQ wf (s:=path) (by simpa using hc);split
 ·exact wf
 split
 ·exact wf
 refine wf.Zd hn hk ?_;rw[yy];omega
structure kR where
 kind:Int
 path:Nm
 aL:Nm
 off:Int
 n:Int
 da:aG
 dl:Nat
 dc:Nat
def kR.val(c:kR):Value:=.agg #[.int .i64 c.kind,sE c.path,sE c.aL,.int .i64 c.off,.int .i64 c.n,.slice c.da c.dl c.dc]
variable {b:Nat}{t:TS}
theorem Gs:az prog 107 #[] tt (λv=>aE λnb=>aE λmb=>aA (v=pt nb) (aj (HP.one nb (.cells #[.int .i64 1,.int .i64 1,.slice none 0 0,.map (some mb)] 210 (0,0))) (mD mb []))):=by
 refine ao (ρ:=[]) {fk:=[183],aF:=ii,link:=ij,dN:=true,dv:=true,ck:=[183]} [] [] 0 ?_;intro mb nb;exact .of λR h H=>⟨nb,mb,rfl,ae H (λ_ h=>h) λz hz=>⟨[],0,⟨fC.nil 0,λ_=>rfl⟩,hz⟩⟩
theorem pu{i}{x y}{k}{f}(hn:(t.aS.map (·.num)).Nodup)(hi:t.ns[i]? =some x)(hk:x.p.num=k)(hy:y.p=f x.p):(t.jj i y).aS=bL t.aS k f:=by
 unfold TS.aS TS.jj bL;have iZ:(t.ns.map (·.p.num)).Nodup:=by unfold TS.aS at hn;rw[List.map_map]at hn;exact hn
 refine List.ext_getElem? λj=>?_;rw[List.getElem?_map,List.getElem?_set,List.map_map,List.getElem?_map];split
 ·rename_i e;subst e;split
  ·rw[hi];simp[hy,hk]
  ·rename_i h;exact absurd (List.getElem?_eq_some_iff.1 hi).1 h
 ·rename_i e;cases hj:t.ns[j]? with
  |none=>rfl
  |some z=>
   have:¬z.p.num=k:=λq=>by
    have h1:(t.ns.map (·.p.num))[i]? =some k:=by rw[List.getElem?_map,hi];simp[hk]
    have h2:(t.ns.map (·.p.num))[j]? =some k:=by rw[List.getElem?_map,hj];simp[q]
    obtain⟨l1,e1⟩:=List.getElem?_eq_some_iff.1 h1;obtain⟨l2,e2⟩:=List.getElem?_eq_some_iff.1 h2;rcases Nat.lt_or_gt_of_ne e with q|q
    ·exact List.pairwise_iff_getElem.1 iZ _ _ l1 l2 q (e1.trans e2.symm)
    ·exact List.pairwise_iff_getElem.1 iZ _ _ l2 l1 q (e2.trans e1.symm)
   simp[this]
theorem Wi y:(t.Gq y).aS=mG y.p t.aS:=by
 unfold TS.aS TS.Gq
 induction t.ns with
 |nil=>rfl
 |cons z r ih=>
  show(wR y (z::r)).map (·.p)=mG y.p (z.p::r.map (·.p));unfold wR mG;split
  ·rw[List.map_cons];congr 1
  ·rfl
theorem Pc k:(t.JD k).aS=lr t.aS k:=by
 unfold TS.aS TS.JD lr;rw[List.filter_map];rfl
theorem MH{t:TS}{x}(h:x∈t.ns):∃i:Nat,t.ns[i]? =some x:=List.mem_iff_getElem?.1 h
theorem Wj:prog.underlying 183=some (.pointer 210):=by kernel_rfl
theorem rdU{s}{S U}{v}(r:aM prog s S v):aM prog s (aj U S) v:=r.imp λ_ _ H=>ah H
theorem Ak{t1}{x}{i}(hi:t1.ns[i]? =some x)(hk:x.p.kind=1)(nm:Nm)(k:Nat){U}{K:HP->HP->Prop}(hK:K tt (aU b (t1.jj i (x.n7 (de nm k x.p.ay))))):
 ∃q:Nat,aM prog (QS (pt x.nb)) (aj U (aU b t1)) (pt q)/\∃m:Nat,aM prog (bO 208 (.pointer (some ⟨q,3,none⟩))) (aj U (aU b t1)) (.map (some m))/\
  aR prog (kK 208 (.map (some m)) (sE nm) (.int .i64 k)) (aj U (aU b t1)) λv=>aE λa=>aE λc=>aA (v=.tuple #[]) (aA (K a c) (aj a c)):=by
 have hm:=List.mem_of_getElem? hi;have he:=pj (b:=b) hm;have Dz:x.gK=some x.mb:=by unfold HN.gK;rw[aB hk]
 rw[Dz]at he;refine⟨x.nb,bK,x.mb,rdU he,?_⟩;refine(aeO hi hk nm k).aK (λ_ _ H=>ah H) ?_;rintro v R h ⟨rfl,H⟩;exact⟨_,_,rfl,hK,aW H⟩
theorem Gt{t1}{x}{i}(hi:t1.ns[i]? =some x)(hk:x.p.kind=1)(nm:Nm) ts ty(h0:ts[0]? =some 208){U}{K:HP->HP->Prop}(hK:K tt (aU b (t1.jj i (x.n7 (bb nm x.p.ay))))):
 ∃q:Nat,aM prog (QS (pt x.nb)) (aj U (aU b t1)) (pt q)/\∃m:Nat,aM prog (bO 208 (.pointer (some ⟨q,3,none⟩))) (aj U (aU b t1)) (.map (some m))/\
  aR prog (xR ts ty (.map (some m)) (sE nm)) (aj U (aU b t1)) λv=>aE λa=>aE λc=>aA (v=.tuple #[]) (aA (K a c) (aj a c)):=by
 have hm:=List.mem_of_getElem? hi;have he:=pj (b:=b) hm;have Dz:x.gK=some x.mb:=by unfold HN.gK;rw[aB hk]
 rw[Dz]at he;refine⟨x.nb,bK,x.mb,rdU he,?_⟩;refine(aeP hi hk nm ts ty h0).aK (λ_ _ H=>ah H) ?_;rintro v R h ⟨rfl,H⟩;exact⟨_,_,rfl,hK,aW H⟩
theorem aiF{k}{kind}(hk:kind=1){nb mb}{R h}(H:(aj (HP.one nb (.cells #[.int .i64 1,.int .i64 1,.slice none 0 0,.map (some mb)] 210 (0,0))) (mD mb [])).p R h):(dK ⟨dg k kind,nb,mb,none,0⟩).p R h:=by
 subst hk;exact ae H (λ_ h=>h) λz hz=>ae (aW hz) (λz _=>bY.nil _ _ _ _) λ_ h=>h
theorem anq{k}{kind}(hk:¬kind=1){nb}{R h}(H:(HP.one nb (.cells #[.int .i64 2,.int .i64 1,.slice none 0 0,.map none] 210 (0,0))).p R h):(dK ⟨dg k kind,nb,0,none,0⟩).p R h:=by
 have e:dg k kind=⟨k,2,1,[],[]⟩:=by unfold dg;rw[aq hk]
 rw[e];exact ae (aD H) (λ_ h=>h) λz hz=>ae (aD hz) (λz _=>bY.nil _ _ _ _) λz _=>rfl
set_option maxHeartbeats 1000000 in
theorem JL{B}(wf:ey B t.aS)(c:kR)(S:HP):az prog 298 #[pt b,c.val] (aj (aU b t) S)
 (λv=>aE λt':TS=>aA (v=.int .i64 (uo t.aS c.kind c.path).2/\t'.aS=(uo t.aS c.kind c.path).1) (aj (aU b t') S)):=by
 refine ao (ρ:=[.n b,.p (aU b t),.i c.kind,.s c.path,.s c.aL,.i c.off,.i c.n,.a c.da,.n c.dl,.n c.dc,.p S]) {fk:=[183],aF:=ii,link:=ij,dN:=true,dv:=true,ck:=[183]} nK nL 11 ?_;intro x0;refine(yt wf c.path).wk ?_;rintro v R h ⟨rfl,H⟩;obtain⟨T1,b8⟩:∃q,uo t.aS c.kind c.path=q:=⟨_,rfl⟩;rw[b8];unfold uo at b8
 by_cases hc:(bj t.aS c.path).2.2=0
 ·rw[aq (by simp[hc])]at b8;rw[aB hc];obtain⟨xu,hxu,Dt,-⟩:=kQ hc;obtain⟨x,hx,yr,kM⟩:=zv (by rw[hxu];rfl);have hpx:ul t.ns (bj t.aS c.path).1=pt x.nb:=by unfold ul;rw[hx];rfl
  rw[hpx];refine⟨pt x.nb,tt,_,_,rfl,⟨λh=>absurd hc h,λ_=>⟨t.mb,fq,t.ns.length,by rw[B4];exact Wb (by have:=eV wf.sorted;unfold TS.aS at this;rw[List.map_map]at this;exact this),?_⟩⟩,aW H⟩;have hlen:t.aS.length=t.ns.length:=by unfold TS.aS;rw[List.length_map]
  rw[hlen]at b8;refine⟨λhl=>.of λR h H=>⟨t,⟨?_,?_⟩,H⟩,λhl=>?_⟩
  ·rw[aB (by omega)]at b8;rw[<-b8]
  ·rw[aB (by omega)]at b8;rw[<-b8]
  rw[aq (by omega)]at b8;obtain⟨hf,aeR,hfj⟩:=free_spec wf.sorted (by omega);generalize Y3:um t.aS=f at*;refine⟨λi=>∃k:Nat,i=k/\k<=f,λi=>f - i.toNat,⟨1,rfl,?_⟩,?_⟩
  ·refine Nat.pos_of_ne_zero λe=>?_;obtain⟨r,hr,_⟩:=wf.root;rw[e,hr]at hf;cases hf
  rintro _ ⟨k,rfl,hk⟩;refine⟨t.mb,fq,.pointer ((pf t.ns k).map λx=>⟨x.nb,0,none⟩),mE k,_,Gj (by kernel_rfl) Wj,⟨λh1=>?_,λh1=>?_⟩⟩
  ·have hkf:k≠f:=λe=>by
    have:nodeAt t.aS k=none:=by rw[e];exact hf
    rw[jX]at this;rw[Option.isSome_map]at h1;cases hq:pf t.ns k with
    |none=>rw[hq]at h1;cases h1
    |some _=>rw[hq]at this;cases this
   exact⟨eU _ (by omega) (by omega),λ_=>⟨⟨k+1,by omega,by omega⟩,by dsimp only;omega⟩⟩
  ·have hkf:k=f:=by
    rcases Nat.lt_or_eq_of_le hk with h|h
    ·have:=hfj k h;rw[jX,Option.isSome_map]at this;rw[Option.isSome_map]at h1;exact absurd this h1
    ·exact h
   subst hkf
   have iW:∀(y:HN) (i:Nat),y.p=dg k c.kind->(t.Gq y).ns[i]? =some x->((t.Gq y).jj i (x.n7 (de (bj t.aS c.path).2.1 k x.p.ay))).aS=T1.1:=λy i hy hi=>by
    rw[<-b8];rw[pu ?_ hi (sy hx).2 (f:=fE (de (bj t.aS c.path).2.1 k)) rfl,Wi,hy];rw[Wi,hy];refine eV (sG wf.sorted λn hn e=>?_);have:=fi (eV wf.sorted) hn;rw[e]at this;exact absurd (hf.symm.trans this) (by simp)
   refine⟨λWk=>⟨t.mb,fq,?_⟩,λWk=>⟨t.mb,fq,λnb=>?_⟩⟩
   ·refine Gs.wk ?_;rintro v R h ⟨nb,mb,rfl,H⟩;refine⟨pt nb,dK ⟨dg k c.kind,nb,mb,none,0⟩,rfl,?_,?_⟩
    ·refine(O9 (b:=b) (t:=t) ⟨dg k c.kind,nb,mb,none,0⟩).wk ?_;rintro v R h ⟨rfl,H⟩;obtain⟨i,hi⟩:=MH (t:=t.Gq ⟨dg k c.kind,nb,mb,none,0⟩) (x:=x) ((qc _ _).mem_iff.2 (by simp[kM]));exact⟨_,rfl,Ak hi (by rw[hxu]at yr;cases yr;exact Dt) _ k (.of λR h H=>⟨_,⟨by rw[<-b8],iW _ i rfl hi⟩,H⟩),H⟩
    ·exact aiF Wk H
   ·refine(O9 (b:=b) (t:=t) ⟨dg k c.kind,nb,0,none,0⟩).aK (λ_ _ H=>ae H (λ_ h=>h) λz hz=>anq Wk hz) ?_;rintro v R h ⟨rfl,H⟩;obtain⟨i,hi⟩:=MH (t:=t.Gq ⟨dg k c.kind,nb,0,none,0⟩) (x:=x) ((qc _ _).mem_iff.2 (by simp[kM]));exact⟨_,rfl,Ak hi (by rw[hxu]at yr;cases yr;exact Dt) _ k (.of λR h H=>⟨_,⟨by rw[<-b8],iW _ i rfl hi⟩,H⟩),H⟩
 ·refine⟨.pointer none,tt,(bj t.aS c.path).2.1,(bj t.aS c.path).2.2,?_,⟨λ_=>.of λR h H=>⟨t,⟨?_,?_⟩,H⟩,λh=>absurd h hc⟩,aW H⟩
  ·rw[aq hc];rfl
  ·rw[aB hc]at b8;rw[<-b8]
  ·rw[aB hc]at b8;rw[<-b8]
theorem oM{t:TS}{k}{n}(h:nodeAt t.aS k=some n):∃(x:HN) (i:Nat),t.ns[i]? =some x/\x.p=n/\x.p.num=k/\pf t.ns k=some x/\ul t.ns k=pt x.nb/\x∈t.ns:=by
 obtain⟨x,hx,yr,kM⟩:=zv (t:=t) (k:=k) (by rw[h];rfl);obtain⟨i,hi⟩:=MH kM;refine⟨x,i,hi,?_,(sy hx).2,hx,by unfold ul;rw[hx];rfl,kM⟩;rw[h]at yr;exact(Option.some.inj yr).symm
theorem ey.nd{B}{T}(wf:ey B T):(T.map (·.num)).Nodup:=eV wf.sorted
theorem Gu{t:TS}{i}{x y}(hi:t.ns[i]? =some x)(hy:y.p.num=x.p.num):(t.jj i y).aS.map (·.num)=t.aS.map (·.num):=by
 unfold TS.aS TS.jj;rw[List.map_map,List.map_map,List.map_set];refine List.ext_getElem? λj=>?_;rw[List.getElem?_set,List.getElem?_map];split
 ·rename_i e;subst e;split
  ·rw[hi];simp[hy]
  ·rename_i h;rw[List.length_map]at h;exact absurd (List.getElem?_eq_some_iff.1 hi).1 h
 ·rfl
set_option maxHeartbeats 1000000 in
theorem RM{B}(wf:ey B t.aS)(c:kR)(S:HP):az prog 299 #[pt b,c.val] (aj (aU b t) S)
 (λv=>aE λt':TS=>aA (v=.int .i64 (po t.aS c.path).2/\t'.aS=(po t.aS c.path).1) (aj (aU b t') S)):=by
 refine ao (ρ:=[.n b,.p (aU b t),.i c.kind,.s c.path,.s c.aL,.i c.off,.i c.n,.a c.da,.n c.dl,.n c.dc,.p S]) {fk:=[183],aF:=ii,link:=ij,dN:=true,dv:=true,ck:=[183]} nK nL 11 ?_;intro x0;refine(yu wf c.path).wk ?_;rintro v R h ⟨rfl,H⟩;obtain⟨T1,b8⟩:∃q,po t.aS c.path=q:=⟨_,rfl⟩;rw[b8];unfold po at b8
 by_cases hc:(aV t.aS c.path).2.2.2=0
 ·rw[aq (by simp[hc])]at b8;rw[aB hc];obtain⟨xn,h1,h2,h3,-⟩:=jr hc;obtain⟨n,h4⟩:=Option.isSome_iff_exists.1 (wf.u6 xn (wf.at' h1).2.2 _ (gL h3));simp only at h4;rw[h4]at b8;simp only at b8;obtain⟨x,i,hi,rfl,hin,hih,hip,IL⟩:=oM h1;obtain⟨y,j,hj,rfl,Af,hjh,Wl,Hb⟩:=oM h4;rw[hip];have iV:=mE (b:=b) (t:=t) (aV t.aS c.path).2.2.1;rw[hjh]at iV;refine⟨pt x.nb,tt,_,_,_,rfl,⟨λh=>absurd hc h,λ_=>⟨t.mb,fq,pt y.nb,iV,y.nb,bK,y.p.kind,mF Hb,⟨λhk=>.of λR h H=>⟨t,⟨?_,?_⟩,H⟩,λhk=>?_⟩⟩⟩,aW H⟩
  ·rw[aB hk]at b8;rw[<-b8]
  ·rw[aB hk]at b8;rw[<-b8]
  have A7:y.p.kind=1:=by simpa using hk
  rw[aq (by simp[A7])]at b8;have he:=pj (b:=b) Hb;have Dz:y.gK=some y.mb:=by unfold HN.gK;rw[aB A7]
  rw[Dz]at he;refine⟨y.nb,bK,y.mb,he,y.p.ay.length,by rw[B4];exact O8 Hb A7 (nO (wf.at' h4).1.sort),⟨λhl=>.of λR h H=>⟨t,⟨?_,?_⟩,H⟩,λhl=>?_⟩⟩
  ·rw[aB (by intro e;rw[e]at hl;simp at hl)]at b8;rw[<-b8]
  ·rw[aB (by intro e;rw[e]at hl;simp at hl)]at b8;rw[<-b8]
  have tZ:y.p.ay=[]:=List.length_eq_zero_iff.1 (by omega);rw[aq (by simp[tZ])]at b8;refine Gt hi h2 _ _ _ rfl ⟨t.mb,fq,?_⟩;refine(Pa (b:=b) (t:=t.jj i (x.n7 (bb (aV t.aS c.path).2.1 x.p.ay))) (aV t.aS c.path).2.2.1 _ _ rfl).wk ?_;rintro v R h ⟨rfl,H⟩;refine⟨_,rfl,.of λR h H=>⟨_,⟨?_,?_⟩,H⟩,H⟩
  ·rw[<-b8]
  ·rw[<-b8,Pc,pu wf.nd hi hin (f:=fE (bb (aV t.aS c.path).2.1)) rfl]
 ·refine⟨.pointer none,tt,(aV t.aS c.path).2.1,(aV t.aS c.path).2.2.1,(aV t.aS c.path).2.2.2,?_,⟨λ_=>.of λR h H=>⟨t,⟨?_,?_⟩,H⟩,λh=>absurd h hc⟩,aW H⟩
  ·rw[aq hc];rfl
  ·rw[aB hc]at b8;rw[<-b8]
  ·rw[aB hc]at b8;rw[<-b8]
theorem wW{t:TS}{i j}{x y z}(hi:t.ns[i]? =some x)(hj:t.ns[j]? =some y):(t.jj i z).ns[j]? =some (if i=j then z else y):=by
 unfold TS.jj;rw[List.getElem?_set];split
 ·rename_i e;subst e;rw[aB (List.getElem?_eq_some_iff.1 hi).1]
 ·exact hj
set_option maxHeartbeats 1000000 in
theorem MI{B}(hB:B<=1000000)(wf:ey B t.aS)(c:kR)(S:HP):az prog 300 #[pt b,c.val] (aj (aU b t) S)
 (λv=>aE λt':TS=>aA (v=.int .i64 (lY t.aS c.path).2/\t'.aS=(lY t.aS c.path).1) (aj (aU b t') S)):=by
 refine ao (ρ:=[.n b,.p (aU b t),.i c.kind,.s c.path,.s c.aL,.i c.off,.i c.n,.a c.da,.n c.dl,.n c.dc,.p S]) {fk:=[183],aF:=ii,link:=ij,dN:=true,dv:=true,ck:=[183]} nK nL 11 ?_;intro x0;refine(yu wf c.path).wk ?_;rintro v R h ⟨rfl,H⟩;obtain⟨T1,b8⟩:∃q,lY t.aS c.path=q:=⟨_,rfl⟩;rw[b8];unfold lY at b8
 by_cases hc:(aV t.aS c.path).2.2.2=0
 ·rw[aq (by simp[hc])]at b8;rw[aB hc];obtain⟨xn,h1,h2,h3,-⟩:=jr hc;obtain⟨n,h4⟩:=Option.isSome_iff_exists.1 (wf.u6 xn (wf.at' h1).2.2 _ (gL h3));simp only at h4;rw[h4]at b8;simp only at b8;obtain⟨x,i,hi,rfl,hin,hih,hip,IL⟩:=oM h1;obtain⟨y,j,hj,rfl,Af,hjh,Wl,Hb⟩:=oM h4;rw[hip];have iV:=mE (b:=b) (t:=t) (aV t.aS c.path).2.2.1;rw[hjh]at iV;refine⟨pt x.nb,tt,_,_,_,rfl,⟨λh=>absurd hc h,λ_=>⟨t.mb,fq,pt y.nb,iV,y.nb,bK,y.p.kind,mF Hb,⟨λhk=>.of λR h H=>⟨t,⟨?_,?_⟩,H⟩,λhk=>?_⟩⟩⟩,aW H⟩
  ·rw[aB hk]at b8;rw[<-b8]
  ·rw[aB hk]at b8;rw[<-b8]
  rw[aq hk]at b8
  have D4:i≠j:=λe=>by
   subst e;rw[hi]at hj;cases hj;exact hk h2
  have yx:=wW (z:=x.n7 (bb (aV t.aS c.path).2.1 x.p.ay)) hi hj;rw[aq D4]at yx;have Pd:(t.jj i (x.n7 (bb (aV t.aS c.path).2.1 x.p.ay))).aS=bL t.aS (aV t.aS c.path).1 (fE (bb (aV t.aS c.path).2.1)):=pu wf.nd hi hin (f:=fE (bb (aV t.aS c.path).2.1)) rfl;have xD:=(Gu (y:=x.n7 (bb (aV t.aS c.path).2.1 x.p.ay)) hi rfl)▸wf.nd;rw[<-Pd]at b8;obtain⟨t1,ht1⟩:∃q,t.jj i (x.n7 (bb (aV t.aS c.path).2.1 x.p.ay))=q:=⟨_,rfl⟩;rw[ht1]at Pd yx b8 xD;have hj2:=wW (z:=y.Wc (y.p.bo - 1)) yx yx;rw[aB rfl]at hj2;have hp2:(t1.jj j (y.Wc (y.p.bo - 1))).aS=bL t1.aS (aV t.aS c.path).2.2.1 (fL (-1)):=pu xD yx Af (f:=fL (-1)) rfl;rw[<-hp2]at b8;have hl1:=(wf.at' h4).1.yp;have Tv:=(wf.at' h4).1.yq;refine Gt hi h2 _ _ _ rfl ?_;rw[ht1];refine⟨y.nb,bK,y.p.bo,oJ (List.mem_of_getElem? yx),eU _ (by omega) (by omega),λ_=>⟨y.nb,bK,?_⟩⟩;refine(Et (b:=b) yx (y.p.bo - 1)).wk ?_;rintro v R h ⟨rfl,H⟩;refine⟨_,rfl,⟨y.nb,bK,y.p.bo - 1,oJ (List.mem_of_getElem? hj2),⟨λh0=>⟨t1.mb,fq,?_⟩,λh0=>.of λR h H=>⟨_,⟨?_,?_⟩,H⟩⟩⟩,H⟩
  ·rw[aB (by omega)]at b8;refine(Pa (b:=b) (t:=t1.jj j (y.Wc (y.p.bo - 1))) (aV t.aS c.path).2.2.1 _ _ rfl).wk ?_;rintro v R h ⟨rfl,H⟩;exact⟨_,rfl,.of λR h H=>⟨_,⟨by rw[<-b8],by rw[<-b8,Pc]⟩,H⟩,H⟩
  ·rw[aq (by omega)]at b8;rw[<-b8]
  ·rw[aq (by omega)]at b8;rw[<-b8]
 ·refine⟨.pointer none,tt,(aV t.aS c.path).2.1,(aV t.aS c.path).2.2.1,(aV t.aS c.path).2.2.2,?_,⟨λ_=>.of λR h H=>⟨t,⟨?_,?_⟩,H⟩,λh=>absurd h hc⟩,aW H⟩
  ·rw[aq hc];rfl
  ·rw[aB hc]at b8;rw[<-b8]
  ·rw[aB hc]at b8;rw[<-b8]
set_option maxHeartbeats 1000000 in
theorem Wm{B}(hB:B<=1000000)(wf:ey B t.aS)(c:kR)(S:HP):az prog 301 #[pt b,c.val] (aj (aU b t) S)
 (λv=>aE λt':TS=>aA (v=.int .i64 (uq t.aS c.path c.aL).2/\t'.aS=(uq t.aS c.path c.aL).1) (aj (aU b t') S)):=by
 refine ao (ρ:=[.n b,.p (aU b t),.i c.kind,.s c.path,.s c.aL,.i c.off,.i c.n,.a c.da,.n c.dl,.n c.dc,.p S]) {fk:=[183],aF:=ii,link:=ij,dN:=true,dv:=true,ck:=[183]} nK nL 11 ?_;intro x0;refine(wQ wf c.path).wk ?_;rintro v R h ⟨rfl,H⟩;obtain⟨T1,b8⟩:∃q,uq t.aS c.path c.aL=q:=⟨_,rfl⟩;rw[b8];unfold uq at b8
 by_cases hf:(dy t.aS c.path).2=0
 ·rw[aq (by simp[hf])]at b8;rw[aB hf];obtain⟨n,h4,Ed,-⟩:=qQ wf hf;obtain⟨y,j,hj,rfl,Af,hjh,Wl,Hb⟩:=oM h4;rw[Wl];refine⟨pt y.nb,tt,_,_,rfl,⟨λh=>absurd hf h,λ_=>?_⟩,aW H⟩;refine(yt wf c.aL).wk ?_;rintro v R h ⟨rfl,H⟩
  by_cases hc:(bj t.aS c.aL).2.2=0
  ·rw[aq (by simp[hc])]at b8;rw[aB hc];obtain⟨xn,h1,h2,-⟩:=kQ hc;obtain⟨x,i,hi,rfl,hin,hih,hip,IL⟩:=oM h1;rw[hip]
   have D4:i≠j:=λe=>by
    subst e;rw[hi]at hj;cases hj;omega
   have yx:=wW (z:=x.n7 (de (bj t.aS c.aL).2.1 (dy t.aS c.path).1 x.p.ay)) hi hj;rw[aq D4]at yx;have Pd:(t.jj i (x.n7 (de (bj t.aS c.aL).2.1 (dy t.aS c.path).1 x.p.ay))).aS=bL t.aS (bj t.aS c.aL).1 (fE (de (bj t.aS c.aL).2.1 (dy t.aS c.path).1)):=pu wf.nd hi hin (f:=fE (de (bj t.aS c.aL).2.1 (dy t.aS c.path).1)) rfl;have xD:=(Gu (y:=x.n7 (de (bj t.aS c.aL).2.1 (dy t.aS c.path).1 x.p.ay)) hi rfl)▸wf.nd;rw[<-Pd]at b8;obtain⟨t1,ht1⟩:∃q,t.jj i (x.n7 (de (bj t.aS c.aL).2.1 (dy t.aS c.path).1 x.p.ay))=q:=⟨_,rfl⟩;rw[ht1]at Pd yx b8 xD;have hp2:(t1.jj j (y.Wc (y.p.bo+1))).aS=bL t1.aS (dy t.aS c.path).1 (fL 1):=pu xD yx Af (f:=fL 1) rfl;rw[<-hp2]at b8;have hl1:=(wf.at' h4).1.yp;have Tv:=(wf.at' h4).1.yq;refine⟨pt x.nb,tt,_,_,rfl,⟨λh=>absurd hc h,λ_=>?_⟩,aW H⟩;refine Ak hi h2 _ _ ?_;rw[ht1];refine⟨y.nb,bK,y.p.bo,rdU (oJ (List.mem_of_getElem? yx)),eU _ (by omega) (by omega),λ_=>⟨y.nb,bK,?_⟩⟩;refine(Et (b:=b) yx (y.p.bo+1)).aK (λ_ _ H=>ah H) ?_;rintro v R h ⟨rfl,H⟩;exact⟨tt,_,rfl,.of λR h H=>⟨_,⟨by rw[<-b8],by rw[<-b8]⟩,H⟩,aW H⟩
  ·refine⟨.pointer none,tt,(bj t.aS c.aL).2.1,(bj t.aS c.aL).2.2,?_,⟨λ_=>.of λR h H=>⟨t,⟨?_,?_⟩,H⟩,λh=>absurd h hc⟩,aW H⟩
   ·rw[aq hc];rfl
   ·rw[aB hc]at b8;rw[<-b8]
   ·rw[aB hc]at b8;rw[<-b8]
 ·refine⟨.pointer none,tt,(dy t.aS c.path).1,(dy t.aS c.path).2,?_,⟨λ_=>.of λR h H=>⟨t,⟨?_,?_⟩,H⟩,λh=>absurd h hf⟩,aW H⟩
  ·rw[aq hf];rfl
  ·rw[aB hf]at b8;rw[<-b8]
  ·rw[aB hf]at b8;rw[<-b8]
set_option maxHeartbeats 1000000 in
theorem MJ{B}(wf:ey B t.aS)(c:kR)(S:HP):az prog 302 #[pt b,c.val] (aj (aU b t) S)
 (λv=>aE λt':TS=>aA (v=.int .i64 (ft t.aS c.path c.aL).2/\t'.aS=(ft t.aS c.path c.aL).1) (aj (aU b t') S)):=by
 refine ao (ρ:=[.n b,.p (aU b t),.i c.kind,.s c.path,.s c.aL,.i c.off,.i c.n,.a c.da,.n c.dl,.n c.dc,.p S]) {fk:=[183],aF:=ii,link:=ij,dN:=true,dv:=true,ck:=[183]} nK nL 11 ?_;intro x0;refine(yu wf c.path).wk ?_;rintro v R h ⟨rfl,H⟩;obtain⟨T1,b8⟩:∃q,ft t.aS c.path c.aL=q:=⟨_,rfl⟩;rw[b8];unfold ft at b8
 by_cases hc:(aV t.aS c.path).2.2.2=0
 ·rw[aq (by simp[hc])]at b8;rw[aB hc];obtain⟨xn,h1,h2,h3,-⟩:=jr hc;obtain⟨x,i,hi,rfl,hin,hih,hip,IL⟩:=oM h1;rw[hip];refine⟨pt x.nb,tt,_,_,_,rfl,⟨λh=>absurd hc h,λ_=>⟨λhe=>.of λR h H=>⟨t,⟨?_,?_⟩,H⟩,λhe=>?_⟩⟩,aW H⟩
  ·rw[aB he]at b8;rw[<-b8]
  ·rw[aB he]at b8;rw[<-b8]
  rw[aq he]at b8;refine(My c.aL c.path).wk ?_;rintro v R h rfl;refine⟨kO c.aL c.path,rfl,⟨λhs=>.of λR h H=>⟨t,⟨?_,?_⟩,H⟩,λhs=>?_⟩,trivial⟩
  ·rw[aB hs]at b8;rw[<-b8]
  ·rw[aB hs]at b8;rw[<-b8]
  rw[aq hs]at b8;refine(yt wf c.aL).wk ?_;rintro v R h ⟨rfl,H⟩
  by_cases hd:(bj t.aS c.aL).2.2=0
  ·rw[aq (by simp[hd])]at b8;rw[aB hd];obtain⟨yn,g1,g2,-⟩:=kQ hd;obtain⟨y,j,hj,rfl,Af,hjh,Wl,Hb⟩:=oM g1;rw[Wl];have yx:=wW (z:=x.n7 (bb (aV t.aS c.path).2.1 x.p.ay)) hi hj
   obtain⟨z,hz,hzn,hzk,hzb⟩:∃z,(if i=j then x.n7 (bb (aV t.aS c.path).2.1 x.p.ay)else y)=z/\z.p.num=(bj t.aS c.aL).1/\z.p.kind=1/\z.nb=y.nb:=by
    split
    ·rename_i e;subst e;rw[hi]at hj;cases hj;exact⟨_,rfl,Af,g2,rfl⟩
    ·exact⟨_,rfl,Af,g2,rfl⟩
   rw[hz]at yx;have Pd:(t.jj i (x.n7 (bb (aV t.aS c.path).2.1 x.p.ay))).aS=bL t.aS (aV t.aS c.path).1 (fE (bb (aV t.aS c.path).2.1)):=pu wf.nd hi hin (f:=fE (bb (aV t.aS c.path).2.1)) rfl;have xD:=(Gu (y:=x.n7 (bb (aV t.aS c.path).2.1 x.p.ay)) hi rfl)▸wf.nd;rw[<-Pd]at b8;obtain⟨t1,ht1⟩:∃q,t.jj i (x.n7 (bb (aV t.aS c.path).2.1 x.p.ay))=q:=⟨_,rfl⟩;rw[ht1]at Pd yx b8 xD;have hp2:(t1.jj j (z.n7 (de (bj t.aS c.aL).2.1 (aV t.aS c.path).2.2.1 z.p.ay))).aS=bL t1.aS (bj t.aS c.aL).1 (fE (de (bj t.aS c.aL).2.1 (aV t.aS c.path).2.2.1)):=pu xD yx hzn (f:=fE (de (bj t.aS c.aL).2.1 (aV t.aS c.path).2.2.1)) rfl;rw[<-hp2]at b8;refine⟨pt y.nb,tt,_,_,rfl,⟨λh=>absurd hd h,λ_=>?_⟩,aW H⟩;refine Gt hi h2 _ _ _ rfl ?_;rw[ht1,<-hzb];exact Ak yx hzk _ _ (.of λR h H=>⟨_,⟨by rw[<-b8],by rw[<-b8]⟩,H⟩)
  ·refine⟨.pointer none,tt,(bj t.aS c.aL).2.1,(bj t.aS c.aL).2.2,?_,⟨λ_=>.of λR h H=>⟨t,⟨?_,?_⟩,H⟩,λh=>absurd h hd⟩,aW H⟩
   ·rw[aq hd];rfl
   ·rw[aB hd]at b8;rw[<-b8]
   ·rw[aB hd]at b8;rw[<-b8]
 ·refine⟨.pointer none,tt,(aV t.aS c.path).2.1,(aV t.aS c.path).2.2.1,(aV t.aS c.path).2.2.2,?_,⟨λ_=>.of λR h H=>⟨t,⟨?_,?_⟩,H⟩,λh=>absurd h hc⟩,aW H⟩
  ·rw[aq hc];rfl
  ·rw[aB hc]at b8;rw[<-b8]
  ·rw[aB hc]at b8;rw[<-b8]
end
section
open RX
variable {b:Nat}{t:TS}
theorem RN{i j:Nat}{t ty}{u v}(h:i≠j):bZ (.slice t (.tmp i) (some (.tmp j)) none none) ty [(i,u),(j,v)]=i6 t u (some v) none none:=by
 have hb:(i==j)=false:=by simpa using h
 simp[bZ,execOp,lW,i6,List.find?,hb]
structure JM(c:kR)(S:HP)(d:ax):Prop where
 rd:bX S c.da c.dl (d.map eX)
 len:d.length=c.dl
 ur:c.dl≠0->c.da.isSome=true
set_option maxHeartbeats 1000000 in
theorem aai{B}(wf:ey B t.aS)(c:kR)(S:HP):az prog 305 #[pt b,c.val] (aj (aU b t) S)
 (λv=>aE λt':TS=>aA (v=.int .i64 (DC t.aS c.path c.n).2/\t'.aS=(DC t.aS c.path c.n).1) (aj (aU b t') S)):=by
 refine ao (ρ:=[.n b,.p (aU b t),.i c.kind,.s c.path,.s c.aL,.i c.off,.i c.n,.a c.da,.n c.dl,.n c.dc,.p S]) {fk:=[183],aF:=ii,link:=ij,dN:=true,dv:=true,ck:=[183]} nK nL 11 ?_;intro x0;refine(wQ wf c.path).wk ?_;rintro v R h ⟨rfl,H⟩;obtain⟨T1,b8⟩:∃q,DC t.aS c.path c.n=q:=⟨_,rfl⟩;rw[b8];unfold DC at b8
 by_cases hf:(dy t.aS c.path).2=0
 ·rw[aq (by simp[hf])]at b8;rw[aB hf];obtain⟨n,h4,Ed,-⟩:=qQ wf hf;obtain⟨y,j,hj,rfl,Af,hjh,Wl,Hb⟩:=oM h4;rw[Wl];refine⟨pt y.nb,tt,_,_,rfl,⟨λh=>absurd hf h,λ_=>⟨λh=>.of λR' h' H=>⟨t,⟨?_,?_⟩,H⟩,λYF=>⟨λh=>.of λR' h' H=>⟨t,⟨?_,?_⟩,H⟩,λxD=>?_⟩⟩⟩,aW H⟩
  ·rw[aB h]at b8;rw[<-b8]
  ·rw[aB h]at b8;rw[<-b8]
  ·rw[aq YF,aB h]at b8;rw[<-b8]
  ·rw[aq YF,aB h]at b8;rw[<-b8]
  rw[aq YF,aq xD]at b8;obtain⟨k,hk⟩:=Int.eq_ofNat_of_zero_le (Int.not_lt.1 YF);rw[hk]at b8⊢;refine(B8 hj k (by omega)).aK (λ_ _ H=>ah H) ?_;rintro v R h ⟨a',c',⟨rfl,ha⟩,H⟩;refine⟨tt,_,rfl,.of λR h H=>⟨_,⟨by rw[<-b8],?_⟩,H⟩,aW H⟩;rw[<-b8];exact pu wf.nd hj Af (f:=fD λl=>nN l (k:Int).toNat) rfl
 ·refine⟨.pointer none,tt,(dy t.aS c.path).1,(dy t.aS c.path).2,?_,⟨λ_=>.of λR h H=>⟨t,⟨?_,?_⟩,H⟩,λh=>absurd h hf⟩,aW H⟩
  ·rw[aq hf];rfl
  ·rw[aB hf]at b8;rw[<-b8]
  ·rw[aB hf]at b8;rw[<-b8]
set_option maxHeartbeats 1000000 in
theorem RO{B}(wf:ey B t.aS)(c:kR)(S:HP)(d:ax)(hd:JM c S d):az prog 303 #[pt b,c.val] (aj (aU b t) S)
 (λv=>aE λt':TS=>aA (v=.int .i64 (pq t.aS c.path c.off d).2/\t'.aS=(pq t.aS c.path c.off d).1) (aj (aU b t') S)):=by
 refine ao (ρ:=[.n b,.p (aU b t),.i c.kind,.s c.path,.s c.aL,.i c.off,.i c.n,.a c.da,.n c.dl,.n c.dc,.p S]) {fk:=[183],aF:=ii,link:=ij,dN:=true,dv:=true,ck:=[183]} nK nL 11 ?_;intro x0;refine(wQ wf c.path).wk ?_;rintro v R h ⟨rfl,H⟩;obtain⟨T1,b8⟩:∃q,pq t.aS c.path c.off d=q:=⟨_,rfl⟩;rw[b8];unfold pq at b8
 by_cases hf:(dy t.aS c.path).2=0
 ·rw[aq (by simp[hf])]at b8;rw[aB hf];obtain⟨n,h4,Ed,-⟩:=qQ wf hf;obtain⟨y,j,hj,rfl,Af,hjh,Wl,Hb⟩:=oM h4;rw[Wl];have hlen:=hd.len;refine⟨pt y.nb,tt,_,_,rfl,⟨λh=>absurd hf h,λ_=>⟨λh=>.of λR h H=>⟨t,⟨?_,?_⟩,H⟩,λYF=>⟨λh=>.of λR h H=>⟨t,⟨?_,?_⟩,H⟩,λxD=>⟨eU _ (by omega) (by omega),λ_=>⟨λh=>.of λR h H=>⟨t,⟨?_,?_⟩,H⟩,λUn=>⟨λh=>.of λR h H=>⟨t,⟨?_,?_⟩,H⟩,λhn3=>?_⟩⟩⟩⟩⟩⟩,aW H⟩
  ·rw[aB (by omega)]at b8;rw[<-b8]
  ·rw[aB (by omega)]at b8;rw[<-b8]
  ·rw[aB (by omega)]at b8;rw[<-b8]
  ·rw[aB (by omega)]at b8;rw[<-b8]
  ·rw[aq (by omega),aB (by omega)]at b8;rw[<-b8]
  ·rw[aq (by omega),aB (by omega)]at b8;rw[<-b8]
  ·rw[aq (by omega),aq (by omega),aB (List.length_eq_zero_iff.1 (by omega))]at b8;rw[<-b8]
  ·rw[aq (by omega),aq (by omega),aB (List.length_eq_zero_iff.1 (by omega))]at b8;rw[<-b8]
  rw[aq (by omega),aq (by omega),aq (λe=>by rw[e]at hlen;simp at hlen;omega)]at b8;obtain⟨k,hk⟩:=Int.eq_ofNat_of_zero_le (Int.not_lt.1 YF);rw[hk]at b8 Un⊢;have hN:max (y.p.data.length:Int) (k+c.dl)=((max y.p.data.length (k+c.dl):Nat):Int):=by omega
  have hNb:max y.p.data.length (k+c.dl)<=100000:=by have:=(wf.at' h4).1.data;omega
  refine⟨y.nb,bK,y.da,y.p.data.length,y.dc,rdU (sC Hb),eU _ (by omega) (by omega),λ_=>?_⟩;rw[hN];refine(B8 hj _ hNb).aK (λ_ _ H=>ah H) ?_;rintro v R h ⟨a',c',⟨rfl,ha⟩,H⟩;obtain⟨y1,hy1⟩:∃q,y.DA a' c' (nN y.p.data (max y.p.data.length (k+c.dl)))=q:=⟨_,rfl⟩;have aiI:y1.p.data=nN y.p.data (max y.p.data.length (k+c.dl)):=by rw[<-hy1];rfl
  have ar0:y1.p.data.length=max y.p.data.length (k+c.dl):=by rw[aiI,yy]
  have yx:(t.jj j y1).ns[j]? =some y1:=by have:=wW (z:=y1) hj hj;rwa [aB rfl]at this
  have aiJ:=List.mem_of_getElem? yx;have hnb:y1.nb=y.nb:=by rw[<-hy1];rfl
  have U0:y1.da=a':=by rw[<-hy1];rfl
  rw[hy1]at H;have aiK:y1.p.data.length<=y1.dc:=bY.le (ai (ah (aU.node H aiJ)));refine⟨tt,_,rfl,?_,aW H⟩;obtain⟨j8,hj8,z1,z2,z3⟩:=info_parts yY;have hcd:k<y1.dc:=by omega
  have sl:=gp BW hj8 (aj tt (aU b (t.jj j y1))) y1.da y1.p.data.length y1.dc (some k) none none (by simp;omega) (by simpa using aiK) (Nat.le_refl _) (λh=>by cases h);simp only[Option.getD_some,Option.getD_none,aq (show ¬y1.dc=k by omega),show iA prog 5=1 from by kernel_rfl,Nat.mul_one]at sl;rw[<-hnb];refine⟨y1.nb,bK,y1.da,y1.p.data.length,y1.dc,rdU (sC aiJ),y1.da.map (λx=>x.add k),y1.p.data.length - k,y1.dc - k,?_,?_⟩
  ·rw[RN (by decide)];exact sl
  rw[Eo (by decide)];have cp:=aeQ (b:=b) (S:=S) yx (ty:=3) (o:=k) (dl:=y1.p.data.length - k) (dc:=y1.dc - k) (m:=c.dl) (c2:=c.dc) (d:=d) hd.rd hd.len hd.ur (λe=>by have:=hd.ur (by omega);rw[e]at this;cases this) (by rw[U0];exact ha) (by omega);have Mr:min c.dl (y1.p.data.length - k)=c.dl:=by omega
  rw[Mr]at cp;refine cp.aK (λ_ _ H=>ah H) ?_;rintro v R h ⟨rfl,H⟩;refine⟨_,tt,_,rfl,.of λR h H=>⟨_,⟨by rw[<-b8],?_⟩,H⟩,aW H⟩;rw[<-b8]
  have e1:((t.jj j y1).jj j (y1.DA y1.da y1.dc (y1.p.data.take k++d.take c.dl++y1.p.data.drop (k+c.dl))))=t.jj j (y1.DA y1.da y1.dc (y1.p.data.take k++d.take c.dl++y1.p.data.drop (k+c.dl))):=by
   unfold TS.jj;simp only[List.set_set]
  rw[e1];refine pu wf.nd hj Af (f:=fD (wrote (k:Int).toNat d)) ?_
  have e2:y1.p.data.take k++d.take c.dl++y1.p.data.drop (k+c.dl)=wrote (k:Int).toNat d y.p.data:=by
   rw[aiI];unfold wrote;rw[hlen,List.take_of_length_le (Nat.le_of_eq hlen)];rfl
  rw[e2,<-hy1];rfl
 ·refine⟨.pointer none,tt,(dy t.aS c.path).1,(dy t.aS c.path).2,?_,⟨λ_=>.of λR h H=>⟨t,⟨?_,?_⟩,H⟩,λh=>absurd h hf⟩,aW H⟩
  ·rw[aq hf];rfl
  ·rw[aB hf]at b8;rw[<-b8]
  ·rw[aB hf]at b8;rw[<-b8]
end
section
open RX
variable {b:Nat}{t:TS}
def JN(T:List Nd)(path:Nm)(off n:Int):Int×ax:=
 if(dy T path).2≠0 then((dy T path).2,[])else if off<0\/n<0\/256<n then(1,[])else match nodeAt T (dy T path).1 with
  |none=>(0,[])
  |some x=>(0,(x.data.drop off.toNat).take n.toNat)
structure fH where
 err:Int:=0
 kind:Int:=0
 size:Int:=0
 bo:Int:=0
 data:ax:=[]
 bp:List Nm:=[]
def fH.at(a:fH)(da:aG)(dc:Nat)(na:aG)(nc:Nat):Value:=
 .agg #[.int .i64 a.err,.int .i64 a.kind,.int .i64 a.size,.int .i64 a.bo,.slice da a.data.length dc,.slice na a.bp.length nc]
def aiL(A:HP)(C:HP):HP:=⟨λR h=>A.p R h/\C.p R h,λl1 l2 ⟨h1,h2⟩=>⟨A.mono l1 l2 h1,C.mono l1 l2 h2⟩⟩
theorem az.draw{P}{f}{args:dI}{A}{B}{α:Type}{A':α->HP}(h:∀R h,A.p R h->∃x,(A' x).p R h)(t:∀x,az P f args (A' x) B):az P f args A B:=λw R hh F s a=>by
 obtain⟨x,hx⟩:=h R hh a;exact t x w R hh F s hx
theorem Pe{α:Type}[LT α][LE α][DecidableRel (α:=α) (· <= ·)](tr:∀a b c:α,a<=b->b<=c->a<=c)(tot:∀a b:α,a<=b\/b<=a)(anu:∀a b:α,a<=b->b<=a->a=b){ys zs:List α}(h:ys.Perm zs)(hs:zs.Pairwise (· <= ·)):(ys.mergeSort λx y=>decide (x<=y))=zs:=by
 refine List.Perm.eq_of_pairwise (le:=(· <= ·)) (λa b _ _=>anu a b) ?_ hs ((List.mergeSort_perm ys _).trans h);have:=List.pairwise_mergeSort (le:=λx y:α=>decide (x<=y)) (λa b c h1 h2=>by simp only[decide_eq_true_eq]at*;exact tr a b c h1 h2) (λa b=>by simpa using tot a b) ys;exact this.imp λh=>by simpa using h
theorem Wn{x}(hx:x∈t.ns){X}{R h}(H:(aj X (aU b t)).p R h):∃q:AL Nm×Nat,(aj X (aiL (aU b t) ⟨λ_ h=>x.p.kind=1->fC q.1 q.2/\(∀k,aY k q.1=(lk x.p.ay k).map λn=>Value.int .i64 n)/\h x.mb=some (aX sE q.1 q.2),λ_ l hh hd=>⟨(hh hd).1,(hh hd).2.1,l _ _ (hh hd).2.2⟩⟩)).p R h:=by
 obtain⟨h1,h2,d,l1,l2,H1,H2⟩:=H
 by_cases hd:x.p.kind=1
 ·obtain⟨l,c,hI,hk,hh⟩:=dK.vB (aU.node H2 hx) hd;exact⟨(l,c),h1,h2,d,l1,l2,H1,H2,λ_=>⟨hI,hk,hh⟩⟩
 ·exact⟨([],0),h1,h2,d,l1,l2,H1,H2,λe=>absurd e hd⟩
theorem Cc{B}{x}(hx:x∈t.ns)(g:iu B x.p)(hB:B<=100000) kx:
 az prog 122 #[.func (.func 203) #[] #[pt kx]] (aj (lz kx x.gK) (aU b t))
  (λv=>aE λa=>aE λcc=>aA (v=.slice a x.p.ay.length cc) (aj (sv a x.p.ay.length cc (x.p.ay.map (·.1))) (aj (lz kx x.gK) (aU b t)))):=by
 by_cases hd:x.p.kind=1
 ·refine az.draw (λR h H=>Wn hx H) λq=>?_;obtain⟨l,c⟩:=q;refine az.cM (φ:=fC l c/\∀k,aY k l=(lk x.p.ay k).map λn=>Value.int .i64 n) (λR h H=>⟨((ah H).2 hd).1,((ah H).2 hd).2.1⟩) λ⟨hI,hk⟩=>?_;have hlen:=mD.len (mb:=0) (nO g.sort) hI hk;have Dz:x.gK=some x.mb:=by unfold HN.gK;rw[aB hd]
  have:=g.qP;refine(B1 kx x.gK l c _ hI (λy hy=>?_) (λmb e R h H=>?_) (λe=>by rw[Dz]at e;cases e) (by omega)).wk ?_
  ·obtain⟨k,v,z⟩:=y;have h1:=i9 k v z l hI.1 hy;rw[hk]at h1;obtain⟨n,_,h2⟩:=Option.map_eq_some_iff.1 h1;exact⟨n,h2.symm⟩
  ·rw[Dz]at e;cases e;exact(H.2 hd).2.2
  ·rintro v R h ⟨ys,a,cc,⟨hp,rfl⟩,H⟩;have hp2:ys.Perm (x.p.ay.map (·.1)):=hp.trans (Aj hI.1 (nO g.sort) (lk x.p.ay) (λk=>by rw[hk];cases lk x.p.ay k<;>rfl) (λk=>Ai k x.p.ay));rw[Pe (λa b c=>List.le_trans) (λa b=>List.le_total a b) (λa b=>List.le_antisymm) hp2 (g.sort.imp λh=>List.le_of_lt h)]at H;have hl:ys.length=x.p.ay.length:=by rw[hp2.length_eq,List.length_map]
   rw[hl]at H⊢;exact⟨a,cc,rfl,ae H (λ_ h=>h) λz hz=>ae hz (λ_ h=>h) λu hu=>hu.1⟩
 ·have he:x.p.ay=[]:=by
   rcases g.kind with⟨h,_⟩|⟨_,h⟩
   ·exact absurd h hd
   ·exact h
  have Dz:x.gK=none:=by unfold HN.gK;rw[aq hd]
  refine(B1 kx x.gK [] 0 (aU b t) (fC.nil 0) (λy hy=>by cases hy) (λmb e R h H=>by rw[Dz]at e;cases e) (λe=>rfl) (by simp)).wk ?_;rintro v R h ⟨ys,a,cc,⟨hp,rfl⟩,H⟩;have:ys=[]:=List.Perm.eq_nil (by simpa using hp);subst this;rw[he];rw[List.mergeSort_nil]at H;exact⟨a,cc,rfl,H⟩
theorem Wo{X}{R h}(H:(aj X (aU b t)).p R h):∃q:AL Int×Nat,(aj X (aiL (aU b t) ⟨λ_ h=>fC q.1 q.2/\(∀k,aY k q.1=fT t.ns k)/\h t.mb=some (aX cr q.1 q.2),λ_ l hh=>⟨hh.1,hh.2.1,l _ _ hh.2.2⟩⟩)).p R h:=by
 obtain⟨h1,h2,d,l1,l2,H1,H2⟩:=H;obtain⟨l,c,hI,hk,hh⟩:=aaf H2;exact⟨(l,c),h1,h2,d,l1,l2,H1,H2,hI,hk,hh⟩
theorem ey.RP{B}{t:TS}(wf:ey B t.aS):t.ns.length<=64:=by
 have hp:((t.ns.map λx=>(x.p.num:Int))).length<=64:=by
  have rR:((t.aS.map (·.num)).filter λk=>decide (k<64)).Perm ((List.range 64).filter λk=>(nodeAt t.aS k).isSome):=by
   refine(List.perm_ext_iff_of_nodup (wf.nd.sublist List.filter_sublist) (List.nodup_range.sublist List.filter_sublist)).2 λk=>?_;rw[List.mem_filter,List.mem_filter,List.mem_range];constructor
   ·rintro⟨h1,h2⟩;obtain⟨n,hn,rfl⟩:=List.mem_map.1 h1;exact⟨by simpa using h2,by rw[fi wf.nd hn];rfl⟩
   ·rintro⟨h1,h2⟩;obtain⟨n,hn⟩:=Option.isSome_iff_exists.1 h2;exact⟨List.mem_map.2 ⟨n,(bI hn).1,(bI hn).2⟩,by simpa using h1⟩
  have h1:=rR.length_eq;have h2:=List.length_filter_le (λk=>(nodeAt t.aS k).isSome) (List.range 64)
  have h3:((t.aS.map (·.num)).filter λk=>decide (k<64))=t.aS.map (·.num):=by
   rw[List.filter_eq_self];intro k hk;obtain⟨n,hn,rfl⟩:=List.mem_map.1 hk;simpa using(wf.jY n hn).num
  rw[h3,List.length_map]at h1;rw[show t.aS.length=t.ns.length from by unfold TS.aS;rw[List.length_map]]at h1;rw[List.length_range]at h2;rw[List.length_map];omega
 simpa using hp
theorem JO{B}(wf:ey B t.aS) kx:
 az prog 120 #[.func (.func 200) #[] #[pt kx]] (aj (mo kx (some t.mb)) (aU b t))
  (λv=>aE λa=>aE λcc=>aA (v=.slice a t.ns.length cc) (aj (kv a t.ns.length cc (t.ns.map λx=>(x.p.num:Int))) (aj (mo kx (some t.mb)) (aU b t)))):=by
 have hs:(t.ns.map λx=>(x.p.num:Int)).Pairwise (· < ·):=by
  have h1:=wf.sorted;unfold TS.aS at h1;rw[List.map_map]at h1;have e:(t.ns.map λx=>(x.p.num:Int))=(t.ns.map ((λn:Nd=>n.num)∘λx:HN=>x.p)).map (λn:Nat=>(n:Int)):=by rw[List.map_map];rfl
  rw[e];exact List.Pairwise.map _ (λa b h=>by exact_mod_cast h) h1
 have iZ:(t.ns.map λx=>(x.p.num:Int)).Nodup:=hs.imp λh=>by omega
 have Wp:=wf.RP;refine az.draw (λR h H=>Wo H) λq=>?_;obtain⟨l,c⟩:=q;refine az.cM (φ:=fC l c/\∀k,aY k l=fT t.ns k) (λR h H=>⟨(ah H).2.1,(ah H).2.2.1⟩) λ⟨hI,hk⟩=>?_
 have Pd:(l.map (·.1)).Perm (t.ns.map λx=>(x.p.num:Int)):=Aj hI.1 iZ (fT t.ns) (λk=>by rw[hk]) λk=>by
  unfold fT;rw[Option.isSome_map,List.find?_isSome];simp[List.mem_map]
 have hlen:l.length=t.ns.length:=by simpa using Pd.length_eq
 refine(MB kx (some t.mb) l c _ hI (λy hy=>?_) (λmb e R h H=>by cases e;exact H.2.2.2) (λe=>by cases e) (by omega)).wk ?_
 ·obtain⟨k,v,z⟩:=y;have h1:=i9 k v z l hI.1 hy;rw[hk]at h1;obtain⟨n,_,h2⟩:=Option.map_eq_some_iff.1 h1;exact⟨n.nb,h2.symm⟩
 ·rintro v R h ⟨ys,a,cc,⟨hp,rfl⟩,H⟩;rw[Pe (λa b c=>Int.le_trans) (λa b=>Int.le_total a b) (λa b=>Int.le_antisymm) (hp.trans Pd) (hs.imp λh=>Int.le_of_lt h)]at H;have hl:ys.length=t.ns.length:=by rw[hp.length_eq,List.length_map,hlen]
  rw[hl]at H⊢;exact⟨a,cc,rfl,ae H (λ_ h=>h) λz hz=>ae hz (λ_ h=>h) λu hu=>hu.1⟩
theorem bX.sub{S}{a}{n}{xs}(r:bX S a n xs) o k(hk:o+k<=n) z[Decidable z](hz:z->k=0):bX S (if z then a else a.map λx=>x.add o) k ((xs.drop o).take k) where
 rd w R h F s H j u hj:=by
  rw[List.getElem?_take]at hj;split at hj
  ·rename_i hjk;rw[List.getElem?_drop]at hj;obtain⟨g,off,rfl,hc⟩:=r.rd w R h F s H (o+j) u hj;rw[aq (λh=>by have:=hz h;omega)];refine⟨g,off+o,by rw[Option.map_some,RX.addr_add],?_⟩;rw[Nat.add_assoc];exact hc
  ·cases hj
 none R h H e:=by
  split at e
  ·rename_i h;exact hz h
  ·have:=r.none R h H (by simpa using e);omega
theorem RQ{i j k:Nat}{t ty}{u v x}(h:i≠j)(h2:i≠k)(h3:j≠k):bZ (.slice t (.tmp i) (some (.tmp j)) (some (.tmp k)) none) ty [(i,u),(j,v),(k,x)]=i6 t u (some v) (some x) none:=by
 have hb:(i==j)=false:=by simpa using h
 have Tk:(i==k)=false:=by simpa using h2
 have hb3:(j==k)=false:=by simpa using h3
 simp[bZ,execOp,lW,i6,List.find?,hb,Tk,hb3]
def aeU(da:aG)(dc:Nat)(na:aG)(nc:Nat)(a:fH):HP:=aj (dS da a.data.length dc a.data) (sv na a.bp.length nc a.bp)
theorem aeU.nil{a:fH}(hd:a.data=[])(hn:a.bp=[]){A}{R h}(H:A.p R h):(aj (dS none a.data.length 0 a.data) (aj (sv none a.bp.length 0 a.bp) A)).p R h:=by
 rw[hd,hn];exact ae (aW H) (λ_ _=>bY.nil _ _ _ _) λz hz=>ae (aW hz) (λ_ _=>bY.nil _ _ _ _) λ_ h=>h
def Told(b:Nat)(t:TS)(S:HP)(a:fH)(v:Value):HP:=aE λda=>aE λdc=>aE λna=>aE λnc=>aA (v=a.at da dc na nc) (aj (dS da a.data.length dc a.data) (aj (sv na a.bp.length nc a.bp) (aj (aU b t) S)))
theorem Told.nil{S}{a:fH}{v}(hd:a.data=[])(hn:a.bp=[])(hv:v=a.at none 0 none 0):HP.aT (aj (aU b t) S) (Told b t S a v):=.of λR h H=>⟨none,0,none,0,hv,aeU.nil hd hn H⟩
def yz(T:List Nd)(path:Nm)(off n:Int):fH:={err:=(JN T path off n).1,data:=(JN T path off n).2}
def nQ(T:List Nd)(path:Nm):fH:=
 if(bG T path).2≠0 then{err:=(bG T path).2}else match nodeAt T (bG T path).1 with
  |none=>{}
  |some x=>{kind:=x.kind,size:=if x.kind=1 then x.ay.length else x.data.length,bo:=x.bo}
def Cd(T:List Nd)(path:Nm):fH:=
 if(bG T path).2≠0 then{err:=(bG T path).2}else match nodeAt T (bG T path).1 with
  |none=>{}
  |some x=>if x.kind≠1 then{err:=23}else{bp:=x.ay.map (·.1)}
set_option maxHeartbeats 1000000 in
theorem Wq{B}(hB:B<=100000)(wf:ey B t.aS)(c:kR)(S:HP):az prog 307 #[pt b,c.val] (aj (aU b t) S) (Told b t S (Cd t.aS c.path)):=by
 refine ao (ρ:=[.n b,.p (aU b t),.i c.kind,.s c.path,.s c.aL,.i c.off,.i c.n,.a c.da,.n c.dl,.n c.dc,.p S]) {fk:=[183],aF:=ii,link:=ij,dN:=true,dv:=true,ck:=[183]} nK nL 11 ?_;intro x0 x00;refine(qb wf c.path).wk ?_;rintro v R h ⟨rfl,H⟩;obtain⟨T1,b8⟩:∃q,Cd t.aS c.path=q:=⟨_,rfl⟩;rw[b8];unfold Cd at b8;refine⟨_,_,rfl,?_,H⟩;clear H;obtain⟨xn,RK⟩:=Option.isSome_iff_exists.1 (nM wf c.path);obtain⟨x,i,hi,rfl,hin,hih,hip,IL⟩:=oM RK;have iV:=mE (b:=b) (t:=t) (bG t.aS c.path).1;rw[hih]at iV;refine⟨λhc=>?_,λhc=>⟨t.mb,fq,pt x.nb,iV,x.nb,bK,x.p.kind,mF IL,⟨λhk=>?_,λhk=>?_⟩⟩⟩
 ·rw[aB hc]at b8;subst b8;exact Told.nil rfl rfl rfl
 ·rw[aq (by simp[hc]),RK]at b8;simp only at b8;rw[aB hk]at b8;subst b8;exact Told.nil rfl rfl rfl
 ·rw[aq (by simp[hc]),RK]at b8;simp only at b8;rw[aq (by simp[hk])]at b8;have he:=pj (b:=b) IL;have Dz:x.gK=some x.mb:=by unfold HN.gK;rw[aB hk]
  rw[Dz]at he;refine⟨x.nb,bK,x.mb,he,?_⟩;refine(Jy (some x.mb) (aU b t)).wk ?_;rintro v R h ⟨kx,rfl,H⟩;refine⟨.func (.func 203) #[] #[pt kx],lz kx (some x.mb),rfl,?_,H⟩;clear H;have so:=Cc (b:=b) IL (wf.jY _ (wf.at' RK).2.2) hB kx;rw[Dz]at so;refine so.wk ?_;rintro v R h ⟨a,cc,rfl,H⟩;refine⟨a,x.p.ay.length,cc,_,rfl,.of λR h H=>?_,H⟩;subst b8;refine⟨none,0,a,cc,?_,?_⟩
  ·unfold fH.at;simp only[List.length_map];rfl
  ·refine ae (aW H) (λ_ _=>bY.nil _ _ _ _) λz hz=>?_;simp only[List.length_map];exact HP.pick [_,_,_] [2,0,1] (by decide) rfl hz
set_option maxHeartbeats 1000000 in
theorem Wr{B}(wf:ey B t.aS)(c:kR)(S:HP):az prog 306 #[pt b,c.val] (aj (aU b t) S) (Told b t S (nQ t.aS c.path)):=by
 refine ao (ρ:=[.n b,.p (aU b t),.i c.kind,.s c.path,.s c.aL,.i c.off,.i c.n,.a c.da,.n c.dl,.n c.dc,.p S]) {fk:=[183],aF:=ii,link:=ij,dN:=true,dv:=true,ck:=[183]} nK nL 11 ?_;intro x0 x00;refine(qb wf c.path).wk ?_;rintro v R h ⟨rfl,H⟩;obtain⟨T1,b8⟩:∃q,nQ t.aS c.path=q:=⟨_,rfl⟩;rw[b8];unfold nQ at b8;refine⟨_,_,rfl,?_,H⟩;clear H;obtain⟨xn,RK⟩:=Option.isSome_iff_exists.1 (nM wf c.path);obtain⟨x,i,hi,rfl,hin,hih,hip,IL⟩:=oM RK;have iV:=mE (b:=b) (t:=t) (bG t.aS c.path).1;rw[hih]at iV;refine⟨λhc=>?_,λhc=>⟨t.mb,fq,pt x.nb,iV,x.nb,bK,x.da,x.p.data.length,x.dc,sC IL,x.nb,bK,x.p.kind,mF IL,⟨λhk=>?_,λhk=>?_⟩⟩⟩
 ·rw[aB hc]at b8;subst b8;exact Told.nil rfl rfl rfl
 ·rw[aq (by simp[hc]),RK]at b8;simp only at b8;rw[aB hk]at b8;subst b8;have he:=pj (b:=b) IL;have Dz:x.gK=some x.mb:=by unfold HN.gK;rw[aB hk]
  rw[Dz]at he;refine⟨x.nb,bK,x.mb,he,x.p.ay.length,by rw[B4];exact O8 IL hk (nO (wf.at' RK).1.sort),x.nb,bK,x.p.kind,mF IL,x.nb,bK,x.p.bo,oJ IL,?_⟩;exact Told.nil rfl rfl rfl
 ·rw[aq (by simp[hc]),RK]at b8;simp only at b8;rw[aq hk]at b8;subst b8;refine⟨x.nb,bK,x.p.kind,mF IL,x.nb,bK,x.p.bo,oJ IL,?_⟩;exact Told.nil rfl rfl rfl
set_option maxHeartbeats 1000000 in
theorem Ws{B}(wf:ey B t.aS)(c:kR)(S:HP):az prog 304 #[pt b,c.val] (aj (aU b t) S) (Told b t S (yz t.aS c.path c.off c.n)):=by
 refine ao (ρ:=[.n b,.p (aU b t),.i c.kind,.s c.path,.s c.aL,.i c.off,.i c.n,.a c.da,.n c.dl,.n c.dc,.p S]) {fk:=[183],aF:=ii,link:=ij,dN:=true,dv:=true,ck:=[183]} nK nL 11 ?_;intro x0 x00;refine(wQ wf c.path).wk ?_;rintro v R h ⟨rfl,H⟩;obtain⟨T1,b8⟩:∃q,yz t.aS c.path c.off c.n=q:=⟨_,rfl⟩;rw[b8];unfold yz JN at b8
 by_cases hf:(dy t.aS c.path).2=0
 ·rw[aq (by simp[hf])]at b8;rw[aB hf];obtain⟨n,h4,Ed,-⟩:=qQ wf hf;obtain⟨y,j,hj,rfl,Af,hjh,Wl,Hb⟩:=oM h4;rw[Wl];rw[h4]at b8;simp only at b8;have aiK:y.p.data.length<=y.dc:=bY.le (ai (ah (aU.node H Hb)));refine⟨pt y.nb,tt,_,_,rfl,⟨λh=>absurd hf h,λ_=>⟨λh1=>?_,λh1=>⟨λh2=>?_,λh2=>⟨λh3=>?_,λh3=>?_⟩⟩⟩⟩,aW H⟩
  ·rw[aB (by omega)]at b8;subst b8;exact Told.nil rfl rfl rfl
  ·rw[aB (by omega)]at b8;subst b8;exact Told.nil rfl rfl rfl
  ·rw[aB (by omega)]at b8;subst b8;exact Told.nil rfl rfl rfl
  rw[aq (by omega)]at b8;obtain⟨o,ho⟩:∃o,min c.off.toNat y.p.data.length=o:=⟨_,rfl⟩;obtain⟨e,he⟩:∃e,min (o+c.n.toNat) y.p.data.length=e:=⟨_,rfl⟩;have e1:min c.off (y.p.data.length:Int)=(o:Int):=by omega
  have e2:min ((o:Int)+c.n) (y.p.data.length:Int)=(e:Int):=by omega
  have hdl:=(wf.at' h4).1.data;have hoe:o<=e:=by omega
  have Ts:e<=y.p.data.length:=by omega
  obtain⟨j8,hj8,z1,z2,z3⟩:=info_parts yY;have sl:=gp BW hj8 (aj tt (aU b t)) y.da y.p.data.length y.dc (some o) (some e) none (by simpa using hoe) (by simp;omega) (Nat.le_refl _) (λh=>by cases h);simp only[Option.getD_some,Option.getD_none,show iA prog 5=1 from by kernel_rfl,Nat.mul_one]at sl;refine⟨y.nb,bK,y.da,y.p.data.length,y.dc,rdU (sC Hb),by rw[e1];exact eU _ (by omega) (by omega),λ_=>⟨y.nb,bK,y.da,y.p.data.length,y.dc,rdU (sC Hb),y.nb,bK,y.da,y.p.data.length,y.dc,rdU (sC Hb),(if y.dc=o then y.da else y.da.map λx=>x.add o),e - o,y.dc - o,?_,?_⟩⟩
  ·rw[RQ (by decide) (by decide) (by decide),e1,e2];exact sl
  have hr:bX (aj tt (aU b t)) (if y.dc=o then y.da else y.da.map λx=>x.add o) (e - o) (((y.p.data.drop o).take (e - o)).map eX):=by
   have r0:=Gp (b:=b) Hb;have r1:bX (aj tt (aU b t)) y.da y.p.data.length (y.p.data.map eX):=⟨r0.rd.right,λR h H=>r0.none R h (ah H)⟩;have:=r1.sub o (e - o) (by omega) (y.dc=o) (λh=>by omega)
   rwa [<-List.map_drop,<-List.map_take]at this
  have hd:(y.p.data.drop o).take (e - o)=(y.p.data.drop c.off.toNat).take c.n.toNat:=by
   rcases Nat.le_total c.off.toNat y.p.data.length with h|h
   ·have:o=c.off.toNat:=by omega
    rw[this];rcases Nat.le_total (c.off.toNat+c.n.toNat) y.p.data.length with g|g
    ·congr 1;omega
    ·rw[List.take_of_length_le (by rw[List.length_drop];omega),List.take_of_length_le (by rw[List.length_drop];omega)]
   ·have:e - o=0:=by omega
    rw[this,List.take_zero,List.drop_eq_nil_of_le h,List.take_nil]
  refine(iC _ _ (e - o) (y.dc - o) ((y.p.data.drop o).take (e - o)) hr (by rw[List.length_take,List.length_drop];omega) (by omega)).wk ?_;rintro v R h ⟨a',c',rfl,H⟩;refine⟨a',e - o,c',_,rfl,.of λR h H=>?_,H⟩;subst b8;have hl:((y.p.data.drop c.off.toNat).take c.n.toNat).length=e - o:=by rw[<-hd,List.length_take,List.length_drop];omega
  refine⟨a',c',none,0,?_,?_⟩
  ·unfold fH.at;simp only[hl];rfl
  ·simp only[hl];rw[hd]at H;exact ae (HP.pick [_,_,_] [2,0,1] (by decide) rfl H) (λ_ h=>h) λz hz=>ae (aW hz) (λ_ _=>bY.nil _ _ _ _) λ_ h=>h
 ·refine⟨.pointer none,tt,(dy t.aS c.path).1,(dy t.aS c.path).2,?_,⟨λ_=>?_,λh=>absurd h hf⟩,aW H⟩
  ·rw[aq hf];rfl
  ·rw[aB hf]at b8;subst b8;exact Told.nil rfl rfl rfl
end
section
open RX
variable {b:Nat}{t:TS}
def zx(T:List Nd)(kind:Int)(path aL:Nm)(off n:Int)(d:ax):List Nd×fH:=
 if kind=1\/kind=3 then((uo T kind path).1,{err:=(uo T kind path).2})
 else if kind=2 then((po T path).1,{err:=(po T path).2})
 else if kind=4 then((lY T path).1,{err:=(lY T path).2})
 else if kind=5 then((uq T path aL).1,{err:=(uq T path aL).2})
 else if kind=6 then((ft T path aL).1,{err:=(ft T path aL).2})
 else if kind=7 then((pq T path off d).1,{err:=(pq T path off d).2})
 else if kind=8 then(T,yz T path off n)
 else if kind=9 then((DC T path n).1,{err:=(DC T path n).2})
 else if kind=10 then(T,nQ T path)
 else if kind=11 then(T,Cd T path)
 else if kind=12 then(T,{})
 else(T,{err:=1})
theorem ey.do{B}{T:List Nd}(wf:ey B T)(hB:1<=B)(kind:Int)(path aL:Nm)(off n:Int)(d:ax):ey (B+1) (zx T kind path aL off n d).1:=by
 unfold zx;split
 ·exact wf.make kind hB path
 split
 ·exact wf.Wh path
 split
 ·exact wf.unlink path
 split
 ·exact wf.link path aL
 split
 ·exact wf.rename path aL
 split
 ·exact(wf.write path off d).le (by omega)
 split
 ·exact wf.le (by omega)
 split
 ·exact(wf.cut path n).le (by omega)
 split
 ·exact wf.le (by omega)
 split
 ·exact wf.le (by omega)
 split
 ·exact wf.le (by omega)
 ·exact wf.le (by omega)
def nR(b:Nat)(r:List Nd×fH)(S:HP)(v:Value):HP:=aE λt':TS=>aA (t'.aS=r.1) (Told b t' S r.2 v)
theorem nR.err{r}{t'}{S}{v}{e}(hp:t'.aS=r.1)(hr:r.2={err:=e})(hv:v=fH.at {err:=e} none 0 none 0):HP.aT (aj (aU b t') S) (nR b r S v):=by
 refine .of λR h H=>⟨t',hp,?_⟩;rw[hr];exact⟨none,0,none,0,hv,aeU.nil rfl rfl H⟩
theorem nR.told{r}{S}{da na}{dc nc}(hp:t.aS=r.1):HP.aT (aj (aU b t) (aj S (aj (dS da r.2.data.length dc r.2.data) (sv na r.2.bp.length nc r.2.bp)))) (nR b r S (r.2.at da dc na nc)):=
 .of λR h H=>⟨t,hp,da,dc,na,nc,rfl,HP.pick [_,_,_,_] [2,3,0,1] (by decide) rfl H⟩
theorem zy{f}{args:dI}{S}{X:List Nd×Int}{r}(tr:az prog f args (aj (aU b t) S) (λv=>aE λt':TS=>aA (v=.int .i64 X.2/\t'.aS=X.1) (aj (aU b t') S)))(hr:(X.1,({err:=X.2}:fH))=r):
 az prog f args (aj (aU b t) S) (λv=>aE λx:Int=>aE λx1:HP=>aE λx2:HP=>aA (v=.int .i64 x) (aA ((aj x1 x2).aT (nR b r S (.agg #[.int .i64 x,.int .i64 0,.int .i64 0,.int .i64 0,.slice none 0 0,.slice none 0 0]))) (aj x1 x2))):=by
 refine tr.wk ?_;rintro v R h ⟨t',⟨rfl,hp⟩,H⟩;exact⟨X.2,aU b t',S,rfl,nR.err (e:=X.2) (by rw[<-hr];exact hp) (by rw[<-hr]) rfl,H⟩
theorem MK{f}{args:dI}{S}{a}{r}(tr:az prog f args (aj (aU b t) S) (Told b t S a))(hr:(t.aS,a)=r):
 az prog f args (aj (aU b t) S) (λv=>aE λx:Int=>aE λx1:Int=>aE λx2:Int=>aE λx3:Int=>aE λda:aG=>aE λdl:Nat=>aE λdc:Nat=>aE λdP:HP=>aE λna:aG=>aE λnl:Nat=>aE λnc:Nat=>aE λnP:HP=>
  aA (v=.agg #[.int .i64 x,.int .i64 x1,.int .i64 x2,.int .i64 x3,.slice da dl dc,.slice na nl nc]) (aA ((aj (aU b t) (aj S (aj dP nP))).aT (nR b r S (.agg #[.int .i64 x,.int .i64 x1,.int .i64 x2,.int .i64 x3,.slice da dl dc,.slice na nl nc]))) (aj dP (aj nP (aj (aU b t) S))))):=by
 refine tr.wk ?_;rintro v R h ⟨da,dc,na,nc,rfl,H⟩;refine⟨a.err,a.kind,a.size,a.bo,da,a.data.length,dc,_,na,a.bp.length,nc,_,rfl,?_,H⟩;subst hr;exact nR.told (r:=(t.aS,a)) rfl
set_option maxHeartbeats 2000000 in
theorem aeV{B}(hB:B<=100000)(wf:ey B t.aS)(c:kR)(S:HP)(d:ax)(hd:JM c S d):az prog 283 #[pt b,c.val] (aj (aU b t) S) (nR b (zx t.aS c.kind c.path c.aL c.off c.n d) S):=by
 refine ao (ρ:=[.n b,.p (aU b t),.i c.kind,.s c.path,.s c.aL,.i c.off,.i c.n,.a c.da,.n c.dl,.n c.dc,.p S]) {fk:=[183],aF:=ii,link:=ij,dN:=true,dv:=true,ck:=[183]} nK nL 11 ?_;obtain⟨r,hr⟩:∃q,zx t.aS c.kind c.path c.aL c.off c.n d=q:=⟨_,rfl⟩;rw[hr];unfold zx at hr;intro x0 x00;refine⟨λk=>?_,λk1=>⟨λk=>?_,λk3=>⟨λk=>?_,λk2=>⟨λk=>?_,λk4=>⟨λk=>?_,λk5=>⟨λk=>?_,λk6=>⟨λk=>?_,λk7=>⟨λk=>?_,λk8=>⟨λk=>?_,λk9=>⟨λk=>?_,λk10=>⟨λk=>?_,λk11=>⟨λk=>?_,λk12=>?_⟩⟩⟩⟩⟩⟩⟩⟩⟩⟩⟩⟩
 ·rw[aB (.inl k)]at hr;exact zy (JL wf c S) hr
 ·rw[aB (.inr k)]at hr;exact zy (JL wf c S) hr
 all_goals rw[aq (by omega)]at hr
 ·rw[aB k]at hr;exact zy (RM wf c S) hr
 all_goals rw[aq (by omega)]at hr
 ·rw[aB k]at hr;exact zy (MI (by omega) wf c S) hr
 all_goals rw[aq (by omega)]at hr
 ·rw[aB k]at hr;exact zy (Wm (by omega) wf c S) hr
 all_goals rw[aq (by omega)]at hr
 ·rw[aB k]at hr;exact zy (MJ wf c S) hr
 all_goals rw[aq (by omega)]at hr
 ·rw[aB k]at hr;exact zy (RO wf c S d hd) hr
 all_goals rw[aq (by omega)]at hr
 ·rw[aB k]at hr;exact MK (Ws wf c S) hr
 all_goals rw[aq (by omega)]at hr
 ·rw[aB k]at hr;exact zy (aai wf c S) hr
 all_goals rw[aq (by omega)]at hr
 ·rw[aB k]at hr;exact MK (Wr wf c S) hr
 all_goals rw[aq (by omega)]at hr
 ·rw[aB k]at hr;exact MK (Wq hB wf c S) hr
 all_goals rw[aq (by omega)]at hr
 ·rw[aB k]at hr;exact nR.err (e:=0) (by rw[<-hr]) (by rw[<-hr]) rfl
 ·rw[aq k12]at hr;exact nR.err (e:=1) (by rw[<-hr]) (by rw[<-hr]) rfl
theorem JP{i j:Nat}{t ty}{u v k}(h:i≠j):bZ (.insert t (.tmp i) (.const k) (.tmp j)) ty [(i,u),(j,v)]=kK t u k v:=by
 have hb:(i==j)=false:=by simpa using h
 simp[bZ,execOp,lW,kK,List.find?,hb]
def sH:List Nd:=[dg 0 1]
theorem Gv:ey 1 sH:=by
 refine mk' (by simp[sH]) ⟨_,rfl,rfl⟩ (λk n h=>?_) (λk n h=>?_) (λk n h h0=>?_)
 ·obtain⟨h1,h2⟩:=bI h;obtain rfl:n=dg 0 1:=by simpa[sH]using h1
  exact⟨.inl ⟨rfl,rfl,rfl⟩,by simp[dg],by simp[dg],by simp[dg],by simp[dg],by simp[dg],by simp[dg],by simp[dg]⟩
 ·obtain⟨h1,h2⟩:=bI h;obtain rfl:n=dg 0 1:=by simpa[sH]using h1
  intro e he;simp[dg]at he
 ·obtain⟨h1,h2⟩:=bI h;obtain rfl:n=dg 0 1:=by simpa[sH]using h1
  exact absurd h2.symm h0
theorem aaj:az prog 52 #[] tt (λv=>aE λb:Nat=>aE λt:TS=>aA (v=pt b/\t.aS=sH) (aU b t)):=by
 refine ao (ρ:=[]) {fk:=[183],aF:=ii,link:=ij,dN:=true,dv:=true,ck:=[183]} [] [] 0 ?_;intro mb;refine Gs.wk ?_;rintro v R h ⟨nb,em,rfl,H⟩;refine⟨pt nb,_,rfl,?_,H⟩;clear H;rw[JP (by decide)];have u:=(o6 (r:=mb) (l:=[]) (c:=0) B3 zu 0 (pt nb)).frame (aj (HP.one nb (.cells #[.int .i64 1,.int .i64 1,.slice none 0 0,.map (some em)] 210 (0,0))) (mD em []));refine u.wk ?_;rintro v R h ⟨h1,h2,d,l1,l2,⟨rfl,H1⟩,H2⟩;refine⟨aj (HP.one mb (aX cr (iq 0 (pt nb) 0 []) (mY 0 [] 0))) (aj (HP.one nb (.cells #[.int .i64 1,.int .i64 1,.slice none 0 0,.map (some em)] 210 (0,0))) (mD em [])),rfl,λb=>.of λR h H=>⟨b,⟨mb,[⟨dg 0 1,nb,em,none,0⟩]⟩,⟨rfl,rfl⟩,?_⟩,⟨h1,h2,d,l1,l2,H1,H2⟩⟩;refine ae H (λ_ h=>h) λz hz=>ae hz (λy hy=>?_) λy hy=>?_
 ·refine⟨_,_,⟨(fC.nil 0).put 0 _,λq=>?_⟩,hy⟩;rw[i7];unfold fT;simp only[dg,List.find?_cons,List.find?_nil]
  by_cases e:q=0
  ·subst e;rfl
  ·rw[aq e];simp[Ne.symm e];rfl
 ·exact cQ.2 (aD (aiF rfl hy))
def mN(T:List Nd)(c:kR)(d:ax):List Nd×fH:=zx T c.kind c.path c.aL c.off c.n d
end
section
open RX
variable {b:Nat}{t:TS}
def RR(x:Nm×Nat):List Value:=[sE x.1,.int .i64 x.2]
def tO:o5 (Nm×Nat) where
 n:=2
 pos:=by decide
 aJ:=RR
 len _:=rfl
 hp _:=tt
 iF _ _ _ _ h:=h
def Ce:PK (Nm×Nat) where
 e:=104
 n:=2
 pos:=by decide
 aJ:=RR
 len _:=rfl
 one x u hu:=by
  simp only[RR,List.mem_cons,List.not_mem_nil,or_false]at hu;rcases hu with rfl|rfl<;>rfl
 bV _:=tt
structure dh where
 nd:Nd
 da:aG
 dc:Nat
 ea:aG
 ec:Nat
instance:Inhabited dh:=⟨⟨⟨0,0,0,[],[]⟩,none,0,none,0⟩⟩
def eW(x:dh):List Value:=[.int .i64 x.nd.num,.int .i64 x.nd.kind,.int .i64 x.nd.bo,.slice x.da x.nd.data.length x.dc,.slice x.ea x.nd.ay.length x.ec]
def nS(x:dh):HP:=HP.both (bE x.da x.nd.data.length x.nd.data) (Ls tO x.ea x.nd.ay.length x.nd.ay)
theorem hY x R h h'(H:(nS x).p R h):(nS x).p R h':=⟨H.1,Ls.iF h' H.2⟩
def gM:o5 dh where
 n:=5
 pos:=by decide
 aJ:=eW
 len _:=rfl
 hp:=nS
 iF:=hY
def u7:PK dh where
 e:=101
 n:=5
 pos:=by decide
 aJ:=eW
 len _:=rfl
 one x u hu:=by
  simp only[eW,List.mem_cons,List.not_mem_nil,or_false]at hu;rcases hu with rfl|rfl|rfl|rfl|rfl<;>rfl
 bV:=nS
def qR(a:aG)(n:Nat)(L:List Nd):HP:=aE λes:List dh=>aA (es.map (·.nd)=L) (Ls gM a n es)
theorem RT{P}{o}{A A'}{B}(t:aR P o A B)(e:HP.aT A' A):aR P o A' B:=t.bv (K:=tt) (e.trans (.of λ_ _ H=>aD H)) λ_=>.of λ_ _ H=>ai H
theorem Pf:(prog.info? 104).map (λi=>(i.zero.map (·.cells.size),i.size,i.bytes))=some (some 2,2,24):=by kernel_rfl
theorem Wt:(prog.info? 101).map (λi=>(i.zero.map (·.cells.size),i.size,i.bytes))=some (some 5,5,72):=by kernel_rfl
theorem acD:prog.underlying 99=some (.slice 104):=by kernel_rfl
theorem acE:prog.underlying 52=some (.slice 101):=by kernel_rfl
theorem Al{t}{n k m}(h:(prog.info? t).map (λi=>(i.zero.map (·.cells.size),i.size,i.bytes))=some (some n,k,m)):∃i z,prog.info? t=some i/\i.zero=some z/\z.cells.size=n/\i.size=k/\i.bytes=m:=by
 obtain⟨i,h1,h2⟩:=Option.map_eq_some_iff.1 h;injection h2 with h2 h3;injection h3 with h3 h4;obtain⟨z,h5,h6⟩:=Option.map_eq_some_iff.1 h2;exact⟨i,z,h1,h5,h6,h3,h4⟩
theorem aeW(a:aG) n c l q x Q(hb:n<=1000000000):
 aR prog (o4 99 99 (.slice a n c) (.slice (some ⟨q,0,none⟩) 1 1)) (aj (PL Ce a n c l) (aj (HP.one q (.cells #[sE x.1,.int .i64 x.2] 104 (0,0))) (aj tt Q)))
  (λv=>aE λa'=>aE λc'=>aA (v=.slice a' (n+1) c') (aj (PL Ce a' (n+1) c' (l++[x])) Q)):=by
 obtain⟨i,z,hi,h1,h2,h3,h4⟩:=Al Pf;exact PL.app (K:=Ce) _ _ acD hi h1 (by rw[h2,h3]) h3 (by rw[h4];decide) a n c l q x Q hb
theorem aak(a:aG) n c l q x Q(hb:n<=1000000000):
 aR prog (o4 52 52 (.slice a n c) (.slice (some ⟨q,0,none⟩) 1 1)) (aj (PL u7 a n c l) (aj (HP.one q (.cells (eW x).toArray 101 (0,0))) (aj (nS x) Q)))
  (λv=>aE λa'=>aE λc'=>aA (v=.slice a' (n+1) c') (aj (PL u7 a' (n+1) c' (l++[x])) Q)):=by
 obtain⟨i,z,hi,h1,h2,h3,h4⟩:=Al Wt;exact PL.app (K:=u7) _ _ acE hi h1 (by rw[h2,h3]) h3 (by rw[h4];decide) a n c l q x Q hb
theorem aal{S}{a}{l:List Int}{k}{x}(r:Rd S a (l.map cr))(hk:l[k]? =some x):
 aM prog (bO 3 (.pointer (a.map λy=>(y.add (k*1)).add 0))) S (.int .i64 x):=
 cU rV Dj Oz r (k:=k*1) (off:=0) (by simp[hk,cr])
theorem aam{A A' C C'}(h1:HP.aT A A')(h2:HP.aT C C'):HP.aT (aj A C) (aj A' C'):=
 (HP.aT.aj h1 C).trans ((HP.aT.of λ_ _ H=>ak H).trans ((HP.aT.aj h2 A').trans (.of λ_ _ H=>ak H)))
theorem Wu a n c l:HP.aT (PL Ce a n c l) (Ls tO a n l):=λR h d H=>by
 obtain⟨R1,h1,q1,q2,q3,q4,H1⟩:=bY.eP _ _ _ _ _ _ R h d (ai H.2);exact⟨R1,h1,q1,q2,q3,q4,H.1,H1,λ_ _=>trivial⟩
theorem RU a n c l:HP.aT (PL u7 a n c l) (Ls gM a n l):=λR h d H=>by
 obtain⟨R1,h1,q1,q2,q3,q4,H1⟩:=bY.eP _ _ _ _ _ _ R h d (ai H.2);exact⟨R1,h1,q1,q2,q3,q4,H.1,H1,λx hx=>hY x R1 h h1 ((nS x).mono q1 (PH.le.refl _) (B2 (List.mem_map.2 ⟨x,hx,rfl⟩) (ah H.2)))⟩
theorem nq:∀ {l:List (Nm×Nat)} {e:Nm×Nat},(l.map (·.1)).Nodup->e∈l->lk l e.1=some e.2
 |[],_,_,h=>by cases h
 |y::r,e,hn,h=>by
  rw[List.map_cons,List.nodup_cons]at hn;unfold lk;rcases List.mem_cons.1 h with rfl|h
  ·simp
  ·rw[aq (λq=>hn.1 (by rw[<-q];exact List.mem_map.2 ⟨e,h,rfl⟩))];exact nq hn.2 h
set_option maxHeartbeats 4000000 in
theorem Ew{B}(hB:B<=100000)(wf:ey B t.aS):az prog 72 #[pt b] (aU b t)
 (λv=>aE λa=>aE λc=>aA (v=.slice a t.aS.length c) (aj (qR a t.aS.length t.aS) (aU b t))):=by
 have own:az prog 72 #[pt b] (aU b t)
  (λv=>aE λa=>aE λc=>aE λes:List dh=>aA (es.map (·.nd)=t.aS/\v=.slice a t.aS.length c) (aj (PL u7 a t.aS.length c es) (aU b t))):=by
  refine ao (ρ:=[.n b,.p (aU b t)]) {fk:=[183,208],hv:=[(2,[(.b 17),(.a 24)])],aF:=ii,link:=ij,dN:=true,dv:=true,TK:=[(2,(.b 17),[4])],apa:=true,ck:=[183,208],jn:=[((27,17),some {ss:=[.n,.i,.i,.i,.a,.n,.n,.a,.n,.n,.p,.p],n:=29,tv:=[(27,none),(28,none),(29,none),(30,none),(31,none),(32,none),(33,none),(34,none),(35,none),(36,none),(37,none),(38,none),(39,none),(40,none),(41,none),(7,some (.ptr 17 0))],h:=[((.b 17),(.cells [18,19,20,(.s 21),(.s 24)] 101)),(21,28),(.b 0,1),(5,8),(3,4),(9,12),(24,27)],lk:=[]})]} [(.ptr 0 0)] yo 2 ?_;have Wp:=wf.RP;have hlen:t.aS.length=t.ns.length:=by unfold TS.aS;rw[List.length_map]
  refine⟨t.mb,fq,?_⟩;refine(V5 (some t.mb) (aU b t)).wk ?_;rintro v R h ⟨kx,rfl,H⟩;refine⟨.func (.func 200) #[] #[pt kx],mo kx (some t.mb),rfl,?_,H⟩;clear H;refine(JO wf kx).wk ?_;rintro v R h ⟨a5,c5,rfl,H⟩;have h5:t.ns.length≠0->a5.isSome=true:=λh=>bY.some (ai H) (by omega);refine⟨a5,t.ns.length,c5,_,rfl,?_,H⟩;clear H;have rd5:bX (kv a5 t.ns.length c5 (t.ns.map λx=>(x.p.num:Int))) a5 t.ns.length ((t.ns.map λx=>(x.p.num:Int)).map cr):=ow _ _ _ _ _ _
  refine⟨λa n c P i=>∃k:Nat,i=k/\k<=t.ns.length/\n=k/\∃es:List dh,es.map (·.nd)=t.aS.take k/\HP.aT P (PL u7 a n c es),λ_ _ _ _ i=>t.ns.length - i.toNat,
   ⟨0,rfl,Nat.zero_le _,rfl,[],by simp,.of λR h H=>⟨rfl,ae (aW H) (λ_ _=>bY.nil _ _ _ _) λ_ _=>trivial⟩⟩,?_⟩
  rintro a k c P _ ⟨_,rfl,hk,rfl,es,xM,hP⟩;refine⟨λhlt=>⟨by omega,λ_=>⟨h5 (by omega),λ_=>?_⟩⟩,λlH=>?_⟩
  ·have ki:k<t.ns.length:=by omega
   have kM:t.ns[k]∈t.ns:=List.getElem_mem ki;obtain⟨x,hx⟩:∃x,t.ns[k]=x:=⟨_,rfl⟩;rw[hx]at kM;have hki:t.ns[k]? =some x:=by rw[List.getElem?_eq_getElem ki,hx]
   have hxa:nodeAt t.aS x.p.num=some x.p:=fi wf.nd (by unfold TS.aS;exact List.mem_map.2 ⟨x,kM,rfl⟩);have iV:=mE (b:=b) (t:=t) x.p.num;obtain⟨y,i,hi,hyp,hyn,hyh,-,KV⟩:=oM hxa;have hnn:(x.p.num:Int)=y.p.num:=by rw[hyn]
   rw[hyh]at iV;have hyg:=wf.jY _ (wf.at' hxa).2.2;rw[<-hyp]at hyg;have DB:((t.ns.map λx=>(x.p.num:Int)))[k]? =some (x.p.num:Int):=by rw[List.getElem?_map,hki];rfl
   refine⟨x.p.num,aal rd5.rd DB,t.mb,fq,pt y.nb,iV,?_⟩;refine⟨λq num kind bo da dl dc ea el ec PE PD=>num=y.p.num/\kind=y.p.kind/\bo=y.p.bo/\dl=y.p.data.length/\el=0/\HP.aT PE (PL Ce ea 0 ec [])/\HP.aT PD (dS da y.p.data.length dc y.p.data),?_,?_⟩
   ·refine⟨y.nb,bK,y.p.kind,mF KV,y.nb,bK,y.p.bo,oJ KV,y.nb,bK,y.da,y.p.data.length,y.dc,sC KV,?_,λq=>?_⟩
    ·refine(iC _ _ _ y.dc _ (Gp KV) rfl (by have:=hyg.data;omega)).wk ?_;rintro v R h ⟨a',c',rfl,H⟩;refine⟨a',y.p.data.length,c',dS a' y.p.data.length c' y.p.data,rfl,⟨λq=>?_,λq=>?_⟩,H⟩
     ·exact⟨hnn,rfl,rfl,rfl,rfl,.of λR h H=>⟨rfl,ae (aW H) (λ_ _=>bY.nil _ _ _ _) λ_ _=>trivial⟩,.of λ_ _ h=>h⟩
     ·exact⟨hnn,rfl,rfl,rfl,rfl,.of λR h H=>⟨rfl,ae (aW H) (λ_ _=>bY.nil _ _ _ _) λ_ _=>trivial⟩,.of λ_ _ h=>h⟩
    ·refine(iC _ _ _ y.dc _ (Gp KV) rfl (by have:=hyg.data;omega)).wk ?_;rintro v R h ⟨a',c',rfl,H⟩;refine⟨a',y.p.data.length,c',dS a' y.p.data.length c' y.p.data,rfl,?_,H⟩;exact⟨hnn,rfl,rfl,rfl,rfl,.of λR h H=>⟨rfl,ae (aW H) (λ_ _=>bY.nil _ _ _ _) λ_ _=>trivial⟩,.of λ_ _ h=>h⟩
   rintro q num kind bo da dl dc ea el ec PE PD ⟨rfl,rfl,rfl,rfl,rfl,hPE,hPD⟩;refine⟨y.nb,bK,.map y.gK,pj KV,?_⟩;refine(Jy y.gK (aU b t)).wk ?_;rintro v R h ⟨ks,rfl,H⟩;refine⟨.func (.func 203) #[] #[pt ks],lz ks y.gK,rfl,?_,H⟩;clear H;refine(Cc KV hyg hB ks).wk ?_;rintro v R h ⟨a33,c33,rfl,H⟩;have h33:y.p.ay.length≠0->a33.isSome=true:=λh=>bY.some (ai H) (by omega);refine⟨a33,y.p.ay.length,c33,_,rfl,?_,H⟩;clear H;have anw:bX (sv a33 y.p.ay.length c33 (y.p.ay.map (·.1))) a33 y.p.ay.length ((y.p.ay.map (·.1)).map sE):=ow _ _ _ _ _ _;refine⟨λi a n c P=>∃j:Nat,i=j/\j<=y.p.ay.length/\n=j/\HP.aT P (PL Ce a j c (y.p.ay.take j)),λi _ _ _ _=>y.p.ay.length - i.toNat,⟨0,rfl,Nat.zero_le _,rfl,hPE⟩,?_⟩;rintro _ ea j ec PE2 ⟨_,rfl,hj,rfl,aeX⟩;refine⟨λLv=>⟨by omega,λ_=>⟨h33 (by omega),λ_=>?_⟩⟩,λaiM q=>?_⟩
   ·have L4:j<y.p.ay.length:=by omega
    have hem:y.p.ay[j]∈y.p.ay:=List.getElem_mem L4;obtain⟨e,hej⟩:∃e,y.p.ay[j]=e:=⟨_,rfl⟩;rw[hej]at hem;have hek:y.p.ay[j]? =some e:=by rw[List.getElem?_eq_getElem L4,hej]
    have Hc:y.p.kind=1:=by
     rcases hyg.kind with⟨h,_⟩|⟨_,h⟩
     ·exact h
     ·rw[h]at hem;cases hem
    have Dz:y.gK=some y.mb:=by unfold HN.gK;rw[aB Hc]
    have he:=pj (b:=b) KV;rw[Dz]at he;have hl:=aeM (b:=b) KV Hc e.1;rw[nq (nO hyg.sort) hem]at hl;refine⟨e.1,oI anw.rd (by rw[List.getElem?_map,Int.toNat_natCast,hek];rfl),y.nb,bK,.map (some y.mb),he,e.2,hl,λq=>?_⟩;refine RT ((aeW ea j ec (y.p.ay.take j) q e tt (by have:=hyg.qP;omega)).wk ?_) ((HP.aT.aj aeX _).trans (.of λR h H=>ae H (λ_ h=>h) λz hz=>aD (aD hz)|>λH=>au H));rintro v R h ⟨a',c',rfl,H⟩;refine⟨a',j+1,c',_,rfl,⟨eU _ (by omega) (by have:=hyg.qP;omega),λ_=>⟨⟨j+1,by omega,by omega,rfl,?_⟩,by dsimp only;omega⟩⟩,ai H⟩;rw[List.take_add_one,hek];exact .of λ_ _ h=>h
   ·obtain rfl:j=y.p.ay.length:=by omega
    rw[List.take_length]at aeX;have zW:t.ns.length<=1000000:=by have:=Wp;omega
    refine RT ((aak a k c es q ⟨y.p,da,dc,ea,ec⟩ tt (by omega)).wk ?_) (aam hP (aam (.of λ_ _ h=>h) ((aam (hPD.trans (bY.eP _ _ _ _ _ _)) (aeX.trans (Wu _ _ _ _))).trans (.of λR h H=>aD ⟨ai H,ah H⟩))));rintro v R h ⟨a',c',rfl,H⟩;refine⟨a',k+1,c',_,rfl,⟨eU _ (by omega) (by omega),λ_=>⟨⟨k+1,by omega,by omega,rfl,es++[⟨y.p,da,dc,ea,ec⟩],?_,.of λ_ _ h=>h⟩,by dsimp only;omega⟩⟩,ai H⟩;rw[List.map_append,xM,List.take_add_one];have:t.aS[k]? =some x.p:=by unfold TS.aS;rw[List.getElem?_map,hki];rfl
    rw[this,<-hyp];rfl
  ·obtain rfl:k=t.ns.length:=by omega
   rw[hlen];refine(aam (.of λ_ _ h=>h) hP).trans (.of λR h H=>⟨a,c,es,⟨by rw[xM,<-hlen,List.take_length],rfl⟩,ak H⟩)
 exact own.post λv=>λR h d ⟨a',c',es,⟨e1,e2⟩,H⟩=>by
  obtain⟨R1,h1,q1,q2,q3,q4,H1⟩:=(HP.aT.aj (RU _ _ _ _) (aU b t)) R h d H;exact⟨R1,h1,q1,q2,q3,q4,a',c',e2,ae H1 (λ_ h=>⟨es,e1,h⟩) λ_ h=>h⟩
end
section
open RX
def Wv(s d:TypeId)(u:Value):Sem Next:=do pure (.value (<-convert s d u))
theorem Cf{s d ty}{i:Nat}{u}:bZ (.convert s d (.tmp i)) ty [(i,u)]=Wv s d u:=by simp[bZ,execOp,lW,Wv]
theorem aiN l A:aR prog (Wv 9 37 (sE l)) A (λv=>aE λx=>aE λc=>aE λC:dI=>aA (v=.slice (some ⟨x,0,none⟩) l.length c/\l.length<=c/\C.toList.take l.length=l.map eX)
 (aj (HP.one x (.cells C 5 (C.size,C.size+1))) A)):=λw R h F s a=>by
 have hr:=run_bytes_of_string (P:=prog) w 9 37 5 ⟨l.toArray⟩ sx qB Io;have hz:(⟨l.toArray⟩:ByteArray).size=l.length:=by simp[ByteArray.size]
 rw[hz]at hr;have s0:Sat w.drew R h F:=s.drew _;obtain⟨s1,d1⟩:=s0.alloc (.cells (bytesRow ⟨l.toArray⟩ (grownCap w l.length 0 5)) 5 ((bytesRow ⟨l.toArray⟩ (grownCap w l.length 0 5)).size,(bytesRow ⟨l.toArray⟩ (grownCap w l.length 0 5)).size+1));have Q3:=grownCap_ge w l.length 0 5;have vO:Same w (w.drew.alloc (.cells (bytesRow ⟨l.toArray⟩ (grownCap w l.length 0 5)) 5 ((bytesRow ⟨l.toArray⟩ (grownCap w l.length 0 5)).size,(bytesRow ⟨l.toArray⟩ (grownCap w l.length 0 5)).size+1))):=Same.trans (b:=w.drew) ⟨rfl,rfl,rfl,Nat.le_refl _⟩ (Same.alloc w.drew _);refine⟨_,_,_,by unfold Wv sE;rw[Sem.run_bind,hr];rfl,rfl,vO,R,_,PH.le.refl _,s1,w.heap.size,_,bytesRow ⟨l.toArray⟩ (grownCap w l.length 0 5),⟨rfl,Q3,?_⟩,_,_,d1,PH.dC _ _,PH.cP d1,PH.cX _ _,a⟩;simp[bytesRow,eX]
theorem tF l A:aR prog (Wv 9 37 (sE l)) A (λv=>aE λx=>aE λc=>aA (v=.slice (some ⟨x,0,none⟩) l.length c/\l.length<=c) (aj (bE (some ⟨x,0,none⟩) l.length l) A)):=
 (aiN l A).post λv R h d ⟨x,c,C,⟨e,hc,ht⟩,H⟩=>by
   obtain⟨R1,h1,q1,q2,q3,q4,H1⟩:=(HP.aT.aj (HP.aT.eP _ _) A) R h d H;refine⟨R1,h1,q1,q2,q3,q4,x,c,⟨e,hc⟩,ae H1 (λy hy=>⟨by simp,λ_=>⟨x,0,C,_,_,rfl,hy,?_⟩⟩) λ_ h=>h⟩;rw[List.drop_zero,List.length_map];exact ht
def mH(x:Nm×Nat):ax:=eg x.1.length 4++x.1++[UInt8.ofNat x.2]
def hZ(k:Int):UInt8:=UInt8.ofNat (IntKind.u8.wrap k).toNat
theorem yA k:((hZ k).toNat:Int)=IntKind.u8.wrap k:=by
 have h1:0<=IntKind.u8.wrap k/\IntKind.u8.wrap k<256:=by
  simp only[IntKind.wrap,IntKind.bits,IntKind.signed,Bool.false_and,Bool.false_eq_true,if_false];omega
 unfold hZ;rw[UInt8.toNat_ofNat'];omega
def b7(k:Int):Nat:=(IntKind.u64.wrap k).toNat
theorem qS k:((b7 k:Nat):Int)=IntKind.u64.wrap k:=by
 have h1:0<=IntKind.u64.wrap k:=by
  simp only[IntKind.wrap,IntKind.bits,IntKind.signed,Bool.false_and,Bool.false_eq_true,if_false];omega
 unfold b7;omega
def fU(x:Nd):ax:=[hZ x.num]++[hZ x.kind]++eg (b7 x.bo) 2++(eg x.data.length 4++x.data)++(eg x.ay.length 4++x.ay.flatMap mH)
theorem JQ b l x(hx:x.2<256)(hb:l.length+x.1.length+200<140737488355328):
 az prog 187 #[pt b,.agg #[sE x.1,an x.2]] (dE b l) (λv=>aA (v=cE) (dE b (l++mH x))):=by
 refine ao (ρ:=[.n b,.p (dE b l),.s x.1,.i x.2]) {} [(.ptr 0 0),(.agg [(.str 2),3])] wo 4 ?_;intro y;rw[Cf];refine(tF x.1 tt).wk ?_;rintro v R h ⟨z,c,⟨rfl,hc⟩,H⟩;refine⟨some ⟨z,0,none⟩,_,c,bE (some ⟨z,0,none⟩) x.1.length x.1,rfl,?_,ai H⟩;refine(pQ b l _ _ c x.1 _ (bX.ro _ _ _ _) rfl (λ_=>rfl) (by omega)).wk ?_;rintro v R h ⟨rfl,H⟩;refine⟨_,_,rfl,?_,H⟩;rw[show IntKind.u8.wrap (x.2:Int)=(((UInt8.ofNat x.2).toNat:Nat):Int) by rw[acd,UInt8.toNat_ofNat']];refine(ny b _ (UInt8.ofNat x.2) (by simp[bF];omega)).wk ?_;rintro v R h ⟨rfl,H⟩;refine⟨_,rfl,.of λR h H=>⟨trivial,?_⟩,H⟩;rw[show l++mH x=l++eg x.1.length 4++x.1++[UInt8.ofNat x.2] by simp[mH]];exact H
theorem aiO:xC prog 187:=⟨_,Tryz.func187,by kernel_rfl,by kernel_rfl⟩
theorem aiP:xC prog 116:=⟨_,Tryz.func116,by kernel_rfl,by kernel_rfl⟩
theorem aiQ{t ty}{i:Nat}{f}{jy:dI}{A}{ps rs}{vd}(ht:prog.underlying t=some (.func ps rs vd))(hg:prog.eqGuardType prog.depth t=false):aM prog (bZ (.binOp .eql t (.tmp i) (.const .nilFunc) t) ty [(i,.func (.func f) #[] jy)]) A (.bool false):=λw R h F s _=>by
 have e0:∀n,(Op.equalIn (n+1) t (.func (.func f) #[] jy) .nilFunc).run prog w=.ok false w:=λn=>by
  simp only[Op.equalIn,Sem.run_bind,RX.run_underlying ht,Result.andThen_ok,Sem.run_pure]
 have e:(Op.equal t (.func (.func f) #[] jy) .nilFunc).run prog w=.ok false w:=e0 9999;have:=(iX (P:=prog) (w:=w) (.inr (.inr (.inr (.inr ⟨_,_,_,rfl⟩)))) e).1;simp only[bZ,execOp,lW,List.find?_cons,beq_self_eq_true,Option.map_some,Option.getD_some];simp[eqGuard,hg,program,Sem.run_bind,this]
theorem Ww:gZ prog 104=true:=by kernel_rfl
theorem aeY:iA prog 104=2:=by kernel_rfl
theorem acG:gZ prog 101=true:=by kernel_rfl
theorem aiR:iA prog 101=5:=by kernel_rfl
theorem Ls.isSome{α:Type}{K}{a}{n}{l:List α}{R h}(H:(Ls K a n l).p R h)(hn:n≠0):a.isSome=true:=bN.some H.2.1 (by omega)
def Wx(es:List (Nm×Nat)):ax:=eg es.length 4++es.flatMap mH
theorem Cg x:(mH x).length=x.1.length+5:=by simp[mH,bF];omega
theorem qg{α β:Type}(f:α->List β)(l:List α) j h:(l.take (j+1)).flatMap f=(l.take j).flatMap f++f l[j]:=by
 rw[List.take_succ_eq_append_getElem h,List.flatMap_append];simp
theorem qT{α β:Type}(f:α->List β)(l:List α) j:((l.take j).flatMap f).length<=(l.flatMap f).length:=by
 conv=>rhs;rw[<-List.take_append_drop j l,List.flatMap_append,List.length_append]
 omega
theorem DD b l(a:aG) c es(hx:∀x∈es,x.2<256)(hb:l.length+(es.flatMap mH).length+1000<140737488355328)(hn:es.length<=1000000000):
 az prog 186 #[pt b,.slice a es.length c,.func (.func 187) #[] #[]] (aj (dE b l) (Ls tO a es.length es))
  (λv=>aA (v=cE) (aj (dE b (l++Wx es)) (Ls tO a es.length es))):=by
 refine az.cM (φ:=es.length≠0->a.isSome=true) (λR h H hn=>Ls.isSome (ah H) hn) λha=>?_
 refine(cC (ρ:=[.n b,.p (dE b l),.a a,.n es.length,.n c,.p (Ls tO a es.length es),.v (.func (.func 187) #[] #[]),.p tt]) mixed Tryz.func186 zO ?_).aK
  (λR h H=>au (aD H)) λ_ _ _ h=>h
 unfold wq;refine Iz ?_;have hw:IntKind.u64.wrap (es.length:Int)=es.length:=eZ ⟨by simp[IntKind.min,IntKind.signed],by simp[IntKind.max,IntKind.signed,IntKind.bits];omega⟩;rw[hw];refine(fB b l es.length 4 (by omega) (by omega)).wk ?_;rintro v R h ⟨rfl,H⟩;refine⟨_,rfl,⟨false,aiQ Tryz.underlying261 (by kernel_rfl),λh=>(by cases h),λ_=>?_⟩,H⟩;refine⟨λk p q=>∃j:Nat,k=j/\j<=es.length/\HP.aT p (dE b (l++eg es.length 4++(es.take j).flatMap mH))/\q=tt,λk _ _=>es.length - k.toNat,⟨0,rfl,Nat.zero_le _,by simpa using HP.aT.refl _,rfl⟩,?_⟩;rintro k p q ⟨j,rfl,hj,hp,rfl⟩;refine⟨λhlt=>⟨by omega,λ_=>⟨ha (by omega),λ_=>?_⟩⟩,λlH=>?_⟩
 ·have gP:j<es.length:=by omega
  refine⟨es[j].1,(es[j].2:Int),Ls.load (K:=tO) Tryz.underlying104 Ww aeY (List.getElem?_eq_getElem gP),λy=>?_⟩;have hlen:=qT mH es (j+1);rw[qg mH es j gP,List.length_append,Cg]at hlen;refine .inl ⟨_,#[],rfl,aiO,?_⟩;refine(JQ b _ es[j] (hx _ (List.getElem_mem gP)) (by simp only[List.length_append,bF];omega)).bv ((HP.aT.of λR h H=>ak H).trans ((HP.aT.aj hp tt))) λv=>.of λR h H=>?_;obtain⟨rfl,H1⟩:=ai H;refine⟨tt,_,rfl,⟨bh _ (by omega) (by omega),λ_=>⟨⟨j+1,by omega,by omega,?_,rfl⟩,by dsimp only;omega⟩⟩,aW H1⟩;rw[qg mH es j gP,List.append_assoc _ ((es.take j).flatMap mH)];exact HP.aT.refl _
 ·obtain rfl:j=es.length:=by omega
  rw[List.take_length]at hp;refine(HP.aT.aj hp _).trans (.of λR h H=>⟨trivial,?_⟩);rw[List.append_assoc]at H;exact ae H (λ_ h=>h) λ_ h=>ai h
theorem ML b l x(hx:∀e∈x.nd.ay,e.2<256)(hb:l.length+(fU x.nd).length+2000<140737488355328)(hn:x.nd.ay.length<=1000000000):
 az prog 116 #[pt b,.agg (eW x).toArray] (aj (dE b l) (nS x)) (λv=>aA (v=cE) (dE b (l++fU x.nd))):=by
 refine az.cM (φ:=x.nd.data.length≠0->x.da.isSome=true) (λR h H hn=>bN.some (ah H).1 (by omega)) λha=>?_
 refine(cC (ρ:=[.n b,.p (dE b l),.i x.nd.num,.i x.nd.kind,.i x.nd.bo,.a x.da,.n x.nd.data.length,.n x.dc,.p (bE x.da x.nd.data.length x.nd.data),.a x.ea,.n x.nd.ay.length,.n x.ec,.p (Ls tO x.ea x.nd.ay.length x.nd.ay)]) mixed Tryz.func116 FT ?_).aK
  (λR h H=>ae H (λ_ h=>h) λy hy=>⟨PH.cV,y,PH.eL _,PH.dB _,PH.le.refl _,hy.1,hy.2⟩) λ_ _ _ h=>h
 unfold Ee;refine Iz ?_;have hlen:(fU x.nd).length=2+2+(4+x.nd.data.length)+(4+(x.nd.ay.flatMap mH).length):=by simp[fU,bF];omega
 intro y;rw[<-yA x.nd.num,<-yA x.nd.kind,<-qS x.nd.bo];refine(ny b l (hZ x.nd.num) (by omega)).wk ?_;rintro v R h ⟨rfl,H⟩;refine⟨_,rfl,?_,H⟩;refine(ny b _ (hZ x.nd.kind) (by simp;omega)).wk ?_;rintro v R h ⟨rfl,H⟩;refine⟨_,rfl,?_,H⟩;refine(fB b _ (b7 x.nd.bo) 2 (by omega) (by simp;omega)).wk ?_;rintro v R h ⟨rfl,H⟩;refine⟨_,rfl,?_,H⟩;refine(pQ b _ x.da _ x.dc x.nd.data _ (bX.ro _ _ _ _) rfl ha (by simp[bF];omega)).wk ?_;rintro v R h ⟨rfl,H⟩;refine⟨_,_,rfl,?_,H⟩;refine(DD b _ x.ea x.ec x.nd.ay hx (by simp only[List.length_append,bF,List.length_singleton];omega) hn).wk ?_;rintro v R h ⟨rfl,H⟩;refine⟨_,_,rfl,.of λR h H=>⟨trivial,?_⟩,H⟩;have e:l++fU x.nd=l++[hZ x.nd.num]++[hZ x.nd.kind]++eg (b7 x.nd.bo) 2++eg x.nd.data.length 4++x.nd.data++Wx x.nd.ay:=by simp[fU,Wx]
 rw[e];exact ai H
def mI(T1:List Nd):ax:=eg T1.length 4++T1.flatMap fU
theorem JR b l(a:aG) c es(hx:∀x∈es,(∀e∈x.nd.ay,e.2<256)/\x.nd.ay.length<=1000000000)(hb:l.length+((es.map (·.nd)).flatMap fU).length+3000<140737488355328)(hn:es.length<=1000000000):
 az prog 115 #[pt b,.slice a es.length c,.func (.func 116) #[] #[]] (aj (dE b l) (Ls gM a es.length es))
  (λv=>aA (v=cE) (aj (dE b (l++mI (es.map (·.nd)))) (Ls gM a es.length es))):=by
 refine az.cM (φ:=es.length≠0->a.isSome=true) (λR h H hn=>Ls.isSome (ah H) hn) λha=>?_
 refine(cC (ρ:=[.n b,.p (dE b l),.a a,.n es.length,.n c,.p (Ls gM a es.length es),.v (.func (.func 116) #[] #[]),.p tt]) mixed Tryz.func115 Ds ?_).aK
  (λR h H=>au (aD H)) λ_ _ _ h=>h
 unfold BD;refine Iz ?_;have hw:IntKind.u64.wrap (es.length:Int)=es.length:=eZ ⟨by simp[IntKind.min,IntKind.signed],by simp[IntKind.max,IntKind.signed,IntKind.bits];omega⟩;rw[hw];refine(fB b l es.length 4 (by omega) (by omega)).wk ?_;rintro v R h ⟨rfl,H⟩;refine⟨_,rfl,⟨false,aiQ Tryz.underlying200 (by kernel_rfl),λh=>(by cases h),λ_=>?_⟩,H⟩;refine⟨λk p q=>∃j:Nat,k=j/\j<=es.length/\HP.aT p (dE b (l++eg es.length 4++((es.map (·.nd)).take j).flatMap fU))/\q=tt,λk _ _=>es.length - k.toNat,⟨0,rfl,Nat.zero_le _,by simpa using HP.aT.refl _,rfl⟩,?_⟩;rintro k p q ⟨j,rfl,hj,hp,rfl⟩;refine⟨λhlt=>⟨by omega,λ_=>⟨ha (by omega),λ_=>?_⟩⟩,λlH=>?_⟩
 ·have gP:j<es.length:=by omega
  have MM:j<(es.map (·.nd)).length:=by simpa using gP
  have hg:(es.map (·.nd))[j]=es[j].nd:=by simp
  refine⟨_,_,_,_,_,_,_,_,_,Ls.load (K:=gM) Tryz.underlying101 acG aiR (List.getElem?_eq_getElem gP),λy=>?_⟩;have hlen:=qT fU (es.map (·.nd)) (j+1);rw[qg fU _ j MM,List.length_append,hg]at hlen;have hm:=hx _ (List.getElem_mem gP);refine .inl ⟨_,#[],rfl,aiP,?_⟩;refine(ML b (l++eg es.length 4++((es.map (·.nd)).take j).flatMap fU) es[j] hm.1 (by simp only[List.length_append,bF];omega) hm.2).bv (K:=Ls gM a es.length es) ?_ λv=>.of λR h H=>?_
  ·refine(HP.aT.of λR h H=>ah H).trans ((HP.aT.aj hp _).trans (.of λR h H=>?_));refine aC (ae H (λ_ h=>h) λz hz=>⟨PH.cV,z,PH.eL _,PH.dB _,PH.le.refl _,?_,hz⟩);exact gM.iF _ _ _ _ (hz.2.2 _ (List.getElem_mem gP))
  ·obtain⟨rfl,_⟩:=ai H;refine⟨tt,_,rfl,⟨bh _ (by omega) (by omega),λ_=>⟨⟨j+1,by omega,by omega,?_,rfl⟩,by dsimp only;omega⟩⟩,aW (ae H (λ_ h=>h.2) λ_ h=>h)⟩;rw[qg fU _ j MM,hg,List.append_assoc _ (((es.map (·.nd)).take j).flatMap fU)];exact HP.aT.refl _
 ·obtain rfl:j=es.length:=by omega
  have e0:(es.map (·.nd)).take es.length=es.map (·.nd):=List.take_of_length_le (by simp);rw[e0]at hp;refine(HP.aT.aj hp _).trans (.of λR h H=>⟨trivial,?_⟩);rw[List.append_assoc]at H;have e:eg es.length 4++(es.map (·.nd)).flatMap fU=mI (es.map (·.nd)):=by simp[mI]
  rw[e]at H;exact ae H (λ_ h=>h) λ_ h=>ai h
theorem Ph b l v(hb:l.length+8<140737488355328):
 az prog 55 #[pt b,an v] (dE b l) (λr=>aA (r=cE) (dE b (l++eg (b7 v) 8))):=by
 refine ao (ρ:=[.n b,.p (dE b l),.i v]) {} [(.ptr 0 0),2] wo 3 ?_;rw[<-qS v];refine(fB b l (b7 v) 8 (by omega) hb).wk ?_;rintro v R h ⟨rfl,H⟩;exact⟨_,rfl,.of λR h H=>⟨trivial,H⟩,H⟩
def jw(tQ:Int)(T1:List Nd):ax:=ml (eg (b7 tQ) 8++mI T1)
theorem km{α β:Type}(f:α->List β) k:∀l:List α,(∀x∈l,(f x).length<=k)->(l.flatMap f).length<=l.length*k
 |[],_=>by simp
 |x::r,h=>by
  have:=km f k r λy hy=>h y (List.mem_cons_of_mem _ hy);have:=h x List.mem_cons_self;rw[List.flatMap_cons,List.length_append,List.length_cons,Nat.succ_mul];omega
theorem Wy{B}{n}(g:iu B n):(fU n).length<=600+B*100:=by
 have h1:(n.ay.flatMap mH).length<=n.ay.length*100:=km mH 100 n.ay λx hx=>by
  have:=(g.name x hx).1;unfold dm at this;simp at this;rw[Cg];omega
 have h2:=g.data;have h3:n.ay.length*100<=B*100:=Nat.mul_le_mul_right _ g.qP;have hlen:(fU n).length=2+2+(4+n.data.length)+(4+(n.ay.flatMap mH).length):=by simp[fU,bF];omega
 omega
theorem Pj:∀(l:List Nat) (lo n:Nat),lo<=n->l.Pairwise (· < ·)->(∀x∈l,lo<=x/\x<n)->l.length+lo<=n
 |[],lo,n,h,_,_=>by simpa using h
 |x::r,lo,n,h,p,q=>by
  rw[List.pairwise_cons]at p;have h1:=q x List.mem_cons_self;have:=Pj r (x+1) n (by omega) p.2 λy hy=>⟨p.1 y hy,(q y (List.mem_cons_of_mem _ hy)).2⟩;rw[List.length_cons];omega
theorem tG{B}{T1}(wf:ey B T1):T1.length<=64:=by
 have:=Pj (T1.map (·.num)) 0 64 (by omega) wf.sorted λx hx=>by
  obtain⟨n,hn,rfl⟩:=List.mem_map.1 hx;exact⟨Nat.zero_le _,(wf.jY n hn).num⟩
 simpa using this
theorem Wz{B}{T1}(wf:ey B T1){x}(hx:x∈T1){e}(he:e∈x.ay):e.2<64:=by
 have h:=wf.u6 x hx e he;obtain⟨n,hn⟩:=Option.isSome_iff_exists.1 h;unfold nodeAt at hn;have h1:=List.mem_of_find?_eq_some hn;have h2:=List.find?_some hn;have:=(wf.jY n h1).num;simp at h2;omega
theorem RV{b}{t}{B}(hB:B<=100000)(wf:ey B t.aS) tQ:
 az prog 68 #[an tQ,pt b] (aU b t)
  (λv=>aE λa=>aE λc=>aA (v=.slice a (jw tQ t.aS).length c) (aj (aU b t) (dS a (jw tQ t.aS).length c (jw tQ t.aS)))):=by
 refine ao (ρ:=[.i tQ,.n b,.p (aU b t)]) {} [0,(.ptr 1 0)] [(.b 1,2)] 3 ?_;have h64:=tG wf;have BH:(t.aS.flatMap fU).length<=64*(600+B*100):=Nat.le_trans (km fU _ t.aS λx hx=>Wy (wf.jY x hx)) (Nat.mul_le_mul_right _ h64);intro x;refine(Ph x [] tQ (by simp)).aK (λR h H=>⟨none,0,ak (ae (aW H) (λy _=>bY.nil _ _ R y) λ_ h=>h)⟩) ?_;rintro v R h ⟨rfl,xa,xc,H⟩;refine⟨xa,_,xc,dS xa _ xc _,rfl,?_,H⟩;refine(Ew hB wf).wk ?_;rintro v R h ⟨a,c,rfl,H⟩;refine⟨a,_,c,_,_,rfl,?_,H⟩
 have hp:(az prog 115 #[pt x,.slice a t.aS.length c,.func (.func 116) #[] #[]] (aj (dE x ([]++eg (b7 tQ) 8)) (qR a t.aS.length t.aS))
  (λv=>aA (v=cE) (aj (dE x ([]++eg (b7 tQ) 8++mI t.aS)) (qR a t.aS.length t.aS)))):=by
  refine(az.ex (A:=λes:List dh=>aA (es.map (·.nd)=t.aS) (aj (dE x ([]++eg (b7 tQ) 8)) (Ls gM a t.aS.length es))) λes=>az.pure λhe=>?_).aK
   (λR h ⟨h1,h2,d,l1,l2,HW,⟨es,he,Hs⟩⟩=>⟨es,he,h1,h2,d,l1,l2,HW,Hs⟩) λ_ _ _ h=>h
  have hl:t.aS.length=es.length:=by rw[<-he];simp
  have:=JR x ([]++eg (b7 tQ) 8) a c es (λy hy=>by
   have hm:y.nd∈t.aS:=by rw[<-he];exact List.mem_map.2 ⟨y,hy,rfl⟩
   exact⟨λe hee=>by have:=Wz wf hm hee;omega,by have:=(wf.jY _ hm).qP;omega⟩) (by rw[he];simp only[List.nil_append,bF];omega) (by omega)
  rw[<-hl,he]at this;exact this.wk λv R h ⟨e,H⟩=>⟨e,ae H (λ_ h=>h) λ_ h=>⟨es,he,h⟩⟩
 have amR:([]++eg (b7 tQ) 8++mI t.aS).length=8+(4+(t.aS.flatMap fU).length):=by simp only[List.nil_append,List.length_append,bF,mI]
 have e8:[]++eg (b7 tQ) 8++mI t.aS=eg (b7 tQ) 8++mI t.aS:=by rw[List.nil_append]
 refine hp.aK (λR h H=>ae (aC H) (λ_ h=>⟨xa,xc,h⟩) λ_ h=>h) ?_;rintro v R h ⟨rfl,h1,h2,d,q1,q2,⟨ya,yc,HW⟩,HN⟩;refine⟨ya,_,yc,dS ya _ yc _,_,rfl,?_,au ⟨h1,h2,d,q1,q2,HW,HN⟩⟩;refine(kF x ([]++eg (b7 tQ) 8++mI t.aS) (by omega)).aK (λR h H=>⟨ya,yc,H⟩) ?_;rintro v R h ⟨a',c',rfl,h1,h2,d,q1,q2,⟨za,zc,HW⟩,HO⟩;have Fw:a'.isSome=true:=bY.some HO (by omega);refine⟨a',_,c',dS a' _ c' _,za,_,zc,dS za _ zc _,rfl,?_,h2,h1,d.symm,q2,q1,HO,HW⟩;refine(FX a' _ c' _ _ (ow _ _ _ _ _ _) rfl (λ_=>Fw) (by omega)).wk ?_;rintro v R h ⟨b',d',rfl,H⟩;refine⟨b',_,d',dS b' _ d' _,_,rfl,.of λR h H=>⟨b',d',?_,?_⟩,ak H⟩
 ·rw[e8];rfl
 ·rw[e8]at H;exact H
end
namespace RX
-- cH/rpc.ap2:ρ:=[.i anx,.i asa,.i aiT,.c akW,.i anz,.i akX,.i asb,.i acH,.a aan,.n aao,.n aap,.p aaq,.i WA,.i aar,.a aiU,.n aiV,.n aiW,.p aiX,.i ap3,.i anA,.i ap4,.i anB,.i e]
abbrev JS:Hp:=[((.b 0),(.cells [(.ptr 1 0)] 72)),(.b 1,2),((.b 3),(.cells [4,5,6,(.bool 7),8,9,10,11,(.s 12),16,17,(.s 18),22,23,24,25] 64)),(12,15),(18,21),((.b 26),(.cells [(.ptr 27 0)] 152)),((.b 27),(.cells [28,29,30,(.bool 31),32,33,34,35,(.s 36),40,41,(.s 42),46,47,48,49] 64)),(36,39),(42,45)]
abbrev aiY:List A:=[4,5,6,(.bool 7),8,9,10,11,(.s 12),16,17,(.s 18),22,23,24,25]
abbrev acI:List A:=[2,3,4,(.bool 5),6,7,8,9,(.s 10),14,15,(.s 16),20,21,22,23]
abbrev JT:List W:=[(.ptr 0 0),(.ptr 3 0),(.ptr 26 0)]
abbrev acJ:Hp:=[((.b 0),(.cells [(.ptr 1 0)] 72)),(.b 1,2),((.b 3),(.cells aiY 64)),(12,15),(18,21)]
end RX
section
open RX
def Ch(m:MR)(e:Int):MR:=⟨m.to,m.fr,m.num,true,m.kind,m.ep,m.at',0,none,0,0,0,0,none,0,0,e,0,0,0⟩
theorem JU m e Dm Vm:az prog 73 #[.agg m.aJ,an e] (aj Dm Vm) (λv=>aA (v=.agg (Ch m e).aJ) (aj Dm Vm)):=by
 refine be (ρ:=[.i m.fr,.i m.to,.i m.num,.c m.bV,.i m.kind,.i m.ep,.i m.at',.i m.what,.a m.ca,.n m.cn,.n m.cc,.p Dm,.i m.br,.i m.bw,.a m.va,.n m.vn,.n m.vc,.p Vm,.i m.err,.i m.tail,.i m.low,.i m.back,.i e]) {aF:=[77,76,136,73]} [(.agg [0,1,2,(.bool 3),4,5,6,7,(.s 8),12,13,(.s 14),18,19,20,21]),22] [(8,11),(14,17)] 23 ?_;exact λx y=>.of λR h H=>⟨rfl,H⟩
theorem eN{ρ:cd}{i j:Nat}{t ty}{u v}{k}(h:i≠j):fp ρ (.insert t (.tmp i) (.const k) (.tmp j)) ty [(i,u),(j,v)]=kK t (u.den ρ) k (v.den ρ):=by
 have h':(i==j)=false:=by simpa using h
 simp[fp,execOp,ib,h',kK]
theorem acK:prog.underlying 154=some (.map 3 50):=by kernel_rfl
def KW(f:FuncId)(bu bm br:Nat):Value:=.func (.func f) #[] #[pt bu,pt bm,pt br]
def fv2(f:FuncId)(bu bm:Nat):Value:=.func (.func f) #[] #[pt bu,pt bm]
def gy(bu bm br:Nat):AL Int:=[(1,KW 128 bu bm br,0),(2,KW 130 bu bm br,1),(3,fv2 132 bu bm,2),(4,KW 134 bu bm br,3),(5,KW 137 bu bm br,4),(6,KW 138 bu bm br,5),(7,fv2 140 bu bm,6)]
abbrev u9(bu ub:Nat):HP:=HP.one bu (.cells #[pt ub] 72)
abbrev kS(br rb:Nat):HP:=HP.one br (.cells #[pt rb] 152)
theorem vb{mp}{l}{c} k v K:aR prog (kK 154 (.map (some mp)) (an k) v) (aj (HP.one mp (aX iE l c)) K) (λx=>aA (x=cE) (aj (HP.one mp (aX iE (iq k v c l) (mY k l c))) K)):=
 ((o6 (r:=mp) (l:=l) (c:=c) iK acK k v).frame K).wk (λx R h ⟨h1,h2,d,l1,l2,⟨e,H⟩,HK⟩=>⟨e,h1,h2,d,l1,l2,H,HK⟩)
theorem WB ub U m Dm Vm(rb:Nat)(Rc:HP):
 az prog 75 #[pt ub,.agg m.aJ,pt rb] (aj U (aj Dm (aj Vm Rc)))
 (λv=>aE λmp=>aE λbu=>aE λbm=>aE λbr=>aA (v=.map (some mp)) (aj (HP.one mp (aX iE (gy bu bm br) 7)) (aj (u9 bu ub) (aj U (aj (dO bm m) (aj Dm (aj Vm (aj (kS br rb) Rc)))))))):=by
 refine be (ρ:=[.n ub,.p U,.i m.fr,.i m.to,.i m.num,.c m.bV,.i m.kind,.i m.ep,.i m.at',.i m.what,.a m.ca,.n m.cn,.n m.cc,.p Dm,.i m.br,.i m.bw,.a m.va,.n m.vn,.n m.vc,.p Vm,.i m.err,.i m.tail,.i m.low,.i m.back,.n rb,.p Rc]) {aF:=[77,76,136,73]} [(.ptr 0 0),(.agg acI),(.ptr 24 0)] [(.b 0,1),(10,13),(16,19),(.b 24,25)] 26 ?_;intro bu bm br mp
 let K:HP:=aj (u9 bu ub) (aj U (aj (dO bm m) (aj Dm (aj Vm (aj (kS br rb) Rc)))))
 rw[eN (by decide)];refine uH ?_;refine(vb (mp:=mp) (l:=[]) (c:=0) 1 _ K).wk ?_;rintro v R h ⟨rfl,H⟩;refine⟨_,rfl,?_,H⟩;clear H;rw[eN (by decide)];refine uH ?_;refine(vb 2 _ K).wk ?_;rintro v R h ⟨rfl,H⟩;refine⟨_,rfl,?_,H⟩;clear H;rw[eN (by decide)];refine uH ?_;refine(vb 3 _ K).wk ?_;rintro v R h ⟨rfl,H⟩;refine⟨_,rfl,?_,H⟩;clear H;rw[eN (by decide)];refine uH ?_;refine(vb 4 _ K).wk ?_;rintro v R h ⟨rfl,H⟩;refine⟨_,rfl,?_,H⟩;clear H;rw[eN (by decide)];refine uH ?_;refine(vb 5 _ K).wk ?_;rintro v R h ⟨rfl,H⟩;refine⟨_,rfl,?_,H⟩;clear H;rw[eN (by decide)];refine uH ?_;refine(vb 6 _ K).wk ?_;rintro v R h ⟨rfl,H⟩;refine⟨_,rfl,?_,H⟩;clear H;rw[eN (by decide)];refine uH ?_;refine(vb 7 _ K).wk ?_;rintro v R h ⟨rfl,H⟩;refine⟨_,rfl,.of λR h H=>⟨mp,bu,bm,br,rfl,?_⟩,H⟩;exact H
def cF(room:Int)(s:gj)(ps:List Pg)(m r:MS):Int×MS×gj×List Pg:=
 if m.kind=1 then((dt room s ps m.ep m.at' m.cell).2.1,{r with cell:=(dt room s ps m.ep m.at' m.cell).1},(dt room s ps m.ep m.at' m.cell).2.2)
 else if m.kind=2 then((eS s m.ep m.at').2,{r with cell:=(eS s m.ep m.at').1},s,ps)
 else if m.kind=3 then((ly room s ps m.ep m.at').1,r,(ly room s ps m.ep m.at').2)
 else if m.kind=4 then
  if s.aI=m.ep then(0,{r with tail:=max s.top s.low},s,ps)
  else if(gu room s ps m.ep).1=0 then(0,{r with tail:=max (gu room s ps m.ep).2.1.top (gu room s ps m.ep).2.1.low},(gu room s ps m.ep).2)
  else((gu room s ps m.ep).1,r,(gu room s ps m.ep).2)
 else if m.kind=5 then if s.aI=m.ep then(0,{r with tail:=max s.top s.low},s,ps)else(8,r,s,ps)
 else if m.kind=6 then((bR room s ps m.at' m.br m.bw).2.2.2.1,{r with br:=(bR room s ps m.at' m.br m.bw).1,bw:=(bR room s ps m.at' m.br m.bw).2.1,val:=(bR room s ps m.at' m.br m.bw).2.2.1},(bR room s ps m.at' m.br m.bw).2.2.2.2)
 else((fM room s ps m.at' m.br m.bw m.val).1,r,(fM room s ps m.at' m.br m.bw m.val).2)
section
variable (ub bd bu bm br rb:Nat)(room:Int)(s:gj)(ps:List Pg)(m r:MS)(ca:aG)(cc:Nat)(va:aG)(vc:Nat)(kT:aG)(qU:Nat)(kU:aG)(qV:Nat)
abbrev JV:HP:=aj (u9 bu ub) (aj (UD ub bd room s ps) (aj (dO bm (m.ee ca cc va vc)) (aj (m.cW ca) (aj (m.cI va) (aj (kS br rb) (aj (dO rb (r.ee kT qU kU qV)) (aj (r.cW kT) (r.cI kU))))))))
abbrev Ci(x:Int×MS×gj×List Pg)(v:Value):HP:=aE λkT=>aE λqU=>aE λkU=>aE λqV=>aA (v=an x.1) (JV ub bd bu bm br rb room x.2.2.1 x.2.2.2 m x.2.1 ca cc va vc kT qU kU qV)
abbrev Ey:HP:=aj (u9 bu ub) (aj (UD ub bd room s ps) (aj (dO bm (m.ee ca cc va vc)) (aj (m.cW ca) (m.cI va))))
theorem WC(hk:m.kind=1):az prog 128 #[pt bu,pt bm,pt br] (JV ub bd bu bm br rb room s ps m r ca cc va vc kT qU kU qV)
 (Ci ub bd bu bm br rb room m ca cc va vc (cF room s ps m r)):=by
 have e:cF room s ps m r=((dt room s ps m.ep m.at' m.cell).2.1,{r with cell:=(dt room s ps m.ep m.at' m.cell).1},(dt room s ps m.ep m.at' m.cell).2.2):=aB hk;rw[e];refine az.cM (φ:=m.cell.data.length≠0->ca.isSome=true) (λR h H hn=>bN.some (ai (ah (ah (ah H)))) (by omega)) λhca=>?_;refine be (ρ:=.n bu:: .n ub:: .p (UD ub bd room s ps):: .n bm:: .i m.fr:: .i m.to:: .i m.num:: .c m.bV:: .i m.kind:: .i m.ep:: .i m.at':: .i m.cell.what:: .a ca:: .n m.cell.data.length:: .n cc:: .p (m.cW ca):: .i m.br:: .i m.bw:: .a va::[.n m.val.length,.n vc,.p (m.cI va),.i m.err,.i m.tail,.i m.low,.i m.back,.n br,.n rb,.i r.fr,.i r.to,.i r.num,.c r.bV,.i r.kind,.i r.ep,.i r.at',.i r.cell.what,.a kT,.n r.cell.data.length,.n qU,.p (r.cW kT),.i r.br,.i r.bw,.a kU,.n r.val.length,.n qV,.p (r.cI kU),.i r.err,.i r.tail,.i r.low,.i r.back]) {aF:=[77,76,136,73]} JT JS 50 ?_;refine(QW ub bd room s ps m.ep m.at' m.cell.what ca m.cell.data.length cc m.cell.data (m.cW ca) (bX.ro _ _ _ _) rfl hca).wk ?_;rintro v R h ⟨a',c',rfl,H⟩;refine⟨_,a',_,c',bE a' (dt room s ps m.ep m.at' m.cell).1.data.length (dt room s ps m.ep m.at' m.cell).1.data,_,_,m.cW ca,rfl,.of λR h H=>⟨a',c',kU,qV,rfl,?_⟩,H⟩;exact ae H (λ_ h=>h) λy1 H=>ae H (λ_ h=>h) λy2 H=>ae H (λ_ h=>h) λy3 H=>ae H (λ_ h=>h) λy4 H=>ae H (λ_ h=>h) λy5 H=>ae H (λ_ h=>h) λy6 H=>ae H (λ_ h=>h) λy7 H=>ae H (λ_ h=>h) λy8 H=>ai H
theorem WD(hk:m.kind=2):az prog 130 #[pt bu,pt bm,pt br] (JV ub bd bu bm br rb room s ps m r ca cc va vc kT qU kU qV)
 (Ci ub bd bu bm br rb room m ca cc va vc (cF room s ps m r)):=by
 have e:cF room s ps m r=((eS s m.ep m.at').2,{r with cell:=(eS s m.ep m.at').1},s,ps):=by unfold cF;rw[aq (by omega),aB hk]
 rw[e];refine be (ρ:=.n bu:: .n ub:: .p (UD ub bd room s ps):: .n bm:: .i m.fr:: .i m.to:: .i m.num:: .c m.bV:: .i m.kind:: .i m.ep:: .i m.at':: .i m.cell.what:: .a ca:: .n m.cell.data.length:: .n cc:: .p (m.cW ca):: .i m.br:: .i m.bw:: .a va::[.n m.val.length,.n vc,.p (m.cI va),.i m.err,.i m.tail,.i m.low,.i m.back,.n br,.n rb,.i r.fr,.i r.to,.i r.num,.c r.bV,.i r.kind,.i r.ep,.i r.at',.i r.cell.what,.a kT,.n r.cell.data.length,.n qU,.p (r.cW kT),.i r.br,.i r.bw,.a kU,.n r.val.length,.n qV,.p (r.cI kU),.i r.err,.i r.tail,.i r.low,.i r.back]) {aF:=[77,76,136,73]} JT JS 50 ?_;refine(U7 ub bd _ s m.ep m.at').wk ?_;rintro v R h ⟨a',c',rfl,H⟩;refine⟨_,a',_,c',bE a' (eS s m.ep m.at').1.data.length (eS s m.ep m.at').1.data,_,UD ub bd room s ps,rfl,.of λR h H=>⟨a',c',kU,qV,rfl,?_⟩,ak H⟩;exact ae H (λ_ h=>h) λy1 H=>ae H (λ_ h=>h) λy2 H=>ae H (λ_ h=>h) λy3 H=>ae H (λ_ h=>h) λy4 H=>ae H (λ_ h=>h) λy5 H=>ae H (λ_ h=>h) λy6 H=>ae H (λ_ h=>h) λy7 H=>ae H (λ_ h=>h) λy8 H=>ai H
theorem WE(hk:m.kind=3):az prog 132 #[pt bu,pt bm] (Ey ub bd bu bm room s ps m ca cc va vc)
 (λv=>aA (v=an (cF room s ps m r).1/\(cF room s ps m r).2.1=r) (Ey ub bd bu bm room (cF room s ps m r).2.2.1 (cF room s ps m r).2.2.2 m ca cc va vc)):=by
 have e:cF room s ps m r=((ly room s ps m.ep m.at').1,r,(ly room s ps m.ep m.at').2):=by unfold cF;rw[aq (by omega),aq (by omega),aB hk]
 rw[e];refine be (ρ:=[.n bu,.n ub,.p (UD ub bd room s ps),.n bm,.i m.fr,.i m.to,.i m.num,.c m.bV,.i m.kind,.i m.ep,.i m.at',.i m.cell.what,.a ca,.n m.cell.data.length,.n cc,.p (m.cW ca),.i m.br,.i m.bw,.a va,.n m.val.length,.n vc,.p (m.cI va),.i m.err,.i m.tail,.i m.low,.i m.back]) {aF:=[77,76,136,73]} [(.ptr 0 0),(.ptr 3 0)] acJ 26 ?_;refine(U8 ub bd room s ps m.ep m.at').wk ?_;rintro v R h ⟨rfl,H⟩;exact⟨_,_,rfl,.of λR h H=>⟨⟨rfl,trivial⟩,H⟩,H⟩
theorem WG(hk:m.kind=4):az prog 134 #[pt bu,pt bm,pt br] (JV ub bd bu bm br rb room s ps m r ca cc va vc kT qU kU qV)
 (Ci ub bd bu bm br rb room m ca cc va vc (cF room s ps m r)):=by
 have e:cF room s ps m r=if s.aI=m.ep then(0,{r with tail:=max s.top s.low},s,ps)
  else if(gu room s ps m.ep).1=0 then(0,{r with tail:=max (gu room s ps m.ep).2.1.top (gu room s ps m.ep).2.1.low},(gu room s ps m.ep).2)
  else((gu room s ps m.ep).1,r,(gu room s ps m.ep).2):=by unfold cF;rw[aq (by omega),aq (by omega),aq (by omega),aB hk]
 rw[e];refine be (ρ:=.n bu:: .n ub:: .p (UD ub bd room s ps):: .n bm:: .i m.fr:: .i m.to:: .i m.num:: .c m.bV:: .i m.kind:: .i m.ep:: .i m.at':: .i m.cell.what:: .a ca:: .n m.cell.data.length:: .n cc:: .p (m.cW ca):: .i m.br:: .i m.bw:: .a va::[.n m.val.length,.n vc,.p (m.cI va),.i m.err,.i m.tail,.i m.low,.i m.back,.n br,.n rb,.i r.fr,.i r.to,.i r.num,.c r.bV,.i r.kind,.i r.ep,.i r.at',.i r.cell.what,.a kT,.n r.cell.data.length,.n qU,.p (r.cW kT),.i r.br,.i r.bw,.a kU,.n r.val.length,.n qV,.p (r.cI kU),.i r.err,.i r.tail,.i r.low,.i r.back]) {aF:=[77,76,136,73]} JT JS 50 ?_;refine(pU ub bd _ s).wk ?_;rintro v R h ⟨rfl,H⟩;refine⟨_,rfl,⟨λh1=>?_,λh1=>?_⟩,H⟩
 ·rw[aq h1];refine(U9 ub bd room s ps m.ep).wk ?_;rintro v R h ⟨rfl,H⟩;refine⟨_,_,rfl,⟨λh2=>?_,λh2=>?_⟩,H⟩
  ·rw[aq h2];exact .of λR h H=>⟨kT,qU,kU,qV,rfl,H⟩
  ·rw[aB h2];refine(Bo ub bd _ (gu room s ps m.ep).2.1).wk ?_;rintro v R h ⟨rfl,H⟩;exact⟨_,rfl,.of λR h H=>⟨kT,qU,kU,qV,rfl,H⟩,H⟩
 ·rw[aB h1];refine(Bo ub bd _ s).wk ?_;rintro v R h ⟨rfl,H⟩;exact⟨_,rfl,.of λR h H=>⟨kT,qU,kU,qV,rfl,H⟩,H⟩
theorem WH(hk:m.kind=5):az prog 137 #[pt bu,pt bm,pt br] (JV ub bd bu bm br rb room s ps m r ca cc va vc kT qU kU qV)
 (Ci ub bd bu bm br rb room m ca cc va vc (cF room s ps m r)):=by
 have e:cF room s ps m r=if s.aI=m.ep then(0,{r with tail:=max s.top s.low},s,ps)else(8,r,s,ps):=by unfold cF;rw[aq (by omega),aq (by omega),aq (by omega),aq (by omega),aB hk]
 rw[e];refine be (ρ:=.n bu:: .n ub:: .p (UD ub bd room s ps):: .n bm:: .i m.fr:: .i m.to:: .i m.num:: .c m.bV:: .i m.kind:: .i m.ep:: .i m.at':: .i m.cell.what:: .a ca:: .n m.cell.data.length:: .n cc:: .p (m.cW ca):: .i m.br:: .i m.bw:: .a va::[.n m.val.length,.n vc,.p (m.cI va),.i m.err,.i m.tail,.i m.low,.i m.back,.n br,.n rb,.i r.fr,.i r.to,.i r.num,.c r.bV,.i r.kind,.i r.ep,.i r.at',.i r.cell.what,.a kT,.n r.cell.data.length,.n qU,.p (r.cW kT),.i r.br,.i r.bw,.a kU,.n r.val.length,.n qV,.p (r.cI kU),.i r.err,.i r.tail,.i r.low,.i r.back]) {aF:=[77,76,136,73]} JT JS 50 ?_;refine(pU ub bd _ s).wk ?_;rintro v R h ⟨rfl,H⟩;refine⟨_,rfl,⟨λh1=>?_,λh1=>?_⟩,H⟩
 ·rw[aq h1];exact .of λR h H=>⟨kT,qU,kU,qV,rfl,H⟩
 ·rw[aB h1];refine(Bo ub bd _ s).wk ?_;rintro v R h ⟨rfl,H⟩;exact⟨_,rfl,.of λR h H=>⟨kT,qU,kU,qV,rfl,H⟩,H⟩
theorem WJ(hk:m.kind=6):az prog 138 #[pt bu,pt bm,pt br] (JV ub bd bu bm br rb room s ps m r ca cc va vc kT qU kU qV)
 (Ci ub bd bu bm br rb room m ca cc va vc (cF room s ps m r)):=by
 have e:cF room s ps m r=((bR room s ps m.at' m.br m.bw).2.2.2.1,{r with br:=(bR room s ps m.at' m.br m.bw).1,bw:=(bR room s ps m.at' m.br m.bw).2.1,val:=(bR room s ps m.at' m.br m.bw).2.2.1},(bR room s ps m.at' m.br m.bw).2.2.2.2):=by
  unfold cF;rw[aq (by omega),aq (by omega),aq (by omega),aq (by omega),aq (by omega),aB hk]
 rw[e];refine be (ρ:=.n bu:: .n ub:: .p (UD ub bd room s ps):: .n bm:: .i m.fr:: .i m.to:: .i m.num:: .c m.bV:: .i m.kind:: .i m.ep:: .i m.at':: .i m.cell.what:: .a ca:: .n m.cell.data.length:: .n cc:: .p (m.cW ca):: .i m.br:: .i m.bw:: .a va::[.n m.val.length,.n vc,.p (m.cI va),.i m.err,.i m.tail,.i m.low,.i m.back,.n br,.n rb,.i r.fr,.i r.to,.i r.num,.c r.bV,.i r.kind,.i r.ep,.i r.at',.i r.cell.what,.a kT,.n r.cell.data.length,.n qU,.p (r.cW kT),.i r.br,.i r.bw,.a kU,.n r.val.length,.n qV,.p (r.cI kU),.i r.err,.i r.tail,.i r.low,.i r.back]) {aF:=[77,76,136,73]} JT JS 50 ?_;refine(IJ ub bd room s ps m.at' m.br m.bw).wk ?_;rintro v R h ⟨a',c',rfl,H⟩;refine⟨_,_,a',_,c',bE a' (bR room s ps m.at' m.br m.bw).2.2.1.length (bR room s ps m.at' m.br m.bw).2.2.1,_,_,rfl,.of λR h H=>⟨kT,qU,a',c',rfl,?_⟩,ak H⟩;exact ae H (λ_ h=>h) λy1 H=>ae H (λ_ h=>h) λy2 H=>ae H (λ_ h=>h) λy3 H=>ae H (λ_ h=>h) λy4 H=>ae H (λ_ h=>h) λy5 H=>ae H (λ_ h=>h) λy6 H=>ae H (λ_ h=>h) λy7 H=>ae H (λ_ h=>h) λy8 H=>ai H
theorem WK(hk:m.kind=7):az prog 140 #[pt bu,pt bm] (Ey ub bd bu bm room s ps m ca cc va vc)
 (λv=>aA (v=an (cF room s ps m r).1/\(cF room s ps m r).2.1=r) (Ey ub bd bu bm room (cF room s ps m r).2.2.1 (cF room s ps m r).2.2.2 m ca cc va vc)):=by
 have e:cF room s ps m r=((fM room s ps m.at' m.br m.bw m.val).1,r,(fM room s ps m.at' m.br m.bw m.val).2):=by
  unfold cF;rw[aq (by omega),aq (by omega),aq (by omega),aq (by omega),aq (by omega),aq (by omega)]
 rw[e];refine az.cM (φ:=m.val.length≠0->va.isSome=true) (λR h H hn=>bN.some (ah (ah (ah (ah H)))) (by omega)) λhva=>?_;refine be (ρ:=[.n bu,.n ub,.p (UD ub bd room s ps),.n bm,.i m.fr,.i m.to,.i m.num,.c m.bV,.i m.kind,.i m.ep,.i m.at',.i m.cell.what,.a ca,.n m.cell.data.length,.n cc,.p (m.cW ca),.i m.br,.i m.bw,.a va,.n m.val.length,.n vc,.p (m.cI va),.i m.err,.i m.tail,.i m.low,.i m.back]) {aF:=[77,76,136,73]} [(.ptr 0 0),(.ptr 3 0)] acJ 26 ?_;refine(LQ ub bd room s ps m.at' m.br m.bw va m.val.length vc m.val (m.cI va) (bX.ro _ _ _ _) rfl hva).wk ?_;rintro v R h ⟨rfl,H⟩;exact⟨_,_,m.cI va,rfl,.of λR h H=>⟨⟨rfl,trivial⟩,H⟩,H⟩
end
def ve(e:Int)(r:MS)(s:gj):MS:=
 if e=0 then{r with err:=e,low:=s.low,back:=s.aI}
 else{r with err:=e,br:=0,bw:=0,val:=[],tail:=0,cell:=if e=10 then r.cell else zC,low:=s.low,back:=s.aI}
def bQ(room:Int)(s:gj)(ps:List Pg)(m:MS):Bool×MS×gj×List Pg:=
 if m.bV=true\/¬(1<=m.kind/\m.kind<=7)then(false,gS,s,ps)
 else(true,ve (cF room s ps m (cN m)).1 (cF room s ps m (cN m)).2.1 (cF room s ps m (cN m)).2.2.1,(cF room s ps m (cN m)).2.2)
theorem ai0:(prog.info? 50).map (λi=>(i.zero,i.size,i.bytes))=some (some .nilFunc,1,8):=by kernel_rfl
theorem anC:xC prog 128:=⟨_,Tryz.func128,by kernel_rfl,by kernel_rfl⟩
theorem anD:xC prog 130:=⟨_,Tryz.func130,by kernel_rfl,by kernel_rfl⟩
theorem anE:xC prog 132:=⟨_,Tryz.func132,by kernel_rfl,by kernel_rfl⟩
theorem anF:xC prog 134:=⟨_,Tryz.func134,by kernel_rfl,by kernel_rfl⟩
theorem anG:xC prog 137:=⟨_,Tryz.func137,by kernel_rfl,by kernel_rfl⟩
theorem anH:xC prog 138:=⟨_,Tryz.func138,by kernel_rfl,by kernel_rfl⟩
theorem anI:xC prog 140:=⟨_,Tryz.func140,by kernel_rfl,by kernel_rfl⟩
section
variable (ub bd bu bm br rb:Nat)(room:Int)(s:gj)(ps:List Pg)(m:MS)(ca:aG)(cc:Nat)(va:aG)(vc:Nat)
theorem RW(hk:1<=m.kind/\m.kind<=7):∃f,(aY m.kind (gy bu bm br))=some f/\eD f=f/\
 jG prog f #[] (JV ub bd bu bm br rb room s ps m (cN m) ca cc va vc none 0 none 0) (Ci ub bd bu bm br rb room m ca cc va vc (cF room s ps m (cN m))):=by
 have small:∀ {f:FuncId},xC prog f->az prog f #[pt bu,pt bm] (Ey ub bd bu bm room s ps m ca cc va vc)
  (λv=>aA (v=an (cF room s ps m (cN m)).1/\(cF room s ps m (cN m)).2.1=cN m) (Ey ub bd bu bm room (cF room s ps m (cN m)).2.2.1 (cF room s ps m (cN m)).2.2.2 m ca cc va vc))->
  jG prog (fv2 f bu bm) #[] (JV ub bd bu bm br rb room s ps m (cN m) ca cc va vc none 0 none 0) (Ci ub bd bu bm br rb room m ca cc va vc (cF room s ps m (cN m))):=λg t=>
  .inl ⟨_,_,rfl,g,t.bv (K:=aj (kS br rb) (aj (dO rb ((cN m).ee none 0 none 0)) (aj ((cN m).cW none) ((cN m).cI none))))
   (.of λR h H=>aC (ae H (λ_ h=>h) λy H=>aC (ae H (λ_ h=>h) λy H=>aC (ae H (λ_ h=>h) λy H=>aC H))))
   λv=>.of λR h ⟨h1,h2,d,l1,l2,⟨⟨e1,e2⟩,H⟩,HK⟩=>⟨none,0,none,0,e1,by
    rw[e2];exact ae (au ⟨h1,h2,d,l1,l2,H,HK⟩) (λ_ h=>h) λy H=>ae (au H) (λ_ h=>h) λy H=>ae (au H) (λ_ h=>h) λy H=>au H⟩⟩
 have hc:m.kind=1\/m.kind=2\/m.kind=3\/m.kind=4\/m.kind=5\/m.kind=6\/m.kind=7:=by omega
 rcases hc with hk|hk|hk|hk|hk|hk|hk
 ·exact⟨KW 128 bu bm br,by rw[hk];rfl,rfl,.inl ⟨_,_,rfl,anC,WC ub bd bu bm br rb room s ps m (cN m) ca cc va vc none 0 none 0 hk⟩⟩
 ·exact⟨KW 130 bu bm br,by rw[hk];rfl,rfl,.inl ⟨_,_,rfl,anD,WD ub bd bu bm br rb room s ps m (cN m) ca cc va vc none 0 none 0 hk⟩⟩
 ·exact⟨fv2 132 bu bm,by rw[hk];rfl,rfl,small anE (WE ub bd bu bm room s ps m (cN m) ca cc va vc hk)⟩
 ·exact⟨KW 134 bu bm br,by rw[hk];rfl,rfl,.inl ⟨_,_,rfl,anF,WG ub bd bu bm br rb room s ps m (cN m) ca cc va vc none 0 none 0 hk⟩⟩
 ·exact⟨KW 137 bu bm br,by rw[hk];rfl,rfl,.inl ⟨_,_,rfl,anG,WH ub bd bu bm br rb room s ps m (cN m) ca cc va vc none 0 none 0 hk⟩⟩
 ·exact⟨KW 138 bu bm br,by rw[hk];rfl,rfl,.inl ⟨_,_,rfl,anH,WJ ub bd bu bm br rb room s ps m (cN m) ca cc va vc none 0 none 0 hk⟩⟩
 ·exact⟨fv2 140 bu bm,by rw[hk];rfl,rfl,small anI (WK ub bd bu bm room s ps m (cN m) ca cc va vc hk)⟩
theorem RY(hk:¬(1<=m.kind/\m.kind<=7)):aY m.kind (gy bu bm br)=none:=by
 simp only[gy,aY]
 repeat rw[aq (by omega)]
end
set_option maxRecDepth 100000 in
theorem RZ ub bd(room:Int)(s:gj)(ps:List Pg)(m:MS)(ca:aG)(cc:Nat)(va:aG)(vc:Nat):
 az prog 38 #[pt ub,.agg (m.ee ca cc va vc).aJ] (aj (UD ub bd room s ps) (aj (m.cW ca) (m.cI va)))
 (λv=>aE λkT=>aE λqU=>aE λkU=>aE λqV=>aA (v=.tuple #[.agg ((bQ room s ps m).2.1.ee kT qU kU qV).aJ,.bool (bQ room s ps m).1])
   (aj (UD ub bd room (bQ room s ps m).2.2.1 (bQ room s ps m).2.2.2) (aj (m.cW ca) (aj (m.cI va) (aj ((bQ room s ps m).2.1.cW kT) ((bQ room s ps m).2.1.cI kU)))))):=by
 refine be (ρ:=[.n ub,.p (UD ub bd room s ps),.i m.fr,.i m.to,.i m.num,.c m.bV,.i m.kind,.i m.ep,.i m.at',.i m.cell.what,.a ca,.n m.cell.data.length,.n cc,.p (m.cW ca),.i m.br,.i m.bw,.a va,.n m.val.length,.n vc,.p (m.cI va),.i m.err,.i m.tail,.i m.low,.i m.back]) {aF:=[77,76,136,73],vt:=[(.b 0),(.b 48)]} [(.ptr 0 0),(.agg acI)] [(.b 0,1),(10,13),(16,19)] 24 ?_;intro x y;refine(JU (m.ee ca cc va vc) 0 (m.cW ca) (m.cI va)).wk ?_;rintro v R h ⟨rfl,H⟩;refine⟨m.to,m.fr,m.num,true,m.kind,m.ep,m.at',0,none,0,0,tt,0,0,none,0,0,tt,0,0,0,0,rfl,λrb=>?_,aW (aW H)⟩;clear H;refine(WB ub (UD ub bd room s ps) (m.ee ca cc va vc) (m.cW ca) (m.cI va) rb _).wk ?_;rintro v R h ⟨mp,bu,bm,br,rfl,H⟩;have hD:=ai (ah (ah (ah (ah H))));have hV:=ai (ah (ah (ah (ah (ah H)))))
 let P0:HP:=cw [HP.one mp (aX iE (gy bu bm br) 7),u9 bu ub,dO bm (m.ee ca cc va vc),m.cW ca,m.cI va,kS br rb]
 have hP0:∀y,(cw [HP.one mp (aX iE (gy bu bm br) 7),u9 bu ub,dO bm (m.ee ca cc va vc),kS br rb]).p R y->P0.p R y:=λy hy=>
  HP.pick [m.cW ca,m.cI va,HP.one mp (aX iE (gy bu bm br) 7),u9 bu ub,dO bm (m.ee ca cc va vc),kS br rb] [2,3,4,0,1,5] (by decide) rfl (bN.join hD (bN.join hV hy))
 have H2:=HP.pick [HP.one mp (aX iE (gy bu bm br) 7),u9 bu ub,UD ub bd room s ps,dO bm (m.ee ca cc va vc),m.cW ca,m.cI va,kS br rb,dO rb (Ch (m.ee ca cc va vc) 0),tt,tt] [0,1,3,6,2,4,5,7,8,9] (by decide) rfl H;have H3:=ae (gq (l:=[HP.one mp (aX iE (gy bu bm br) 7),u9 bu ub,dO bm (m.ee ca cc va vc),kS br rb]) (m:=[UD ub bd room s ps,m.cW ca,m.cI va,dO rb (Ch (m.ee ca cc va vc) 0),tt,tt]).1 H2) hP0 λ_ h=>h;refine⟨mp,P0,UD ub bd room s ps,m.cW ca,m.cI va,m.to,m.fr,m.num,true,m.kind,m.ep,m.at',0,none,0,0,tt,0,0,none,0,0,tt,0,0,0,0,rfl,?_,H3⟩;clear H H2 H3 hP0 hD hV;obtain⟨i,hi,z1,_⟩:=info_parts ai0;have iP:=iO (r:=mp) (l:=gy bu bm br) (c:=7) iK acK hi z1 m.kind true (A:=P0) (λR h H=>ai H);rw[aB rfl]at iP
 have Gw:(m.bV=true\/¬(1<=m.kind/\m.kind<=7))->HP.aT (aj (UD ub bd room s ps) (aj (m.cW ca) (m.cI va))) (aE λkT=>aE λqU=>aE λkU=>aE λqV=>aA (Value.tuple #[.agg #[an 0,an 0,an 0,.bool false,an 0,an 0,an 0,an 0,.slice none 0 0,an 0,an 0,.slice none 0 0,an 0,an 0,an 0,an 0],.bool false]=.tuple #[.agg ((bQ room s ps m).2.1.ee kT qU kU qV).aJ,.bool (bQ room s ps m).1])
  (aj (UD ub bd room (bQ room s ps m).2.2.1 (bQ room s ps m).2.2.2) (aj (m.cW ca) (aj (m.cI va) (aj ((bQ room s ps m).2.1.cW kT) ((bQ room s ps m).2.1.cI kU)))))):=λhn=>by
  have e:bQ room s ps m=(false,gS,s,ps):=aB hn;rw[e];exact .of λR h H=>⟨none,0,none,0,rfl,ae H (λ_ h=>h) λy H=>ae H (λ_ h=>h) λz H=>au (j6 (bN.nil 1 none R z) (j6 (bN.nil 1 none R z) H))⟩
 by_cases hk:1<=m.kind/\m.kind<=7
 ·obtain⟨f,hf,hf1,hv⟩:=RW ub bd bu bm br rb room s ps m ca cc va vc hk;rw[hf]at iP;simp only[Option.getD_some,Option.isSome_some]at iP;refine⟨f,true,by rw[hf1];exact iP,λhr=>Gw (.inl hr),λhr=>⟨λh=>absurd rfl h,λ_=>?_⟩⟩;have ea:bQ room s ps m=(true,ve (cF room s ps m (cN m)).1 (cF room s ps m (cN m)).2.1 (cF room s ps m (cN m)).2.2.1,(cF room s ps m (cN m)).2.2):=aq (λh=>h.elim hr λh=>h hk);rw[ea];generalize hd:cF room s ps m (cN m)=d at hv;obtain⟨e,r',s',mq⟩:=d;refine hv.bv (K:=HP.one mp (aX iE (gy bu bm br) 7)) (.of λR h H=>?_) λv=>.of λR h H=>?_
  ·have H1:=(gq (l:=[HP.one mp (aX iE (gy bu bm br) 7),u9 bu ub,dO bm (m.ee ca cc va vc),m.cW ca,m.cI va,kS br rb]) (m:=[UD ub bd room s ps,dO rb (Ch (m.ee ca cc va vc) 0),tt,tt])).2 H;have H2:=bN.join (bN.nil 1 none R h:((cN m).cW none).p R h) (bN.join (bN.nil 1 none R h:((cN m).cI none).p R h) H1);have H3:=HP.pick [(cN m).cW none,(cN m).cI none,HP.one mp (aX iE (gy bu bm br) 7),u9 bu ub,dO bm (m.ee ca cc va vc),m.cW ca,m.cI va,kS br rb,UD ub bd room s ps,dO rb (Ch (m.ee ca cc va vc) 0),tt,tt] [3,8,4,5,6,7,9,0,1,2] (by decide) rfl H2;exact(gq (l:=[u9 bu ub,UD ub bd room s ps,dO bm (m.ee ca cc va vc),m.cW ca,m.cI va,kS br rb,dO rb (Ch (m.ee ca cc va vc) 0),(cN m).cW none,(cN m).cI none]) (m:=[HP.one mp (aX iE (gy bu bm br) 7)])).1 H3
  ·obtain⟨h1,h2,dj,l1,l2,⟨kT,qU,kU,qV,rfl,HP1⟩,HM⟩:=H;have H1:=(gq (l:=[u9 bu ub,UD ub bd room s' mq,dO bm (m.ee ca cc va vc),m.cW ca,m.cI va,kS br rb,dO rb (r'.ee kT qU kU qV),r'.cW kT,r'.cI kU]) (m:=[HP.one mp (aX iE (gy bu bm br) 7)])).2 ⟨h1,h2,dj,l1,l2,HP1,HM⟩;have H2:=HP.pick [u9 bu ub,UD ub bd room s' mq,dO bm (m.ee ca cc va vc),m.cW ca,m.cI va,kS br rb,dO rb (r'.ee kT qU kU qV),r'.cW kT,r'.cI kU,HP.one mp (aX iE (gy bu bm br) 7)] [1,6,7,8,9,0,2,3,4,5] (by decide) rfl H1;have H3:=(gq (l:=[UD ub bd room s' mq,dO rb (r'.ee kT qU kU qV),r'.cW kT,r'.cI kU]) (m:=[P0,tt,tt])).2 (ae ((gq (l:=[UD ub bd room s' mq,dO rb (r'.ee kT qU kU qV),r'.cW kT,r'.cI kU]) (m:=[HP.one mp (aX iE (gy bu bm br) 7),u9 bu ub,dO bm (m.ee ca cc va vc),m.cW ca,m.cI va,kS br rb])).1 H2) (λ_ h=>h) λ_ h=>aD (ak (aW h)|>ai)|>λh=>ae h (λ_ h=>h) λ_ _=>aD trivial);refine⟨e,UD ub bd room s' mq,r'.fr,r'.to,r'.num,r'.bV,r'.kind,r'.ep,r'.at',r'.cell.what,kT,r'.cell.data.length,qU,r'.cW kT,r'.br,r'.bw,kU,r'.val.length,qV,r'.cI kU,r'.err,r'.tail,r'.low,r'.back,rfl,?_,H3⟩;clear H1 H2 H3 HP1 HM dj l1 l2;refine⟨λh0=>⟨λTr=>?_,λTr=>?_⟩,λh0=>?_⟩
   ·refine(FO ub bd _ s').wk ?_;rintro v R h ⟨rfl,H⟩;refine⟨_,rfl,?_,H⟩;refine(pU ub bd _ s').wk ?_;rintro v R h ⟨rfl,H⟩;refine⟨_,rfl,.of λR h H=>⟨none,0,none,0,?_,?_⟩,H⟩
    ·simp only[ve,aq h0,aq Tr];rfl
    ·simp only[ve,aq h0,aq Tr];exact ae H (λ_ h=>h) λy H=>ae H (λ_ h=>h) λz H=>au (j6 (bN.nil 1 none R z) (j6 (bN.nil 1 none R z) H))
   ·refine(FO ub bd _ s').wk ?_;rintro v R h ⟨rfl,H⟩;refine⟨_,rfl,?_,H⟩;refine(pU ub bd _ s').wk ?_;rintro v R h ⟨rfl,H⟩;refine⟨_,rfl,.of λR h H=>⟨kT,qU,none,0,?_,?_⟩,H⟩
    ·simp only[ve,aq h0,aB Tr];rfl
    ·simp only[ve,aq h0,aB Tr];exact ae H (λ_ h=>h) λy H=>ae H (λ_ h=>h) λz H=>ae H (λ_ h=>h) λu H=>j6 (bN.nil 1 none R u) H
   ·refine(FO ub bd _ s').wk ?_;rintro v R h ⟨rfl,H⟩;refine⟨_,rfl,?_,H⟩;refine(pU ub bd _ s').wk ?_;rintro v R h ⟨rfl,H⟩;refine⟨_,rfl,.of λR h H=>⟨kT,qU,kU,qV,?_,?_⟩,H⟩
    ·simp only[ve,aB h0]
    ·simp only[ve,aB h0];exact H
 ·rw[RY bu bm br m hk]at iP;refine⟨.nilFunc,false,iP,λhr=>Gw (.inl hr),λhr=>⟨λ_=>Gw (.inr hk),λh=>by cases h⟩⟩
end
namespace RX
def fO:=(({aF:=[159,166,229,171,172,89,228,64,226,51,98,161,227,99999]}:jo).aF)
def fP:=(({bU:=[(90,[0]),(160,[0])]}:jo).bU)
abbrev tH:Hp:=[((.b 0),(.cells [1,2,3,(.s 4),8,9,10,(.s 11)] 170)),(4,7),(11,14)]
abbrev Pn:List A:=[1,2,3,(.s 4),8,9,10,(.s 11)]
abbrev aas:Hp:=[((.b 0),(.cells Pn 170)),(4,7),(11,14),(17,20)]
abbrev Po:Hp:=[((.b 0),(.cells Pn 170)),(4,7),(11,14),(23,26),(29,32)]
abbrev JW:List W:=[(.ptr 0 0),(.agg [15,16,17,(.bool 18),19,20,21,22,(.s 23),27,28,(.s 29),33,34,35,36])]
abbrev qh:List W:=[(.ptr 0 0)]
abbrev JX:Hp:=[(1,4),(6,9)]
abbrev WL:List A:=[16,(.s 17)]
end RX
section
open RX
theorem R6 S a n c l(hr:bX S a n (l.map cr))(hl:l.length=n)(hb:n<=1000000000):
 az prog 51 #[.slice a n c] S (λv=>aE λa'=>aE λc'=>aA (v=.slice a' n c') (aj (vP a' n l) S)):=by
 have own:az prog 51 #[.slice a n c] S (λv=>aE λa'=>aE λc'=>aA (v=.slice a' n c') (aj (kv a' n c' l) S)):=by
  refine be (ρ:=[.a a,.n n,.n c,.p S]) {aF:=fO,bU:=fP} [(.s 0)] [(0,3)] 4 ?_;refine⟨λha=>.of λR h H=>?_,λha x=>?_⟩
  ·have hn:n=0:=hr.none R h H (by simpa using ha);subst hn;obtain rfl:l=[]:=List.eq_nil_of_length_eq_zero hl;exact⟨none,0,rfl,aW H|>λH=>ae H (λx _=>bY.nil _ _ R x) λ_ h=>h⟩
  ·rw[ic (by decide)];refine uH ?_;cases a with
   |none=>simp at ha
   |some ad=>
    have:=vQ (some ⟨x,0,none⟩) 0 0 [] S ad n c l hr.rd hl (by omega);refine this.aK (λR h H=>ae H (λy hy=>⟨rfl,.inr ⟨x,#[],rfl,hy,Nat.le_refl _,by unfold maxLen;omega,rfl,rfl⟩⟩) λ_ h=>h) ?_;rintro v R h ⟨a',c',rfl,H⟩;rw[Nat.zero_add,List.nil_append]at H;exact⟨a',n,c',kv a' n c' l,by rw[Nat.zero_add],.of λR' h' H'=>⟨a',c',rfl,ak H'⟩,H⟩
 exact own.post λv=>λR h d ⟨a',c',e,H⟩=>by
  obtain⟨R1,h1,q1,q2,q3,q4,H1⟩:=(HP.aT.aj (bY.eP _ _ _ _ _ _) S) R h d H;exact⟨R1,h1,q1,q2,q3,q4,a',c',e,H1⟩
theorem yB S a n c l(hr:bX S a n (l.map eX))(hl:l.length=n)(hb:n<=140737488355328):
 az prog 226 #[.slice a n c] S (λv=>aE λa'=>aE λc'=>aA (v=.slice a' n c') (aj (bE a' n l) S)):=by
 have own:az prog 226 #[.slice a n c] S (λv=>aE λa'=>aE λc'=>aA (v=.slice a' n c') (aj (dS a' n c' l) S)):=by
  refine be (ρ:=[.a a,.n n,.n c,.p S]) {aF:=fO,bU:=fP} [(.s 0)] [(0,3)] 4 ?_;refine⟨λha=>.of λR h H=>?_,λha x=>?_⟩
  ·have hn:n=0:=hr.none R h H (by simpa using ha);subst hn;obtain rfl:l=[]:=List.eq_nil_of_length_eq_zero hl;exact⟨none,0,rfl,aW H|>λH=>ae H (λx _=>bY.nil _ _ R x) λ_ h=>h⟩
  ·rw[ic (by decide)];refine uH ?_;have:=oB (some ⟨x,0,none⟩) 0 0 [] S a n c l hr hl (λ_=>by simpa[Option.isSome_iff_ne_none]using ha) (by omega);refine this.aK (λR h H=>ae H (λy hy=>⟨rfl,.inr ⟨x,#[],rfl,hy,Nat.le_refl _,by unfold maxLen;omega,rfl,rfl⟩⟩) λ_ h=>h) ?_;rintro v R h ⟨a',c',rfl,H⟩;rw[Nat.zero_add,List.nil_append]at H;exact⟨a',n,c',dS a' n c' l,by rw[Nat.zero_add],.of λR' h' H'=>⟨a',c',rfl,ak H'⟩,H⟩
 exact own.post λv=>λR h d ⟨a',c',e,H⟩=>by
  obtain⟨R1,h1,q1,q2,q3,q4,H1⟩:=(HP.aT.aj (bY.eP _ _ _ _ _ _) S) R h d H;exact⟨R1,h1,q1,q2,q3,q4,a',c',e,H1⟩
set_option maxRecDepth 100000 in
theorem Ez a n c la b m d(lb:ax) Sa Sb(hA:bX Sa a n (la.map eX))(hB:bX Sb b m (lb.map eX))(hla:la.length=n)(hlb:lb.length=m):
 az prog 64 #[.slice a n c,.slice b m d] (aj Sa Sb) (λv=>aA (v=.bool (decide (la=lb))) (aj Sa Sb)):=by
 refine be (ρ:=[.a a,.n n,.n c,.p Sa,.a b,.n m,.n d,.p Sb]) {aF:=fO,bU:=fP} [(.s 0),(.s 4)] [(0,3),(4,7)] 8 ?_;refine⟨_,FD rfl hA hla,_,FD rfl hB hlb,.of λR h H=>⟨?_,H⟩⟩;rfl
theorem qi{P}{o}{A Q}{K:HP->Prop}(t:aR P o A λv=>aA (v=cE) Q)(k:K Q):aR P o A λv=>aE λQ'=>aA (v=cE) (aA (K Q') Q'):=
 t.wk λ_ _ _ ⟨e,H⟩=>⟨Q,e,k,H⟩
theorem gz{P}{f}{args:dI}{A Q}{K:HP->Prop}(t:az P f args A λv=>aA (v=cE) Q)(k:K Q):az P f args A λv=>aE λQ'=>aA (v=cE) (aA (K Q') Q'):=
 t.wk λ_ _ _ ⟨e,H⟩=>⟨Q,e,k,H⟩
theorem nt{P}{f}{args:dI}{A}{α:Type}{K:α->Prop}{g:α->Value} x(t:az P f args A λv=>aA (v=g x) A)(k:K x):az P f args A λv=>aE λy=>aA (v=g y) (aA (K y) A):=
 t.wk λ_ _ _ ⟨e,H⟩=>⟨x,e,k,H⟩
section
variable (m:MS)(ca:aG)(cc:Nat)(va:aG)(vc:Nat)
abbrev MS.env:cd:=[.i m.fr,.i m.to,.i m.num,.c m.bV,.i m.kind,.i m.ep,.i m.at',.i m.cell.what,.a ca,.n m.cell.data.length,.n cc,.p (m.cW ca),.i m.br,.i m.bw,.a va,.n m.val.length,.n vc,.p (m.cI va),.i m.err,.i m.tail,.i m.low,.i m.back]
def MS.small(m:MS):Prop:=m.cell.data.length<=1000000/\m.val.length<=1000000
def Pp(S:HP)(v:Value):HP:=aE λca'=>aE λZs=>aE λMc=>aE λTt=>aA (v=.agg (m.ee ca' Zs Mc Tt).aJ) (aj (m.cW ca') (aj (m.cI Mc) S))
theorem ai2{f}(t:∀m ca cc va vc,MS.small m->az prog f #[.agg (m.ee ca cc va vc).aJ] (aj (m.cW ca) (m.cI va)) (Pp m (aj (m.cW ca) (m.cI va))))(hm:m.small) S(hS:∀R h,S.p R h->(m.cW ca).p R h/\(m.cI va).p R h):
 az prog f #[.agg (m.ee ca cc va vc).aJ] S (Pp m S):=
 (t m ca cc va vc hm).bv (K:=S) (.of λR h H=>aC (bN.join (hS R h H).1 (bN.join (hS R h H).2 H))) λv=>.of λR h ⟨h1,h2,d,l1,l2,⟨a,b,c,d',e,H⟩,HS⟩=>by
   refine⟨a,b,c,d',e,?_⟩;have H1:=au ⟨h1,h2,d,l1,l2,H,HS⟩;exact ae H1 (λ_ h=>h) λx hx=>ae (au hx) (λ_ h=>h) λ_ h=>ah h
theorem sI{P}{f}{args:dI}{A Q Q2}{K:HP->HP->Prop}(t:az P f args A λv=>aA (v=cE) (aj Q Q2))(k:K Q Q2):az P f args A λv=>aE λQ'=>aE λQ2'=>aA (v=cE) (aA (K Q' Q2') (aj Q' Q2')):=
 t.wk λ_ _ _ ⟨e,H⟩=>⟨Q,Q2,e,k,H⟩
end
theorem ai3 a n c es b x S Q(hS:∀R h,S.p R h->(aj Q (PL eI a n c es)).p R h)(hb:n<=1000000000):
 aR prog (o4 57 57 (.slice a n c) (.slice (some ⟨b,0,none⟩) 1 1)) (aj S (aj (HP.one b (.cells x.aJ 64 (0,0))) (aj (x.m.cW x.ca) (x.m.cI x.va))))
  (λv=>aE λa'=>aE λc'=>aA (v=.slice a' (n+1) c') (aj (PL eI a' (n+1) c' (es++[x])) (aj Q (aj (HP.one b (.cells x.aJ 64 (0,0))) (aj (x.m.cW x.ca) (x.m.cI x.va)))))):=by
 obtain⟨i,z,hi,h1,h2,h3,h4⟩:=O2;refine(Vb (K:=eI) 57 57 Mi hi h1 h2 h3 (by rw[h4];decide) a n c es b x (aj Q (aj (x.m.cW x.ca) (x.m.cI x.va))) hb).aK (λR h H=>?_) λv R h ⟨a',c',e,H⟩=>⟨a',c',e,HP.pick [_,_,_,_,_] [0,2,1,3,4] (by decide) rfl H⟩;have H1:=au (ae H (λy hy=>hS R y hy) λ_ h=>h);have hD:=ai (ah (ah (ah H1)));have hV:=ah (ah (ah (ah H1)));have H2:=HP.pick [Q,PL eI a n c es,_,x.m.cW x.ca,x.m.cI x.va] [1,2,0,3,4] (by decide) rfl H1;exact ae H2 (λ_ h=>h) λy hy=>ae hy (λ_ h=>h) λz hz=>⟨PH.cV,z,PH.eL _,PH.dB _,PH.le.refl _,⟨hD,hV⟩,hz⟩
section
variable {b:Nat}{a:aG}{c:Nat}{es:List p9}
end
def aat(t:TypeId)(u v:Value):Sem Next:=do pure (.value (<-Instr.index t u v))
theorem WM{t ty}{i j:Nat}{u v}(h:i≠j):bZ (.index t (.tmp i) (.tmp j)) ty [(i,u),(j,v)]=aat t u v:=by
 have h':(i==j)=false:=by simpa using h
 simp[bZ,execOp,lW,h',aat]
theorem ix7{f:Nat->Bool}{k:Nat}(hk:k<7){A}:aM prog (aat 159 (.agg #[.bool (f 0),.bool (f 1),.bool (f 2),.bool (f 3),.bool (f 4),.bool (f 5),.bool (f 6)]) (an (k:Int))) A (.bool (f k)):=λw R h F s _=>by
 obtain⟨i,hi,z1,z2,z3⟩:=info_parts L0
 have hg:(#[.bool (f 0),.bool (f 1),.bool (f 2),.bool (f 3),.bool (f 4),.bool (f 5),.bool (f 6)]:dI)[k]? =some (.bool (f k)):=by
  have:=qM f hk;simpa[Q8,List.range,List.range.loop]using this
 have hsz:(sizeOf 4).run prog w=.ok 1 w:=by rw[RX.run_sizeOf hi,iA,hi];simp only[z2]
 have e:(Instr.index 159 (.agg #[.bool (f 0),.bool (f 1),.bool (f 2),.bool (f 3),.bool (f 4),.bool (f 5),.bool (f 6)]) (an (k:Int))).run prog w=.ok (.bool (f k)) w:=by
  unfold Instr.index;simp only[asIntOf,Sem.run_bind,Sem.run_pure,Result.andThen_ok,RX.run_underlying uf];rw[aB (show(0:Int)<=(k:Int)/\(k:Int)<((7:Nat):Int) by omega)];simp only[Int.toNat_natCast,Sem.run_bind,hsz,Result.andThen_ok,part,RX.iB IP,IQ,Bool.false_eq_true,if_false,Nat.mul_one,hg,Sem.run_pure]
 unfold aat;rw[Sem.run_bind,e];rfl
def iJ(g:cg):List Int:=((List.range 7).filter g.there).map λ(k:Nat)=>(k:Int)
def qj(g:cg):ax:=if(iQ g.old (iJ g)).2=0 then YI (iQ g.old (iJ g)).1 else[]
def wX(g:cg):cg:={g with own:=qj g,st:=2,prop:=some (o9 g.cL 1 g.cS (qj g))}
theorem zA{p}{tl}(hr:dw p=true)(h:(iQ p tl).2=0):dw (iQ p tl).1=true/\iQ p tl=(⟨p.ep+1,p.ch.map (gT tl)⟩,0):=by
 have r:=nH hr;unfold iQ at h⊢;rw[hr]at h⊢;split at h
 ·exact absurd h (by decide)
 rename_i h1;split at h
 ·exact absurd h (by decide)
 rename_i h2;rw[aq h1,aq h2];refine⟨?_,rfl⟩;have hep:p.ep≠2147483647:=λe=>h1 (.inr e)
 have BH:(p.ch.map (gT tl)).flatten=p.ch.flatten.filter λx=>decide (x∈tl):=by
  rw[List.filter_flatten];rfl
 unfold dw;rw[decide_eq_true];have q0:=r.ep0;have q1:=r.ep1;refine⟨show 0<=p.ep+1 by omega,show p.ep+1<=2147483647 by omega,by show 1<=(p.ch.map (gT tl)).length;rw[List.length_map];exact r.ah2,by show(p.ch.map (gT tl)).length<=7;rw[List.length_map];exact r.L8,λc hc e=>h2 ?_,λu hu=>?_,?_⟩
 ·exact List.any_eq_true.2 ⟨c,hc,decide_eq_true e⟩
 ·have hu:u∈(p.ch.map (gT tl)).flatten:=hu;rw[BH]at hu;exact r.rg u (List.mem_filter.1 hu).1
 ·show((p.ch.map (gT tl)).flatten).Nodup;rw[BH];exact r.nd.sublist List.filter_sublist
theorem JY{g}(hr:dw g.old=true):(qj g).length<=200:=by
 unfold qj;split
 ·exact ZR (nH (zA hr (by assumption)).1)
 ·simp
section
variable {b:Nat}{g:cg}{r:Gc}
theorem anJ:aM prog (bO 159 (.pointer (some ⟨b,12,none⟩))) (aO b g r) (.agg #[.bool (g.there 0),.bool (g.there 1),.bool (g.there 2),.bool (g.there 3),.bool (g.there 4),.bool (g.there 5),.bool (g.there 6)]):=by
 refine aM.aT (.of λR h H=>H.2) (aeb (Q:=aj (uj r.pv g.prop) (wE g r)) (vs:=Q8 g.there) uf (by kernel_rfl) (by rw[eM];kernel_rfl) (by rw[eM];decide) λj v hj=>?_);have hj7:j<7:=by have:=(List.getElem?_eq_some_iff.1 hj).1;rwa [eM]at this
 rw[qM _ hj7]at hj;rw[<-hj];exact Mg g r hj7
theorem ai4{l}{a:aG}{c}(hb:l.length<=1000000):aR prog (cv 37 (.pointer (some ⟨b,19,none⟩)) (.slice a l.length c)) (aj (aO b g r) (bE a l.length l)) (λv=>aA (v=cE) (aO b {g with own:=l} {r with wa:=a,wc:=c})):=by
 obtain⟨i,hi,z1,z2,z3⟩:=info_parts (show(prog.info? 37).map (λi=>(i.zero,i.size,i.bytes))=some (some (.slice none 0 0),1,24) by kernel_rfl);refine aSt (b:=b) (g:=g) (r:=r) (k:=19) (x:=.slice a l.length c) hi z2 (by decide) rfl rfl (g':={g with own:=l}) (r':={r with wa:=a,wc:=c}) rfl (λh=>⟨h.o,h.p,h.ob,h.pb,hb⟩) _ λR h hok H=>?_;have hl:(bE a l.length l).p R h:=ah H;have hro:(wE g r).p R h:=ah (ai H);exact ae (ai H) (λ_ h=>h) λy hy=>⟨hy.1,hl,hy.2.2⟩
theorem aau{s}{pb}:aR prog (cv 160 (.pointer (some ⟨b,20,none⟩)) (pt pb)) (aj (aO b g r) (eY pb s)) (λv=>aA (v=cE) (aO b {g with prop:=some s} {r with pv:=some ⟨pb,0,none⟩})):=by
 obtain⟨i,hi,z1,z2,z3⟩:=info_parts (show(prog.info? 160).map (λi=>(i.zero,i.size,i.bytes))=some (some (.pointer none),1,8) by kernel_rfl);refine aSt (b:=b) (g:=g) (r:=r) (k:=20) (x:=pt pb) hi z2 (by decide) rfl rfl (g':={g with prop:=some s}) (r':={r with pv:=some ⟨pb,0,none⟩}) rfl (λh=>⟨h.o,h.p,h.ob,h.pb,h.wb⟩) _ λR h hok H=>?_;have hro:(wE g r).p R h:=ah (ai H);exact ae (ak H) (λy hy=>⟨pb,rfl,hy⟩) λy _=>wE.iF y hro
theorem anK(hok:KU g r):(⟨g.old.ep,r.mm.map (·.l)⟩:rx)=g.old:=by rw[hok.o]
set_option maxHeartbeats 1000000 in
theorem MN(hr:dw g.old=true)(hu:g.cL<=10000):az prog 145 #[pt b] (aO b g r) (λv=>aA (v=cE) (jD b (wX g))):=by
 refine az.cM (φ:=KU g r) (λR h H=>H.1) λhok=>?_;refine ao (ρ:=[.n b,.p (aO b g r)]) {fk:=[160],aF:=kj,dN:=true,dv:=true,ck:=[160]} BN ui 2 ?_
 try simp only[WM,ne_eq,Nat.reduceEqDiff,not_false_eq_true]
 refine⟨_,_,_,_,_,_,_,anJ,?_⟩;refine⟨λa n c P i=>∃u:Nat,i=u/\u<=7/\n=((List.range u).filter g.there).length/\HP.aT P (kv a n c (((List.range u).filter g.there).map λ(k:Nat)=>(k:Int))),λ_ _ _ _ i=>7 - i.toNat,⟨0,rfl,Nat.zero_le _,rfl,.of λR h _=>bY.nil _ _ R h⟩,?_⟩;rintro a _ c P _ ⟨u,rfl,hu7,rfl,hP⟩;refine⟨λhlt=>?_,λlH=>?_⟩
 ·have hu:u<7:=by omega
  have BH:((List.range u).filter g.there).length<=7:=by
   have:=List.length_filter_le g.there (List.range u);rw[List.length_range]at this;omega
  refine⟨g.there u,ix7 (f:=g.there) hu,λht x=>?_,λht=>⟨bh _ (by omega) (by omega),λ_=>⟨⟨u+1,by omega,by omega,?_,?_⟩,by dsimp only;omega⟩⟩⟩
  ·refine(vQ a _ c _ (HP.one x (.cells #[an (u:Int)] 3 (0,0))) ⟨x,0,none⟩ 1 1 [(u:Int)] (eQ x #[an (u:Int)] 3) rfl (by omega)).bv (K:=tt) ((hP.aj _).trans (.of λR h H=>aD H)) λv=>.of λR h H=>?_;obtain⟨a',c',rfl,H'⟩:=ai H;refine⟨a',_,c',_,rfl,⟨bh _ (by omega) (by omega),λ_=>⟨⟨u+1,by omega,by omega,?_,?_⟩,by dsimp only;omega⟩⟩,H'⟩
   ·rw[tD,aB ht]
   ·rw[List.range_succ,List.filter_append,List.map_append];simp only[List.filter_cons,ht,if_true,List.filter_nil,List.map_cons,List.map_nil];exact .refl _
  ·rw[tD,aq ht];rfl
  ·rw[List.range_succ,List.filter_append];simp only[List.filter_cons,ht,Bool.false_eq_true,if_false,List.filter_nil,List.append_nil];exact hP
 obtain rfl:u=7:=by omega
 have BH:(iJ g).length<=7:=by
  unfold iJ;rw[List.length_map];have:=List.length_filter_le g.there (List.range 7)
  rwa [List.length_range]at this
 have htl:((List.range 7).filter g.there).length=(iJ g).length:=by unfold iJ;rw[List.length_map]
 rw[htl]at hP⊢;refine(ai4 (b:=b) (g:=g) (r:=r) (l:=[]) (a:=none) (c:=0) (by simp)).aK (λR h H=>j6 (rZ none:(bE none 0 []).p R h) H) ?_;rintro v R h ⟨rfl,H⟩;refine⟨_,rfl,?_,H⟩;clear H;refine⟨g.old.ep,r.oa,r.mm.length,r.oc,acr rfl rfl,?_⟩;have ash:KU {g with own:=[]} {r with wa:=none,wc:=0}:=⟨hok.o,hok.p,hok.ob,hok.pb,by simp⟩;refine((Ra (aO b {g with own:=[]} {r with wa:=none,wc:=0}) (kv a (iJ g).length c (iJ g)) g.old.ep r.oa r.mm.length r.oc r.mm (λR h H=>(aO.ro H).1) hok.ob.2 a (iJ g).length c (iJ g) (ow _ _ _ _ _ _) rfl (by omega)).bv (K:=tt) (((HP.aT.refl _).gX hP).trans (.of λR h H=>aD H)) λv=>.of λR h H=>ai H).wk ?_;rw[anK hok];rintro v R h ⟨a1,c1,G8,⟨rfl,he1,hb1⟩,H⟩;refine⟨(iQ g.old (iJ g)).1.ep,a1,G8.length,c1,Ls ip a1 G8.length G8,(iQ g.old (iJ g)).2,_,_,rfl,λ_=>⟨λh0=>?_,λh0=>?_⟩,H⟩
 ·clear H;obtain⟨hnr,hne⟩:=zA hr h0;have hnR:=nH hnr;have xM:(⟨(iQ g.old (iJ g)).1.ep,G8.map (·.l)⟩:rx)=(iQ g.old (iJ g)).1:=by rw[he1]
  have hown:qj g=YI (iQ g.old (iJ g)).1:=aB h0
  have hl1:G8.length<=7:=by
   have:=hnR.L8;rw[<-he1,List.length_map]at this;exact this
  refine((VA (iQ g.old (iJ g)).1.ep (Ls ip a1 G8.length G8) a1 G8.length c1 G8 (λ_ _ h=>h) hnR.ep0 (by have:=hnR.ep1;omega) (by omega) hb1)).wk ?_;rw[xM,<-hown];rintro v R h ⟨a2,c2,rfl,H⟩;refine⟨a2,_,c2,dS a2 (qj g).length c2 (qj g),_,rfl,?_,ak H⟩;clear H;refine(ai4 (b:=b) (g:={g with own:=[]}) (r:={r with wa:=none,wc:=0}) (l:=qj g) (a:=a2) (c:=c2) (by have:=JY hr;omega)).bv (K:=tt) ((HP.aT.gX (.refl _) (bY.eP _ _ _ _ _ _)).trans (.of λR h H=>aD H)) λv=>.of λR h H=>?_;obtain⟨rfl,H1⟩:=ai H;refine⟨_,rfl,?_,H1⟩;clear H H1;refine(ZU (k:=4) (x:=2) (by decide) (g:={g with own:=qj g}) (g':={g with own:=qj g,st:=2}) (r:={r with wa:=a2,wc:=c2}) rfl rfl rfl rfl rfl).wk ?_;rintro v R h ⟨rfl,H⟩;refine⟨aO b {g with own:=qj g,st:=2} {r with wa:=a2,wc:=c2},rfl,⟨g.cL,sj rfl,g.cS,sj rfl,a2,(qj g).length,c2,ZT,?_⟩,H⟩;clear H;refine(tC g.cL 1 g.cS hu (aO b {g with own:=qj g,st:=2} {r with wa:=a2,wc:=c2}) a2 (qj g).length c2 (qj g) ⟨tN (bN.rd _ _ _ _) λR h H=>(aO.ro H).2.1,λR h H e=>(bX.ro _ _ _ _).none R h (aO.ro H).2.1 e⟩ rfl (by have:=JY hr;omega)).wk ?_;rintro v R h ⟨pb,rfl,H⟩;refine⟨pt pb,eY pb (o9 g.cL 1 g.cS (qj g)),_,rfl,?_,ak H⟩;clear H;refine(aau (b:=b) (g:={g with own:=qj g,st:=2}) (r:={r with wa:=a2,wc:=c2})).wk ?_;rintro v R h ⟨rfl,H⟩;exact⟨_,rfl,.of λR h H=>⟨trivial,_,H⟩,H⟩
 ·clear H;have hown:qj g=[]:=aq h0;refine(ZU (k:=4) (x:=2) (by decide) (g:={g with own:=[]}) (g':={g with own:=[],st:=2}) (r:={r with wa:=none,wc:=0}) rfl rfl rfl rfl rfl).wk ?_;rintro v R h ⟨rfl,H⟩;refine⟨aO b {g with own:=[],st:=2} {r with wa:=none,wc:=0},rfl,⟨g.cL,sj rfl,g.cS,sj rfl,none,0,0,ZT,?_⟩,H⟩;clear H;refine(tC g.cL 1 g.cS hu (aO b {g with own:=[],st:=2} {r with wa:=none,wc:=0}) none 0 0 [] ⟨tN (bN.rd _ _ _ _) λR h H=>(aO.ro H).2.1,λR h H e=>rfl⟩ rfl (by omega)).wk ?_;rintro v R h ⟨pb,rfl,H⟩;refine⟨pt pb,eY pb (o9 g.cL 1 g.cS []),_,rfl,?_,ak H⟩;clear H;refine(aau (b:=b) (g:={g with own:=[],st:=2}) (r:={r with wa:=none,wc:=0})).wk ?_;rintro v R h ⟨rfl,H⟩;exact⟨_,rfl,.of λR h H=>⟨trivial,_,by unfold wX;rw[hown];exact H⟩,H⟩
def wY(g:cg)(f:Nat)(e:Int):cg:=
 if dF {g with bV:=fh g.bV f true,there:=fh g.there f (decide (e=0))}=[]then wX {g with bV:=fh g.bV f true,there:=fh g.there f (decide (e=0))}else{g with bV:=fh g.bV f true,there:=fh g.there f (decide (e=0))}
end
section
variable {b:Nat}{g:cg}{r:Gc}
theorem MO{k}(hk:k<7){x}:aR prog (cv 4 (.pointer (some ⟨b,5+k,none⟩)) (.bool x)) (aO b g r) (λv=>aA (v=cE) (aO b {g with bV:=fh g.bV k x} r)):=
 aih (g:=g) (r:=r) (by omega) (Gd g r hk x) rfl rfl rfl rfl
theorem WN{k}(hk:k<7){x}:aR prog (cv 4 (.pointer (some ⟨b,12+k,none⟩)) (.bool x)) (aO b g r) (λv=>aA (v=cE) (aO b {g with there:=fh g.there k x} r)):=
 aih (g:=g) (r:=r) (by omega) (BQ g r hk x) rfl rfl rfl rfl
theorem ut{x}:aR prog (cv 3 (.pointer (some ⟨b,4,none⟩)) (an x)) (aO b g r) (λv=>aA (v=cE) (aO b {g with st:=x} r)):=
 ZU (g:=g) (r:=r) (k:=4) (by decide) rfl rfl rfl rfl rfl
theorem aav{x}:aR prog (cv 3 (.pointer (some ⟨b,23,none⟩)) (an x)) (aO b g r) (λv=>aA (v=cE) (aO b {g with tail:=x} r)):=
 ZU (g:=g) (r:=r) (k:=23) (by decide) rfl rfl rfl rfl rfl
theorem MP(m:MS) ca cc(va:aG)(vc:Nat)(f:Nat)(hf:m.fr=f)(R7:f<7)(hs:ri g)(hr:dw g.old=true)(hu:g.cL<=10000)(D V0:HP):
 az prog 81 #[pt b,.agg (m.ee ca cc va vc).aJ] (aj (aO b g r) (aj D V0)) (λv=>aA (v=cE) (jD b (wY g f m.err))):=by
 refine ao (ρ:=[.n b,.p (aO b g r),.i m.fr,.i m.to,.i m.num,.c m.bV,.i m.kind,.i m.ep,.i m.at',.i m.cell.what,.a ca,.n m.cell.data.length,.n cc,.p D,.i m.br,.i m.bw,.a va,.n m.val.length,.n vc,.p V0,.i m.err,.i m.tail,.i m.low,.i m.back]) {fk:=[160],aF:=kj,dN:=true,dv:=true,ck:=[160]} Gb O1 24 ?_
 try simp only[p7,ne_eq,Nat.reduceEqDiff,not_false_eq_true]
 intro _;refine⟨.pointer (some ⟨b,5+f,none⟩),Bx uf zj zN hf R7,?_⟩;refine(MO R7).wk ?_;rintro v R h ⟨rfl,H⟩;refine⟨aO b {g with bV:=fh g.bV f true} r,rfl,⟨.pointer (some ⟨b,12+f,none⟩),Bx uf zj zN hf R7,?_⟩,H⟩;clear H;refine(WN (g:={g with bV:=fh g.bV f true}) R7).wk ?_;rintro v R h ⟨rfl,H⟩;refine⟨aO b {g with bV:=fh g.bV f true,there:=fh g.there f (decide (m.err=0))} r,rfl,?_,H⟩;clear H;refine(BT (g:={g with bV:=fh g.bV f true,there:=fh g.there f (decide (m.err=0))}) ⟨hs.e0,hs.e1,hs.p2,hs.vl⟩).wk ?_;rintro v R h ⟨rfl,H⟩;refine⟨_,rfl,⟨λh1=>?_,λh1=>.of λR h H=>⟨trivial,?_⟩⟩,H⟩
 ·clear H;have mK:=of_decide_eq_true h1;refine(MN (g:={g with bV:=fh g.bV f true,there:=fh g.there f (decide (m.err=0))}) hr hu).wk ?_;rintro v R h ⟨rfl,H⟩;refine⟨_,rfl,.of λR h H=>⟨trivial,?_⟩,H⟩;unfold wY;rw[aB mK];exact ai H
 ·have mK:¬dF {g with bV:=fh g.bV f true,there:=fh g.there f (decide (m.err=0))}=[]:=λe=>h1 (decide_eq_true e);unfold wY;rw[aq mK];exact⟨r,ai H⟩
def rj(g:cg)(m:MS)(f:Nat):cg:=
 if m.err=0 then(if dF {g with tail:=max (max g.tail m.tail) m.low,bV:=fh g.bV f true}=[]then{g with tail:=max (max g.tail m.tail) m.low,bV:=fh g.bV f true,st:=4}else{g with tail:=max (max g.tail m.tail) m.low,bV:=fh g.bV f true})
 else if m.err≠8\/m.back<=g.old.ep+1 then{g with st:=6}
 else(if dF {g with bV:=fh g.bV f true}=[]then{g with bV:=fh g.bV f true,st:=4}else{g with bV:=fh g.bV f true})
def aaw(ty:TypeId)(ts:Array TypeId)(u v x:Value):Sem Next:=do pure (.value (<-Builtin.max_ ts ty #[u,v,x]))
theorem WO{ty}{ts}{i j k:Nat}{u v x}(h1:i≠j)(h2:i≠k)(h3:j≠k):bZ (.call ⟨.builtin .max,#[.tmp i,.tmp j,.tmp k],ts⟩) ty [(i,u),(j,v),(k,x)]=aaw ty ts u v x:=by
 have e1:(i==j)=false:=by simpa using h1
 have e2:(i==k)=false:=by simpa using h2
 have e3:(j==k)=false:=by simpa using h3
 simp[bZ,execOp,resolve,lW,invoke,builtin,e1,e2,e3,aaw]
theorem aeZ{ty}{ts}{x y z}{A}:aM prog (aaw ty ts (an x) (an y) (an z)) A (an (max (max x y) z)):=λw R h F s _=>by
 have e:(if z>(if y>x then y else x)then z else(if y>x then y else x))=max (max x y) z:=by
  split<;>split at* <;>omega
 unfold aaw;rw[Sem.run_bind,run_max_int3,e];rfl
set_option maxHeartbeats 1000000 in
theorem WP(m:MS) ca(cc:Nat)(va:aG)(vc:Nat)(f:Nat)(hf:m.fr=f)(R7:f<7)(hs:ri g)(D V0:HP):
 az prog 83 #[pt b,.agg (m.ee ca cc va vc).aJ] (aj (aO b g r) (aj D V0)) (λv=>aA (v=cE) (jD b (rj g m f))):=by
 refine ao (ρ:=[.n b,.p (aO b g r),.i m.fr,.i m.to,.i m.num,.c m.bV,.i m.kind,.i m.ep,.i m.at',.i m.cell.what,.a ca,.n m.cell.data.length,.n cc,.p D,.i m.br,.i m.bw,.a va,.n m.val.length,.n vc,.p V0,.i m.err,.i m.tail,.i m.low,.i m.back]) {fk:=[160],aF:=kj,dN:=true,dv:=true,ck:=[160],jn:=[((21,25),some {ss:=[.c],n:=26,tv:=[(21,none),(22,none),(23,none),(24,none),(25,none),(26,none),(27,none),(28,none),(29,none),(30,none),(20,some (.bool 25))],h:=[((.b 24),(.cells [2,3,4,(.bool 5),6,7,8,9,(.s 10),14,15,(.s 16),20,21,22,23] 64)),(.b 0,1),(10,13),(16,19)],lk:=[]})]} Gb O1 24 ?_
 try simp only[p7,WO,ne_eq,Nat.reduceEqDiff,not_false_eq_true]
 intro _;refine⟨λh0=>⟨g.tail,sj rfl,max (max g.tail m.tail) m.low,aeZ,?_⟩,λh0=>?_⟩
 ·refine(aav (b:=b) (g:=g) (r:=r)).wk ?_;rintro v R h ⟨rfl,H⟩;refine⟨aO b {g with tail:=max (max g.tail m.tail) m.low} r,rfl,⟨.pointer (some ⟨b,5+f,none⟩),Bx uf zj zN hf R7,?_⟩,H⟩;clear H;refine(MO (g:={g with tail:=max (max g.tail m.tail) m.low}) R7).wk ?_;rintro v R h ⟨rfl,H⟩;refine⟨aO b {g with tail:=max (max g.tail m.tail) m.low,bV:=fh g.bV f true} r,rfl,?_,H⟩;clear H;refine(BT (g:={g with tail:=max (max g.tail m.tail) m.low,bV:=fh g.bV f true}) ⟨hs.e0,hs.e1,hs.p2,hs.vl⟩).wk ?_;rintro v R h ⟨rfl,H⟩;refine⟨_,rfl,⟨λh1=>?_,λh1=>.of λR h H=>⟨trivial,?_⟩⟩,H⟩
  ·clear H;refine(ut (b:=b) (g:={g with tail:=max (max g.tail m.tail) m.low,bV:=fh g.bV f true}) (r:=r)).wk ?_;rintro v R h ⟨rfl,H⟩;refine⟨_,rfl,.of λR h H=>⟨trivial,r,?_⟩,H⟩;unfold rj;rw[aB h0,aB (of_decide_eq_true h1)];exact ai H
  ·unfold rj;rw[aB h0,aq (λe=>h1 (decide_eq_true e))];exact⟨r,ai H⟩
 ·have rest:¬(m.err≠8\/m.back<=g.old.ep+1)->rj g m f=(if dF {g with bV:=fh g.bV f true}=[]then{g with bV:=fh g.bV f true,st:=4}else{g with bV:=fh g.bV f true}):=λh=>by unfold rj;rw[aq h0,aq h]
  refine⟨λc=>c=decide (m.err≠8\/m.back<=g.old.ep+1),⟨λh8=>?_,λh8=>?_⟩,?_⟩
  ·exact(decide_eq_true (.inl h8)).symm
  ·refine(np hs.e0 hs.e1).wk ?_;rintro v R h ⟨rfl,H⟩;refine⟨_,rfl,?_,H⟩;show decide (m.back<=g.old.ep+1)=_;have:m.err=8:=h8
   by_cases hb:m.back<=g.old.ep+1
   ·rw[decide_eq_true hb,decide_eq_true (.inr hb)]
   ·rw[decide_eq_false hb,decide_eq_false (λh=>h.elim (λh=>h this) hb)]
  ·rintro _ rfl;refine⟨λh1=>?_,λh1=>?_⟩
   ·refine(ut (b:=b) (g:=g) (r:=r)).wk ?_;rintro v R h ⟨rfl,H⟩;refine⟨_,rfl,.of λR h H=>⟨trivial,r,?_⟩,H⟩;unfold rj;rw[aq h0,aB (of_decide_eq_true h1)];exact ai H
   ·have iY:=rest (λh=>h1 (decide_eq_true h));refine⟨.pointer (some ⟨b,5+f,none⟩),Bx uf zj zN hf R7,?_⟩;refine(MO (g:=g) R7).wk ?_;rintro v R h ⟨rfl,H⟩;refine⟨aO b {g with bV:=fh g.bV f true} r,rfl,?_,H⟩;clear H;refine(BT (g:={g with bV:=fh g.bV f true}) ⟨hs.e0,hs.e1,hs.p2,hs.vl⟩).wk ?_;rintro v R h ⟨rfl,H⟩;refine⟨_,rfl,⟨λh1=>?_,λh1=>.of λR h H=>⟨trivial,?_⟩⟩,H⟩
    ·clear H;refine(ut (b:=b) (g:={g with bV:=fh g.bV f true}) (r:=r)).wk ?_;rintro v R h ⟨rfl,H⟩;refine⟨_,rfl,.of λR h H=>⟨trivial,r,?_⟩,H⟩;rw[iY,aB (of_decide_eq_true h1)];exact ai H
    ·rw[iY,aq (λe=>h1 (decide_eq_true e))];exact⟨r,ai H⟩
end
theorem EA lf w cS(hr:lf+1<=9223372036854775807/\0<=lf):az prog 150 #[.agg #[an lf,an w],an cS] tt (λv=>HP.pure (v=.agg #[an (lf+1),an cS])):=by
 refine ao (ρ:=[.i lf,.i w,.i cS]) {fk:=[160],aF:=kj,dN:=true,dv:=true,ck:=[160]} [(.agg [0,1]),2] [] 3 ?_;exact λ_ _=>⟨bh _ (by omega) (by omega),λ_=>.of λR h H=>trivial⟩
theorem MQ S a n c l(hr:bX S a n (l.map eX))(hl:l.length=n)(hb:n<=140737488355328):
 az prog 98 #[.slice a n c] S (λv=>aE λa'=>aE λc'=>aA (v=.slice a' n c'/\n<=c') (aj (bE a' n l) S)):=
 (iC S a n c l hr hl hb).post λv=>λR h d ⟨a',c',e,H⟩=>by
   have hle:=bY.le (ai H);obtain⟨R1,h1,q1,q2,q3,q4,H1⟩:=(HP.aT.aj (bY.eP _ _ _ _ _ _) S) R h d H;exact⟨R1,h1,q1,q2,q3,q4,a',c',⟨e,hle⟩,H1⟩
theorem MT b g:az prog 153 #[pt b] (eY b g) (λv=>aE λa=>aE λc=>aA (v=.slice a g.val.length c/\g.val.length<=c) (aj (bE a g.val.length g.val) (eY b g))):=by
 refine(eY.qD (K:=tt) λva vc mp hB=>?_).aK (λR h H=>aD H) λ_ _ _ h=>h;refine ao (ρ:=[.n b,.i g.acc,.i g.lf,.i g.cS,.a va,.n g.val.length,.n vc,.p (bE va g.val.length g.val),.i g.phase,.n mp,.p (aj (jB mp g.bH) tt),.i g.dk]) {aF:=nI} BK zl 12 ?_;refine(MQ (bE va g.val.length g.val) va g.val.length vc g.val (bX.ro _ _ _ _) rfl hB.2.2.2.2).wk ?_;rintro v R h ⟨a,c,⟨rfl,hc⟩,H⟩;refine⟨a,_,c,bE a g.val.length g.val,rfl,.of λR h H=>⟨a,c,⟨rfl,hc⟩,?_⟩,H⟩;have H2:=HP.pick [_,_,_,_] [3,0,1,2] (by decide) rfl H;exact ae H2 (λ_ h=>h) λy hy=>⟨va,vc,mp,hB,ae hy (λ_ h=>h) λz hz=>ae hz (λ_ h=>h) λw hw=>ai hw⟩
theorem Cj{l}(h:(dZ l).2=0):dw (dZ l).1=true:=by
 unfold dZ at h⊢;split at h
 ·exact absurd h (by decide)
 ·rename_i i hu;split at h
  ·exact absurd h (by decide)
  ·rename_i hn;rw[aq hn];cases hq:dw (yb i).1 with
   |true=>rfl
   |false=>exact absurd (.inr (.inr hq)) hn
def n8(g:cg)(s':lq):cg:=
 if s'.phase=4 then{g with prop:=some (o9 g.cL (s'.lf+1) g.cS g.own)}
 else if s'.phase=3 then(if(dZ s'.val).2≠0\/(dZ s'.val).1.ep≠g.old.ep+1 then{g with prop:=some s',st:=6}else{g with prop:=some s',aQ:=(dZ s'.val).1,st:=3,bV:=λ_=>false})
 else{g with prop:=some s'}
def uu(s:lq)(m:MS)(s':lq):Prop:=if m.kind=6 then rh s m.fr m.br m.bw m.val m.err s' else s'=Dw s m.fr m.err
structure Ck(s:lq):Prop where
 RP:s.bH.length<=100000
 av:∀x∈s.bH,x.2.val.length<=100000000
 val:s.val.length<=100000000
 lf:0<=s.lf/\s.lf<=1000000000
theorem R8 s f x:(dJ s f x).1.bH=s.bH++[(f,x)]/\(dJ s f x).1.lf=s.lf:=by
 unfold dJ;split
 ·exact⟨rfl,rfl⟩
 ·split<;>exact⟨rfl,rfl⟩
theorem si.le'{L}{v0 v}{B}(h:si (dW L 0) v0 v)(h0:v0.length<=B)(hL:∀x∈L,x.2.val.length<=B):v.length<=B:=by
 have aux:∀(L:List (Int×BA)) (i k:Int) (x:uh),dW L i k=some x->∃y∈L,y.2.val=x.val:=λL=>by
  induction L with
  |nil=>intro i k x h;cases h
  |cons y L ih=>
   intro i k x h;simp only[dW]at h;split at h
   ·cases h;exact⟨y,by simp,rfl⟩
   ·obtain⟨z,hz,e⟩:=ih (i+1) k x h;exact⟨z,List.mem_cons_of_mem _ hz,e⟩
 rcases h with⟨_,rfl⟩|⟨k,x,hx,_,rfl,_⟩
 ·exact h0
 ·obtain⟨y,hy,e⟩:=aux L 0 k x hx;rw[<-e];exact hL y hy
theorem Ck.step{s s'}{m}(h:Ck s)(hm:m.val.length<=100000000)(hf:s.bH.length<=99999)(hp:uu s m s'):Ck s':=by
 have tk:∀(x:BA),x.val.length<=100000000->Ck (dJ s m.fr x).1:=λx hx=>by
  obtain⟨e1,e2⟩:=R8 s m.fr x;refine⟨by rw[e1];simp;omega,λy hy=>?_,by rw[tB];exact h.val,by rw[e2];exact h.lf⟩;rw[e1]at hy;rcases List.mem_append.1 hy with hy|hy
  ·exact h.av y hy
  ·obtain rfl:=List.mem_singleton.1 hy;exact hx
 unfold uu at hp;split at hp
 ·unfold rh at hp;split at hp
  ·have hx:(nJ m.br m.bw m.val m.err).val.length<=100000000:=by unfold nJ;split<;>simp[hm]
   have ht:=tk _ hx;split at hp
   ·obtain⟨val,hch,rfl⟩:=hp;refine⟨by simp,(λx hx=>by cases hx),hch.le' h.val ht.av,ht.lf⟩
   ·subst hp;exact ht
  ·subst hp;exact h
 ·subst hp;unfold Dw;split
  ·have ht:=tk ⟨decide (m.err=0),0,0,[]⟩ (by simp);split
   ·exact⟨ht.RP,ht.av,ht.val,ht.lf⟩
   ·exact ht
  ·exact h
section
variable {b:Nat}{g:cg}{r:Gc}
theorem Cl{s}(hp:g.prop=some s):az prog 153 #[eD (.pointer r.pv)] (aO b g r) (λv=>aE λa=>aE λc=>aA (v=.slice a s.val.length c/\s.val.length<=c) (aj (bE a s.val.length s.val) (aO b g r))):=
 (BS (args:=λp=> #[p]) (B:=λv=>aE λa=>aE λc=>aA (v=.slice a s.val.length c/\s.val.length<=c) (bE a s.val.length s.val)) (K:=tt) hp λpb=>(MT pb s).aK (λR h H=>ai H) λv R h ⟨a,c,e,H⟩=>ae H (λ_ h=>⟨a,c,e,h⟩) λ_ h=>h).aK (λR h H=>aD H) λv R h ⟨h1,h2,d,l1,l2,⟨a,c,e,H1⟩,H2⟩=>⟨a,c,e,h1,h2,d,l1,l2,H1,H2⟩
theorem JZ{f}{args:Value->dI}{s}{φ:Value->lq->Prop}{K}(hp:g.prop=some s)(t:∀pb,az prog f (args (pt pb)) (aj (eY pb s) K) (λv=>aE λs'=>aA (φ v s') (eY pb s'))):
 az prog f (args (eD (.pointer r.pv))) (aj (aO b g r) K) (λv=>aE λs'=>aA (φ v s') (aO b {g with prop:=some s'} r)):=by
 refine(az.ex (A:=λpb=>aA (r.pv=some ⟨pb,0,none⟩/\KU g r) (aj (aj (eY pb s) K) (aj (zS b g r) (wE g r)))) λpb=>az.pure λ⟨e,hok⟩=>?_).aK (λR h H=>?_) λ_ _ _ h=>h
 ·rw[e];refine((t pb).frame (aj (zS b g r) (wE g r))).wk λv R h ⟨h1,h2,d,l1,l2,⟨s',hf,H1⟩,H2⟩=>⟨s',hf,⟨hok.o,hok.p,hok.ob,hok.pb,hok.wb⟩,?_⟩;have H3:(aj (eY pb s') (aj (zS b g r) (wE g r))).p R h:=⟨h1,h2,d,l1,l2,H1,H2⟩;refine ae (HP.pick [eY pb s',zS b g r,wE g r] [1,0,2] (by decide) rfl H3) (λ_ h=>h) λz hz=>ae hz (λw hw=>?_) λ_ h=>h;rw[e];exact⟨pb,rfl,hw⟩
 ·obtain⟨h1,h2,d,l1,l2,⟨hok,H⟩,HK⟩:=H;rw[hp]at H;obtain⟨h3,h4,d2,l3,l4,HO,h5,h6,d3,l5,l6,⟨pb,e,HB⟩,HR⟩:=H;refine⟨pb,⟨e,hok⟩,?_⟩;have H9:(aj (aj (zS b g r) (aj (eY pb s) (wE g r))) K).p R h:=⟨h1,h2,d,l1,l2,⟨h3,h4,d2,l3,l4,HO,h5,h6,d3,l5,l6,HB,HR⟩,HK⟩;have H10:=ae (au H9) (λ_ h=>h) λy hy=>au hy;exact aC (HP.pick [zS b g r,eY pb s,wE g r,K] [1,3,0,2] (by decide) rfl H10)
theorem acM{p}{a:aG}{c}{es}(hr:dw p=true)(he:es.map (·.l)=p.ch):aR prog (cv 34 (.pointer (some ⟨b,21,none⟩)) (.agg #[an p.ep,.slice a es.length c])) (aj (aO b g r) (Ls ip a es.length es))
 (λv=>aA (v=cE) (aj (aO b {g with aQ:=p} {r with pa:=a,pc:=c,iG:=es}) (Ls ip a es.length es))):=by
 refine aR.cM (φ:=KU g r) (λR h H=>(ai H).1) λhok=>?_;obtain⟨i,hi,hz⟩:=Option.map_eq_some_iff.1 (show(prog.info? 34).map (λi=>i.size)=some 2 by kernel_rfl);have hR:=nH hr
 refine(aec (e:=162) (b:=b) (k:=21) (cs:=(jC g r).toArray) (cs':=(jC {g with aQ:=p} {r with pa:=a,pc:=c,iG:=es}).toArray) (vs:=[an p.ep,.slice a es.length c]) hi rfl hz (by simp) (λv hv=>by
  rcases List.mem_cons.1 hv with h|h
  ·subst h;rfl
  ·obtain rfl:=List.mem_singleton.1 h;rfl) (by simp[BP]) rfl (aj (aj (uj r.pv g.prop) (wE g r)) (Ls ip a es.length es))).aK (λR h H=>au (ae H (λ_ h=>h.2) λ_ h=>h)) ?_
 rintro v R h ⟨e,H⟩;refine⟨e,?_⟩;have hl:(Ls ip a es.length es).p R h:=ah (ah H);have hro:(wE g r).p R h:=ah (ai (ah H));refine ak ⟨PH.cV,h,PH.eL _,PH.dB _,PH.le.refl _,Ls.iF _ hl,⟨hok.o,he,hok.ob,⟨?_,λx hx=>?_⟩,hok.wb⟩,ae H (λ_ h=>h) λy hy=>ae (ai hy) (λ_ h=>h) λz _=>⟨Ls.iF z hro.1,hro.2.1,Ls.iF z hl⟩⟩
 ·have:=hR.L8;rw[<-he,List.length_map]at this;show es.length<=1000;omega
 ·have:=(hR.chain (show x.l∈p.ch by rw[<-he];exact List.mem_map.2 ⟨x,hx,rfl⟩)).2.2;omega
theorem ai5:aR prog (cv 159 (.pointer (some ⟨b,5,none⟩)) (.agg #[.bool false,.bool false,.bool false,.bool false,.bool false,.bool false,.bool false])) (aO b g r)
 (λv=>aA (v=cE) (aO b {g with bV:=λ_=>false} r)):=by
 refine aR.cM (φ:=KU g r) (λR h H=>H.1) λhok=>?_;obtain⟨i,hi,hz⟩:=Option.map_eq_some_iff.1 (show(prog.info? 159).map (λi=>i.size)=some 7 by kernel_rfl)
 refine(aec (e:=162) (b:=b) (k:=5) (cs:=(jC g r).toArray) (cs':=(jC {g with bV:=λ_=>false} r).toArray) (vs:=Q8 λ_=>false) hi rfl (by rw[hz,eM]) (by rw[eM];decide) (λv hv=>by
  obtain⟨_,_,rfl⟩:=List.mem_map.1 hv;rfl) (by rw[eM];simp[BP]) rfl (aj (uj r.pv g.prop) (wE g r))).aK (λR h H=>H.2) ?_
 rintro v R h ⟨e,H⟩;exact⟨e,⟨hok.o,hok.p,hok.ob,hok.pb,hok.wb⟩,H⟩
set_option maxHeartbeats 4000000 in
theorem R9(m:MS)(ca:aG)(cc:Nat)(va:aG)(vc:Nat)(s:lq)(hp:g.prop=some s)(hs:ri g)(hB:Ck s)(hf:s.bH.length<=99999)(hmv:m.val.length<=100000000)(hu:g.cL<=10000)(hown:g.own.length<=1000000)(D:HP):
 az prog 82 #[pt b,.agg (m.ee ca cc va vc).aJ] (aj (aO b g r) (aj D (m.cI va))) (λv=>aE λs'=>aA (v=cE/\uu s m s') (jD b (n8 g s'))):=by
 refine ao (ρ:=[.n b,.p (aO b g r),.i m.fr,.i m.to,.i m.num,.c m.bV,.i m.kind,.i m.ep,.i m.at',.i m.cell.what,.a ca,.n m.cell.data.length,.n cc,.p D,.i m.br,.i m.bw,.a va,.n m.val.length,.n vc,.p (m.cI va),.i m.err,.i m.tail,.i m.low,.i m.back]) {fk:=[160],aF:=kj,dN:=true,dv:=true,ck:=[160],jn:=[((71,43),some {ss:=[.c],n:=44,tv:=[(71,none),(72,none),(73,none),(74,none),(75,none),(76,none),(77,none),(78,none),(79,some (.bool 43))],h:=[((.b 42),(.cells [35,(.s 36)] 34)),(36,39),(31,41),(.b 0,26),(16,27),((.b 24),(.cells [2,3,4,(.bool 5),6,7,8,9,(.s 10),14,15,(.s 16),20,21,22,23] 64)),(10,13)],lk:=[]}),((71,42),some {ss:=[.c],n:=43,tv:=[(71,none),(72,none),(73,none),(74,none),(75,none),(76,none),(77,none),(78,none),(79,some (.bool 42))],h:=[((.b 41),(.cells [34,(.s 35)] 34)),(35,38),(30,40),(.b 0,26),((.b 24),(.cells [2,3,4,(.bool 5),6,7,8,9,(.s 10),14,15,(.s 16),20,21,22,23] 64)),(10,13),(16,19)],lk:=[]})]} Gb O1 24 ?_;intro _;refine⟨λh6=>⟨.pointer r.pv,zT,?_⟩,λh6=>⟨.pointer r.pv,zT,?_⟩⟩
 ·refine(JZ (args:=λp=> #[p,an m.fr,.agg #[an m.br,an m.bw],.slice va m.val.length vc,an m.err]) (φ:=λv s'=>v=cE/\rh s m.fr m.br m.bw m.val m.err s') (K:=m.cI va) hp λpb=>Ga pb s m.fr m.br m.bw m.err va vc m.val (by omega) (λx hx=>by have:=hB.av x hx;omega) (by omega)).wk ?_;rintro v R h ⟨s',⟨rfl,hP⟩,H⟩;have vz:uu s m s':=by unfold uu;rw[aB h6];exact hP
  have YE:=hB.step hmv hf vz;refine⟨aO b {g with prop:=some s'} r,tt,rfl,?_,aD H⟩;clear H;refine⟨.pointer r.pv,zT,?_⟩;refine(yf (g:={g with prop:=some s'}) rfl).wk ?_;rintro v R h ⟨rfl,H⟩;refine⟨_,rfl,⟨λh4=>?_,λh4=>⟨λh3=>?_,λh3=>.of λR h H=>⟨s',⟨trivial,vz⟩,?_⟩⟩⟩,H⟩
  ·clear H;refine⟨g.cL,sj rfl,.pointer r.pv,zT,g.cS,sj rfl,r.wa,g.own.length,r.wc,ZT,?_⟩;refine(uY (g:={g with prop:=some s'}) rfl).wk ?_;rintro v R h ⟨rfl,H⟩;refine⟨_,_,rfl,?_,H⟩;clear H;refine(EA s'.lf s'.cS g.cS (by have:=YE.lf;omega)).aK (λ_ _ _=>trivial) ?_;rintro v R h rfl;refine⟨_,_,rfl,?_,trivial⟩;refine(tC g.cL (s'.lf+1) g.cS hu (aO b {g with prop:=some s'} r) r.wa g.own.length r.wc g.own ⟨tN (bN.rd _ _ _ _) λR h H=>(aO.ro H).2.1,λR h H e=>(bX.ro _ _ _ _).none R h (aO.ro H).2.1 e⟩ rfl (by omega)).wk ?_;rintro v R h ⟨pb,rfl,H⟩;refine⟨pt pb,eY pb (o9 g.cL (s'.lf+1) g.cS g.own),_,rfl,?_,ak H⟩;clear H;refine(aau (b:=b) (g:={g with prop:=some s'}) (r:=r)).wk ?_;rintro v R h ⟨rfl,H⟩;refine⟨_,rfl,.of λR h H=>⟨s',⟨trivial,vz⟩,{r with pv:=some ⟨pb,0,none⟩},?_⟩,H⟩;unfold n8;rw[aB h4];exact ai H
  ·clear H
   have hout:n8 g s'=if(dZ s'.val).2≠0\/(dZ s'.val).1.ep≠g.old.ep+1 then{g with prop:=some s',st:=6}else{g with prop:=some s',aQ:=(dZ s'.val).1,st:=3,bV:=λ_=>false}:=by
    unfold n8;rw[aq h4,aB h3]
   refine⟨.pointer r.pv,zT,?_⟩;refine(Cl (g:={g with prop:=some s'}) rfl).wk ?_;rintro v R h ⟨a1,c1,⟨rfl,Q3⟩,H⟩;refine⟨a1,_,c1,bE a1 s'.val.length s'.val,rfl,?_,H⟩;clear H;refine(I2 a1 s'.val.length c1 s'.val (bE a1 s'.val.length s'.val) (bX.ro _ _ _ _) rfl Q3 YE.val).wk ?_;rintro v R h ⟨a2,c2,es,⟨rfl,xM⟩,H⟩;refine⟨(dZ s'.val).1.ep,a2,es.length,c2,Ls ip a2 es.length es,(dZ s'.val).2,_,rfl,λ_=>?_,H⟩;clear H;refine⟨λc=>c=decide ((dZ s'.val).2≠0\/(dZ s'.val).1.ep≠g.old.ep+1),⟨λh5=>?_,λh5=>?_⟩,?_⟩
   ·exact(decide_eq_true (.inl h5)).symm
   ·refine(np (g:={g with prop:=some s'}) hs.e0 hs.e1).wk ?_;rintro v R h ⟨rfl,H⟩;refine⟨_,rfl,?_,H⟩;show(!decide ((dZ s'.val).1.ep=g.old.ep+1))=_;have h5':(dZ s'.val).2=0:=h5
    by_cases hb:(dZ s'.val).1.ep=g.old.ep+1
    ·rw[decide_eq_true hb,decide_eq_false (λh=>h.elim (λh=>h h5') (λh=>h hb))];rfl
    ·rw[decide_eq_false hb,decide_eq_true (.inr hb)];rfl
   ·rintro _ rfl;refine⟨λh6=>?_,λh6=>?_⟩
    ·refine(ut (b:=b) (g:={g with prop:=some s'}) (r:=r)).wk ?_;rintro v R h ⟨rfl,H⟩;refine⟨_,rfl,.of λR h H=>⟨s',⟨trivial,vz⟩,r,?_⟩,H⟩;rw[hout,aB (of_decide_eq_true h6)];exact ai H
    ·have h6':¬((dZ s'.val).2≠0\/(dZ s'.val).1.ep≠g.old.ep+1):=λh=>h6 (decide_eq_true h);have h0':(dZ s'.val).2=0:=Classical.byContradiction λh=>h6' (.inl h);refine(acM (b:=b) (g:={g with prop:=some s'}) (r:=r) (p:=(dZ s'.val).1) (a:=a2) (c:=c2) (es:=es) (Cj h0') xM).wk ?_;rintro v R h ⟨rfl,H⟩;refine⟨aO b {g with prop:=some s',aQ:=(dZ s'.val).1} {r with pa:=a2,pc:=c2,iG:=es},rfl,?_,H⟩;clear H;refine(ut (b:=b) (g:={g with prop:=some s',aQ:=(dZ s'.val).1}) (r:={r with pa:=a2,pc:=c2,iG:=es})).wk ?_;rintro v R h ⟨rfl,H⟩;refine⟨aO b {g with prop:=some s',aQ:=(dZ s'.val).1,st:=3} {r with pa:=a2,pc:=c2,iG:=es},rfl,?_,H⟩;clear H;refine(ai5 (b:=b) (g:={g with prop:=some s',aQ:=(dZ s'.val).1,st:=3}) (r:={r with pa:=a2,pc:=c2,iG:=es})).wk ?_;rintro v R h ⟨rfl,H⟩;refine⟨_,rfl,.of λR h H=>⟨s',⟨trivial,vz⟩,{r with pa:=a2,pc:=c2,iG:=es},?_⟩,H⟩;rw[hout,aq h6'];exact ai H
  ·unfold n8;rw[aq h4,aq h3];exact⟨r,ai H⟩
 ·refine(JZ (args:=λp=> #[p,an m.fr,an m.err]) (φ:=λv s'=>v=cE/\s'=Dw s m.fr m.err) (K:=tt) hp λpb=>(F9 pb s m.fr m.err (by omega)).aK (λR h H=>ai H) λv R h ⟨e,H⟩=>⟨_,⟨e,rfl⟩,H⟩).aK (λR h H=>aD H) ?_;rintro v R h ⟨s',⟨rfl,hP⟩,H⟩;have vz:uu s m s':=by unfold uu;rw[aq h6];exact hP
  have YE:=hB.step hmv hf vz;refine⟨aO b {g with prop:=some s'} r,rfl,?_,H⟩;clear H;refine⟨.pointer r.pv,zT,?_⟩;refine(yf (g:={g with prop:=some s'}) rfl).wk ?_;rintro v R h ⟨rfl,H⟩;refine⟨_,rfl,⟨λh4=>?_,λh4=>⟨λh3=>?_,λh3=>.of λR h H=>⟨s',⟨trivial,vz⟩,?_⟩⟩⟩,H⟩
  ·clear H;refine⟨g.cL,sj rfl,.pointer r.pv,zT,g.cS,sj rfl,r.wa,g.own.length,r.wc,ZT,?_⟩;refine(uY (g:={g with prop:=some s'}) rfl).wk ?_;rintro v R h ⟨rfl,H⟩;refine⟨_,_,rfl,?_,H⟩;clear H;refine(EA s'.lf s'.cS g.cS (by have:=YE.lf;omega)).aK (λ_ _ _=>trivial) ?_;rintro v R h rfl;refine⟨_,_,rfl,?_,trivial⟩;refine(tC g.cL (s'.lf+1) g.cS hu (aO b {g with prop:=some s'} r) r.wa g.own.length r.wc g.own ⟨tN (bN.rd _ _ _ _) λR h H=>(aO.ro H).2.1,λR h H e=>(bX.ro _ _ _ _).none R h (aO.ro H).2.1 e⟩ rfl (by omega)).wk ?_;rintro v R h ⟨pb,rfl,H⟩;refine⟨pt pb,eY pb (o9 g.cL (s'.lf+1) g.cS g.own),_,rfl,?_,ak H⟩;clear H;refine(aau (b:=b) (g:={g with prop:=some s'}) (r:=r)).wk ?_;rintro v R h ⟨rfl,H⟩;refine⟨_,rfl,.of λR h H=>⟨s',⟨trivial,vz⟩,{r with pv:=some ⟨pb,0,none⟩},?_⟩,H⟩;unfold n8;rw[aB h4];exact ai H
  ·clear H
   have hout:n8 g s'=if(dZ s'.val).2≠0\/(dZ s'.val).1.ep≠g.old.ep+1 then{g with prop:=some s',st:=6}else{g with prop:=some s',aQ:=(dZ s'.val).1,st:=3,bV:=λ_=>false}:=by
    unfold n8;rw[aq h4,aB h3]
   refine⟨.pointer r.pv,zT,?_⟩;refine(Cl (g:={g with prop:=some s'}) rfl).wk ?_;rintro v R h ⟨a1,c1,⟨rfl,Q3⟩,H⟩;refine⟨a1,_,c1,bE a1 s'.val.length s'.val,rfl,?_,H⟩;clear H;refine(I2 a1 s'.val.length c1 s'.val (bE a1 s'.val.length s'.val) (bX.ro _ _ _ _) rfl Q3 YE.val).wk ?_;rintro v R h ⟨a2,c2,es,⟨rfl,xM⟩,H⟩;refine⟨(dZ s'.val).1.ep,a2,es.length,c2,Ls ip a2 es.length es,(dZ s'.val).2,_,rfl,λ_=>?_,H⟩;clear H;refine⟨λc=>c=decide ((dZ s'.val).2≠0\/(dZ s'.val).1.ep≠g.old.ep+1),⟨λh5=>?_,λh5=>?_⟩,?_⟩
   ·exact(decide_eq_true (.inl h5)).symm
   ·refine(np (g:={g with prop:=some s'}) hs.e0 hs.e1).wk ?_;rintro v R h ⟨rfl,H⟩;refine⟨_,rfl,?_,H⟩;show(!decide ((dZ s'.val).1.ep=g.old.ep+1))=_;have h5':(dZ s'.val).2=0:=h5
    by_cases hb:(dZ s'.val).1.ep=g.old.ep+1
    ·rw[decide_eq_true hb,decide_eq_false (λh=>h.elim (λh=>h h5') (λh=>h hb))];rfl
    ·rw[decide_eq_false hb,decide_eq_true (.inr hb)];rfl
   ·rintro _ rfl;refine⟨λh6=>?_,λh6=>?_⟩
    ·refine(ut (b:=b) (g:={g with prop:=some s'}) (r:=r)).wk ?_;rintro v R h ⟨rfl,H⟩;refine⟨_,rfl,.of λR h H=>⟨s',⟨trivial,vz⟩,r,?_⟩,H⟩;rw[hout,aB (of_decide_eq_true h6)];exact ai H
    ·have h6':¬((dZ s'.val).2≠0\/(dZ s'.val).1.ep≠g.old.ep+1):=λh=>h6 (decide_eq_true h);have h0':(dZ s'.val).2=0:=Classical.byContradiction λh=>h6' (.inl h);refine(acM (b:=b) (g:={g with prop:=some s'}) (r:=r) (p:=(dZ s'.val).1) (a:=a2) (c:=c2) (es:=es) (Cj h0') xM).wk ?_;rintro v R h ⟨rfl,H⟩;refine⟨aO b {g with prop:=some s',aQ:=(dZ s'.val).1} {r with pa:=a2,pc:=c2,iG:=es},rfl,?_,H⟩;clear H;refine(ut (b:=b) (g:={g with prop:=some s',aQ:=(dZ s'.val).1}) (r:={r with pa:=a2,pc:=c2,iG:=es})).wk ?_;rintro v R h ⟨rfl,H⟩;refine⟨aO b {g with prop:=some s',aQ:=(dZ s'.val).1,st:=3} {r with pa:=a2,pc:=c2,iG:=es},rfl,?_,H⟩;clear H;refine(ai5 (b:=b) (g:={g with prop:=some s',aQ:=(dZ s'.val).1,st:=3}) (r:={r with pa:=a2,pc:=c2,iG:=es})).wk ?_;rintro v R h ⟨rfl,H⟩;refine⟨_,rfl,.of λR h H=>⟨s',⟨trivial,vz⟩,{r with pa:=a2,pc:=c2,iG:=es},?_⟩,H⟩;rw[hout,aq h6'];exact ai H
  ·unfold n8;rw[aq h4,aq h3];exact⟨r,ai H⟩
end
def Cm(m x:MS):Bool:=decide (x.to=m.fr)&&(decide (x.kind=m.kind)&&(decide (x.ep=m.ep)&&decide (x.at'=m.at')))
def Cn(g:cg)(m:MS):Bool:=(dF g).any (Cm m)
def qW(g:cg)(m:MS)(g':cg):Prop:=
 if m.bV=true/\Cn g m=true then
  (g.st=1->g'=wY g m.fr.toNat m.err)/\(g.st=2->∃s s',g.prop=some s/\uu s m s'/\g'=n8 g s')/\(g.st=3->g'=rj g m m.fr.toNat)/\(g.st=4->g'={g with st:=if m.err=0\/m.err=8 then 5 else 6})/\(g.st≠1->g.st≠2->g.st≠3->g.st≠4->g'=g)
 else g'=g
structure mO(g:cg):Prop where
 s:ri g
 r:g.st=1->dw g.old=true
 u:g.cL<=10000
 w:g.own.length<=1000000
 b:∀s,g.prop=some s->Ck s/\s.bH.length<=99999
theorem aax g u:(iI g u).to=u:=by
 unfold iI;split
 ·split<;>rfl
 ·rfl
theorem Pq{g}{m}(h:Cn g m=true)(h4:g.st≠4):∃f:Nat,m.fr=f/\f<7/\iH g f=true:=by
 obtain⟨x,hx,hp⟩:=List.any_eq_true.1 h;unfold dF at hx;rw[aq h4]at hx;obtain⟨u,hu,rfl⟩:=List.mem_map.1 hx;obtain⟨hu1,hu2⟩:=List.mem_filter.1 hu;have:=of_decide_eq_true (Bool.and_eq_true_iff.1 hp).1;rw[aax]at this;exact⟨u,this.symm,List.mem_range.1 hu1,hu2⟩
section
variable {b:Nat}{g:cg}{r:Gc}
theorem Sd(hs:ri g):az prog 79 #[pt b] (aO b g r) (λv=>aE λa=>aE λc=>aE λes:List p9=>aA (v=.slice a es.length c/\es.map (·.m)=dF g) (aj (Ls Ge a es.length es) (aO b g r))):=
 (Em hs).post λv=>λR h d ⟨a,c,es,e,H⟩=>by
   obtain⟨R1,h1,q1,q2,q3,q4,H1⟩:=(HP.aT.aj (PL.eP (K:=Ge) (e:=64) (one:=Gf) _ _ _ _) (aO b g r)) R h d H;exact⟨R1,h1,q1,q2,q3,q4,a,c,es,e,H1⟩
theorem ai9:xC prog 80:=⟨_,Tryz.func80,by kernel_rfl,by kernel_rfl⟩
abbrev WQ(x:Nat)(m:MS)(ca:aG)(cc:Nat)(va:aG)(vc:Nat):HP:=HP.one x (.cells (m.ee ca cc va vc).aJ 64 (0,0))
theorem Se x m ca cc(va:aG)(vc:Nat)(S D V0:HP)(y:p9):
 az prog 80 #[.agg (y.m.ee y.ca y.cc y.va y.vc).aJ,pt x] (aj S (aj tt (aj (WQ x m ca cc va vc) (aj D V0)))) λv=>aA (v=.bool (Cm m y.m)) (aj S (aj tt (aj (WQ x m ca cc va vc) (aj D V0)))):=by
 refine ao (ρ:=.i y.m.fr:: .i y.m.to:: .i y.m.num:: .c y.m.bV:: .i y.m.kind:: .i y.m.ep:: .i y.m.at':: .i y.m.cell.what:: .a y.ca:: .n y.m.cell.data.length:: .n y.cc:: .p S:: .i y.m.br:: .i y.m.bw::[.a y.va,.n y.m.val.length,.n y.vc,.p tt,.i y.m.err,.i y.m.tail,.i y.m.low,.i y.m.back,.n x,.i m.fr,.i m.to,.i m.num,.c m.bV,.i m.kind,.i m.ep,.i m.at',.i m.cell.what,.a ca,.n m.cell.data.length,.n cc,.p D,.i m.br,.i m.bw,.a va,.n m.val.length,.n vc,.p V0,.i m.err,.i m.tail,.i m.low,.i m.back]) {fk:=[160],aF:=kj,dN:=true,dv:=true,ck:=[160]} [(.agg [0,1,2,(.bool 3),4,5,6,7,(.s 8),12,13,(.s 14),18,19,20,21]),(.ptr 22 0)] aib 45 ?_;intro _;refine⟨λh1=>⟨λh2=>⟨λh3=>.of λR h H=>⟨?_,H⟩,λh3=>.of λR h H=>⟨?_,H⟩⟩,λh2=>.of λR h H=>⟨?_,H⟩⟩,λh1=>.of λR h H=>⟨?_,H⟩⟩
 ·unfold Cm;rw[decide_eq_true h1,decide_eq_true h2,decide_eq_true h3,Bool.true_and,Bool.true_and,Bool.true_and]
 ·unfold Cm;rw[decide_eq_false h3,Bool.false_and,Bool.and_false,Bool.and_false]
 ·unfold Cm;rw[decide_eq_false h2,Bool.false_and,Bool.and_false]
 ·unfold Cm;rw[decide_eq_false h1,Bool.false_and]
theorem WR x m ca cc va vc S D V0(y:p9):
 jG prog (.func (.func 80) #[] #[pt x]) #[.agg y.aJ] (aj (aj (WQ x m ca cc va vc) (aj D V0)) S) λv=>aA (v=.bool (Cm m y.m)) (aj (aj (WQ x m ca cc va vc) (aj D V0)) S):=
 .inl ⟨_,_,rfl,ai9,(Se x m ca cc va vc S D V0 y).aK (λR h H=>ae (ak H) (λ_ h=>h) λz hz=>aW hz) λv R h ⟨e,H⟩=>⟨e,ak (ae H (λ_ h=>h) λz hz=>ah hz)⟩⟩
set_option maxHeartbeats 2000000 in
theorem WS m ca(cc:Nat)(va:aG)(vc:Nat)(hs:mO g)(hmv:m.val.length<=100000000)(D:HP):
 az prog 41 #[pt b,.agg (m.ee ca cc va vc).aJ] (aj (aO b g r) (aj D (m.cI va))) (λv=>aE λg'=>aA (v=cE/\qW g m g') (jD b g')):=by
 refine ao (ρ:=[.n b,.p (aO b g r),.i m.fr,.i m.to,.i m.num,.c m.bV,.i m.kind,.i m.ep,.i m.at',.i m.cell.what,.a ca,.n m.cell.data.length,.n cc,.p D,.i m.br,.i m.bw,.a va,.n m.val.length,.n vc,.p (m.cI va),.i m.err,.i m.tail,.i m.low,.i m.back]) {fk:=[160],aF:=kj,dN:=true,dv:=true,ck:=[160]} Gb O1 24 ?_;intro x;refine(Sd hs.s).wk ?_;rintro v R h ⟨a,c,es,⟨rfl,he⟩,H⟩;refine⟨a,es.length,c,Ls Ge a es.length es,rfl,?_,H⟩;clear H
 have anO:es.any (λy=>Cm m y.m)=Cn g m:=by
  unfold Cn;rw[<-he,List.any_map];rfl
 have h7:=El g;rw[<-he,List.length_map]at h7;refine(uk (Ls Ge a es.length es) (aj (WQ x m ca cc va vc) (aj D (m.cI va))) a es.length c es (λ_ _ h=>h) (by omega) (.func (.func 80) #[] #[pt x]) rfl (λy=>Cm m y.m) λy _=>WR x m ca cc va vc _ _ _ y).wk ?_;rintro v R h ⟨rfl,H⟩;rw[anO];refine⟨_,rfl,⟨λh0=>.of λR h H=>⟨g,⟨trivial,?_⟩,r,?_⟩,λh0=>⟨λh1=>.of λR h H=>⟨g,⟨trivial,?_⟩,r,?_⟩,λh1=>?_⟩⟩,H⟩
 all_goals first|exact ai H|skip
 ·unfold qW;rw[aq (λe=>h0 e.1)]
 ·unfold qW;rw[aq (λe=>h1 e.2)]
 clear H;have mK:Cn g m=true:=by simpa using h1
 have h0':m.bV=true:=by simpa using h0
 have key:∀g',((g.st=1->g'=wY g m.fr.toNat m.err)/\(g.st=2->∃s s',g.prop=some s/\uu s m s'/\g'=n8 g s')/\(g.st=3->g'=rj g m m.fr.toNat)/\(g.st=4->g'={g with st:=if m.err=0\/m.err=8 then 5 else 6})/\(g.st≠1->g.st≠2->g.st≠3->g.st≠4->g'=g))->qW g m g':=λg' h=>by
  unfold qW;rw[aB ⟨h0',mK⟩];exact h
 refine⟨g.st,sj rfl,λs1=>?_,λs1=>⟨λs2=>?_,λs2=>⟨λs3=>?_,λs3=>⟨λs4=>?_,λs4=>.of λR h H=>⟨g,⟨trivial,key g ⟨λh=>absurd h s1,λh=>absurd h s2,λh=>absurd h s3,λh=>absurd h s4,λ_ _ _ _=>rfl⟩⟩,r,ai H⟩⟩⟩⟩⟩
 ·have s1':g.st=1:=s1;obtain⟨f,hf,R7,_⟩:=Pq mK (by omega);refine(MP m ca cc va vc f hf R7 hs.s (hs.r s1') hs.u D (m.cI va)).wk ?_;rintro v R h ⟨rfl,H⟩;refine⟨jD b (wY g f m.err),tt,tt,rfl,.of λR h H=>⟨wY g f m.err,⟨trivial,key _ ⟨λ_=>by rw[hf,Int.toNat_natCast],by omega,by omega,by omega,by omega⟩⟩,ai H⟩,aD (aD H)|>au⟩
 ·have s2':g.st=2:=s2;obtain⟨s,hsp⟩:=Option.isSome_iff_exists.1 (hs.s.p2 s2');obtain⟨hB,hf⟩:=hs.b s hsp;refine(R9 m ca cc va vc s hsp hs.s hB hf hmv hs.u hs.w D).wk ?_;rintro v R h ⟨s',⟨rfl,hst⟩,H⟩;refine⟨jD b (n8 g s'),tt,tt,rfl,.of λR h H=>⟨n8 g s',⟨trivial,key _ ⟨by omega,λ_=>⟨s,s',hsp,hst,rfl⟩,by omega,by omega,by omega⟩⟩,ai H⟩,aD (aD H)|>au⟩
 ·have s3':g.st=3:=s3;obtain⟨f,hf,R7,_⟩:=Pq mK (by omega);refine(WP m ca cc va vc f hf R7 hs.s D (m.cI va)).wk ?_;rintro v R h ⟨rfl,H⟩;refine⟨jD b (rj g m f),tt,tt,rfl,.of λR h H=>⟨rj g m f,⟨trivial,key _ ⟨by omega,by omega,λ_=>by rw[hf,Int.toNat_natCast],by omega,by omega⟩⟩,ai H⟩,aD (aD H)|>au⟩
 ·have s4':g.st=4:=s4;have k5:(m.err=0\/m.err=8)->qW g m {g with st:=5}:=λh=>key _ ⟨by omega,by omega,by omega,λ_=>by rw[aB h],by omega⟩;have k6:¬(m.err=0\/m.err=8)->qW g m {g with st:=6}:=λh=>key _ ⟨by omega,by omega,by omega,λ_=>by rw[aq h],by omega⟩;refine(ut (b:=b) (g:=g) (r:=r)).wk ?_;rintro v R h ⟨rfl,H⟩;refine⟨aO b {g with st:=6} r,rfl,⟨λe0=>?_,λe0=>⟨λe8=>?_,λe8=>.of λR h H=>⟨_,⟨trivial,k6 (λh=>h.elim e0 e8)⟩,r,ai H⟩⟩⟩,H⟩
  ·refine(ut (b:=b) (g:={g with st:=6}) (r:=r)).wk ?_;rintro v R h ⟨rfl,H⟩;exact⟨aO b {g with st:=5} r,rfl,.of λR h H=>⟨_,⟨trivial,k5 (.inl e0)⟩,r,ai H⟩,H⟩
  ·refine(ut (b:=b) (g:={g with st:=6}) (r:=r)).wk ?_;rintro v R h ⟨rfl,H⟩;exact⟨aO b {g with st:=5} r,rfl,.of λR h H=>⟨_,⟨trivial,k5 (.inr e8)⟩,r,ai H⟩,H⟩
end
theorem aja{a}{n c}{es}{k:Nat}{x}(hk:es[k]? =some x):
 aM prog (bO 23 (.pointer (a.map λy=>(y.add ((k:Int).toNat*1)).add 0))) (PL BG a n c es) (.slice x.a x.l.length x.c):=by
 refine cU Ba OX ZD (PL.rd (K:=BG) a n c es) (k:=(k:Int).toNat*1) (off:=0) ?_;have:=gQ ip.aJ 1 ip.len es k 0 x hk (by omega);exact this
set_option maxHeartbeats 1000000 in
theorem J0 S ep a(n c:Nat)(es:List ky)(hS:∀R h,S.p R h->(Ls ip a n es).p R h)(hb:n<=1000000000)(hx:∀x∈es,x.l.length<=1000000000):
 az prog 224 #[.agg #[an ep,.slice a n c]] S (λv=>aE λa'=>aE λc'=>aE λcZ:List ky=>aA (v=.agg #[an ep,.slice a' n c']/\cZ.map (·.l)=es.map (·.l)) (aj (Ls ip a' n cZ) S)):=by
 refine az.cM (φ:=es.length=n) (λR h H=>(hS R h H).1) λhl=>?_
 refine az.post (B:=λv=>aE λa'=>aE λc'=>aE λcZ:List ky=>aA (v=.agg #[an ep,.slice a' n c']/\cZ.map (·.l)=es.map (·.l)) (aj (PL BG a' n c' cZ) S)) ?_ λv=>λR h d ⟨a',c',cZ,e,H⟩=>by
  obtain⟨R1,h1,q1,q2,q3,q4,H1⟩:=(HP.aT.aj (PL.eP (K:=ip) (e:=23) (one:=tA) _ _ _ _) S) R h d H;exact⟨R1,h1,q1,q2,q3,q4,a',c',cZ,e,H1⟩
 refine ao (ρ:=[.i ep,.a a,.n n,.n c,.p S]) {fk:=[160],hv:=[(0,[(.a 7)])],aF:=kj,dN:=true,dv:=true,ck:=[160]} [(.agg [0,(.s 1)])] [(1,4)] 5 ?_;intro _ _;refine(Eg S a n c es hS hb).wk ?_;rintro v R h ⟨a',c',rfl,H⟩;have OA:n≠0->a'.isSome=true:=λhn=>QO (ai H) hn;refine⟨a',n,c',PL BG a' n c' es,S,rfl,?_,H⟩;clear H;refine⟨λi P=>∃k:Nat,∃cZ:List ky,i=k/\k<=n/\P=PL BG a' n c' cZ/\cZ.map (·.l)=es.map (·.l),λi _=>n - i.toNat,⟨0,es,rfl,Nat.zero_le _,rfl,rfl⟩,?_⟩;rintro _ _ ⟨k,cZ,rfl,hk,rfl,he⟩
 have tZ:cZ.length=n:=by
  have:=congrArg List.length he;simp at this;omega
 refine⟨λhlt=>⟨by omega,λ_=>⟨OA (by omega),λ_=>?_⟩⟩,λlH=>.of λR h H=>⟨a',c',cZ,⟨rfl,he⟩,ak H⟩⟩;have ki:k<cZ.length:=by omega
 have hg:cZ[k]? =some cZ[k]:=List.getElem?_eq_getElem ki;have hm:cZ[k]∈cZ:=List.getElem_mem ki
 have lj:cZ[k].l.length<=1000000000:=by
  have:cZ[k].l∈es.map (·.l):=by rw[<-he];exact List.mem_map.2 ⟨_,hm,rfl⟩
  obtain⟨y,hy,e⟩:=List.mem_map.1 this;rw[<-e];exact hx y hy
 refine⟨cZ[k].a,cZ[k].l.length,cZ[k].c,aja hg,?_⟩;refine(uT (PL BG a' n c' cZ) cZ[k].a cZ[k].l.length cZ[k].c cZ[k].l (.of λR h H=>Bw (ah H.2) (ip.hp cZ[k]) (List.mem_map.2 ⟨_,hm,rfl⟩)) rfl lj).wk ?_;rintro v R h ⟨a2,c2,rfl,H⟩;refine⟨a2,cZ[k].l.length,c2,vP a2 cZ[k].l.length cZ[k].l,PL BG a' n c' cZ,rfl,?_,H⟩;clear H;obtain⟨i,hi,_,hz,_⟩:=info_parts x9;refine(PL.set (K:=BG) hi hz (a:=a') (n:=n) (c:=c') (l:=cZ) (k:=k) (by omega) ⟨a2,c2,cZ[k].l⟩ rfl tt).aK (λR h H=>ae H (λ_ h=>h) λz hz=>aD hz) ?_;rintro v R h ⟨rfl,H⟩;refine⟨PL BG a' n c' (cZ.set k ⟨a2,c2,cZ[k].l⟩),rfl,⟨bh _ (by omega) (by omega),λ_=>⟨⟨k+1,cZ.set k ⟨a2,c2,cZ[k].l⟩,by omega,by omega,rfl,?_⟩,by dsimp only;omega⟩⟩,ai H⟩;have e:(cZ.set k cZ[k]).map (·.l)=cZ.map (·.l):=by rw[List.set_getElem_self]
 rw[List.map_set]at e⊢;exact e.trans he
section
variable {b:Nat}{g:cg}{r:Gc}
theorem WT:az prog 163 #[pt b] (aO b g r) (λv=>aE λa=>aE λc=>aE λes:List ky=>aA (v=.agg #[an g.aQ.ep,.slice a es.length c]/\es.map (·.l)=g.aQ.ch) (aj (Ls ip a es.length es) (aO b g r))):=by
 refine az.cM (φ:=KU g r) (λR h H=>H.1) λhok=>?_;refine ao (ρ:=[.n b,.p (aO b g r)]) {fk:=[160],aF:=kj,dN:=true,dv:=true,ck:=[160]} BN ui 2 ?_;intro _;refine⟨g.aQ.ep,r.pa,r.iG.length,r.pc,acr rfl rfl,?_⟩;refine(J0 (aO b g r) g.aQ.ep r.pa r.iG.length r.pc r.iG (λR h H=>(aO.ro H).2.2) (by have:=hok.pb.1;omega) λx hx=>by have:=hok.pb.2 x hx;omega).wk ?_;rintro v R h ⟨a',c',cZ,⟨rfl,he⟩,H⟩
 have hl:cZ.length=r.iG.length:=by
  have:=congrArg List.length he;simpa using this
 rw[<-hl]at H⊢;exact⟨g.aQ.ep,a',cZ.length,c',Ls ip a' cZ.length cZ,aO b g r,rfl,.of λR h H=>⟨a',c',cZ,⟨rfl,he.trans hok.p⟩,ak H⟩,H⟩
end
def vf:cg:=⟨⟨0,[]⟩,0,0,6,λ_=>false,λ_=>false,[],none,⟨0,[]⟩,0⟩
def jk(p:rx)(u w:Int):cg:=
 if dw p=true/\p.ep≠2147483647/\1<=u/\u<=7/\0<=w/\w<=2147483647 then⟨p,u,w,1,λ_=>false,λ_=>false,[],none,⟨0,[]⟩,0⟩else vf
theorem MU{R h}:(Ls ip none 0 []).p R h:=⟨rfl,bN.nil _ _ _ _,λx hx=>by cases hx⟩
theorem qk x{R h}(H:(HP.one x (.cells (jC vf ⟨none,0,[],none,0,none,none,0,[]⟩).toArray 162 (0,0))).p R h):(jD x vf).p R h:=
 ⟨⟨none,0,[],none,0,none,none,0,[]⟩,⟨rfl,rfl,⟨by simp,λx hx=>by cases hx⟩,⟨by simp,λx hx=>by cases hx⟩,by simp[vf]⟩,ae (aD H) (λ_ h=>h) λy _=>ae (aD (show(uj none none).p R y from rfl)) (λ_ h=>h) λz _=>⟨MU,rZ _,MU⟩⟩
set_option maxHeartbeats 1000000 in
theorem Sf S ep a(n c:Nat)(es:List ky)(u w:Int)(hS:∀R h,S.p R h->(Ls ip a n es).p R h)(hb:∀x∈es,x.l.length<=1000000000)(hn:n<=1000000000):
 az prog 155 #[.agg #[an ep,.slice a n c],an u,an w] S (λv=>aE λb=>aA (v=pt b) (aj (jD b (jk ⟨ep,es.map (·.l)⟩ u w)) S)):=by
 refine ao (ρ:=[.i ep,.a a,.n n,.n c,.p S,.i u,.i w]) {fk:=[160],aF:=kj,dN:=true,dv:=true,ck:=[160]} [(.agg [0,(.s 1)]),5,6] [(1,4)] 7 ?_;intro _;refine(wC S ep a n c es hS hb).wk ?_;rintro v R h ⟨rfl,H⟩;have bad:¬(dw ⟨ep,es.map (·.l)⟩=true/\ep≠2147483647/\1<=u/\u<=7/\0<=w/\w<=2147483647)->jk ⟨ep,es.map (·.l)⟩ u w=vf:=λh=>by unfold jk;rw[aq h]
 refine⟨_,rfl,⟨λh1 x=>.of λR h H=>⟨x,rfl,?_⟩,λh1=>⟨λh2 x=>.of λR h H=>⟨x,rfl,?_⟩,λh2=>⟨λh3 x=>.of λR h H=>⟨x,rfl,?_⟩,λh3=>⟨λh4 x=>.of λR h H=>⟨x,rfl,?_⟩,λh4=>⟨λh5 x=>.of λR h H=>⟨x,rfl,?_⟩,λh5=>⟨λh6 x=>.of λR h H=>⟨x,rfl,?_⟩,λh6=>?_⟩⟩⟩⟩⟩⟩,H⟩
 ·rw[bad (λh=>h1 h.1)];exact ae (ak H) (λ_ h=>qk x h) λ_ h=>h
 ·rw[bad (λh=>h.2.1 h2)];exact ae (ak H) (λ_ h=>qk x h) λ_ h=>h
 ·rw[bad (λh=>by omega)];exact ae (ak H) (λ_ h=>qk x h) λ_ h=>h
 ·rw[bad (λh=>by omega)];exact ae (ak H) (λ_ h=>qk x h) λ_ h=>h
 ·rw[bad (λh=>by omega)];exact ae (ak H) (λ_ h=>qk x h) λ_ h=>h
 ·rw[bad (λh=>by omega)];exact ae (ak H) (λ_ h=>qk x h) λ_ h=>h
 have hr:dw ⟨ep,es.map (·.l)⟩=true:=by simpa using h1
 have hR:=nH hr
 have jY:jk ⟨ep,es.map (·.l)⟩ u w=⟨⟨ep,es.map (·.l)⟩,u,w,1,λ_=>false,λ_=>false,[],none,⟨0,[]⟩,0⟩:=by
  unfold jk;rw[aB ⟨hr,h2,by omega,by omega,by omega,by omega⟩]
 clear H;refine(J0 S ep a n c es hS hn hb).wk ?_;rintro v R h ⟨a',c',cZ,⟨rfl,he⟩,H⟩;have hl:cZ.length=n:=(ai H).1;refine⟨ep,a',n,c',Ls ip a' n cZ,S,rfl,λx=>.of λR h H=>⟨x,rfl,?_⟩,H⟩;have h7:=hR.L8;rw[<-he,List.length_map]at h7;rw[jY,<-he];obtain⟨h1,h2,d,l1,l2,HS,HR⟩:=H;subst hl;refine ak ⟨h1,h2,d,l1,l2,HS,⟨a',c',cZ,none,0,none,none,0,[]⟩,⟨rfl,rfl,⟨by simp;omega,λx hx=>?_⟩,⟨by simp,λx hx=>by cases hx⟩,by simp⟩,ae HR (λ_ h=>h) λy hy=>ae (aW hy) (λz _=>rfl) λz hz=>⟨hz,rZ _,MU⟩⟩;have:x.l∈es.map (·.l):=by rw[<-he];exact List.mem_map.2 ⟨x,hx,rfl⟩
 have:=(hR.chain this).2.2;omega
structure jl where
 at':Int
 state:Int
 low:Int
 us:List Int
 step:Int
 place:Int
 cell:fF
abbrev jl.aJ(o:jl)(ua:aG)(uc:Nat)(da:aG)(dc:Nat):dI:= #[an o.at',an o.state,an o.low,.slice ua o.us.length uc,an o.step,an o.place,an o.cell.what,.slice da o.cell.data.length dc]
abbrev fY(b:Nat)(o:jl)(ua:aG)(uc:Nat)(da:aG)(dc:Nat):HP:=HP.one b (.cells (o.aJ ua uc da dc) 170)
abbrev OU(o:jl)(ua:aG):HP:=vP ua o.us.length o.us
abbrev OD(o:jl)(da:aG):HP:=bE da o.cell.data.length o.cell.data
def jl.small(o:jl):Prop:=o.us.length<=1000000000/\o.cell.data.length<=140737488355328
def fZ(b:Nat)(o:jl):HP:=aE λua=>aE λuc=>aE λda=>aE λdc=>aA o.small (aj (fY b o ua uc da dc) (aj (OU o ua) (OD o da)))
theorem fZ.qD{f}{args:dI}{b}{o}{B}(t:∀ua uc da dc,o.small->az prog f args (aj (fY b o ua uc da dc) (aj (OU o ua) (OD o da))) B):az prog f args (fZ b o) B:=
 az.ex λua=>az.ex λuc=>az.ex λda=>az.ex λdc=>az.pure λh=>t ua uc da dc h
theorem anR{f}{args:dI}{b}{o}{K}{B}(t:∀ua uc da dc,o.small->az prog f args (aj (fY b o ua uc da dc) (aj (OU o ua) (aj (OD o da) K))) B):az prog f args (aj (fZ b o) K) B:=by
 refine(az.ex λua=>az.ex λuc=>az.ex λda=>az.ex λdc=>az.pure (φ:=o.small) λh=>t ua uc da dc h).aK ?_ (λ_ _ _ h=>h);rintro R h ⟨h1,h2,d,l1,l2,⟨ua,uc,da,dc,e,H⟩,HK⟩;refine⟨ua,uc,da,dc,e,?_⟩;have:=au ⟨h1,h2,d,l1,l2,H,HK⟩;exact ae this (λ_ h=>h) λy hy=>au hy
theorem Am S w a n c l(hr:bX S a n (l.map eX))(hl:l.length=n)(hb:n<=140737488355328):
 az prog 161 #[.agg #[an w,.slice a n c]] S (λv=>aE λa'=>aE λc'=>aA (v=.agg #[an w,.slice a' n c']) (aj (bE a' n l) S)):=by
 refine be (ρ:=[.i w,.a a,.n n,.n c,.p S]) {aF:=fO,bU:=fP} [(.agg [0,(.s 1)])] [(1,4)] 5 ?_;intro x y;refine(yB S a n c l hr hl hb).wk ?_;rintro v R h ⟨a',c',rfl,H⟩;exact⟨a',n,c',bE a' n l,rfl,.of λR h H=>⟨a',c',rfl,ak H⟩,H⟩
theorem Sg w1 a n c la w2 b m d(lb:ax)(Sa Sb:HP)(hA:bX Sa a n (la.map eX))(hB:bX Sb b m (lb.map eX))(hla:la.length=n)(hlb:lb.length=m):
 az prog 159 #[.agg #[an w1,.slice a n c],.agg #[an w2,.slice b m d]] (aj Sa Sb) (λv=>aA (v=.bool (decide (w1=w2/\la=lb))) (aj Sa Sb)):=by
 refine be (ρ:=[.i w1,.a a,.n n,.n c,.p Sa,.i w2,.a b,.n m,.n d,.p Sb]) {aF:=fO,bU:=fP} [(.agg [0,(.s 1)]),(.agg [5,(.s 6)])] JX 10 ?_;refine λx y=>⟨λh=>?_,λh=>.of λR h' H=>⟨by simp[h],H⟩⟩;refine(Ez a n c la b m d lb Sa Sb hA hB hla hlb).wk ?_;rintro v R h' ⟨rfl,H⟩;exact⟨_,rfl,.of λR h' H=>⟨by simp[h],H⟩,H⟩
section
variable (b:Nat)(o:jl)
abbrev rho(ua:aG)(uc:Nat)(da:aG)(dc:Nat):cd:=[.n b,.i o.at',.i o.state,.i o.low,.a ua,.n o.us.length,.n uc,.p (OU o ua),.i o.step,.i o.place,.i o.cell.what,.a da,.n o.cell.data.length,.n dc,.p (OD o da)]
theorem EB:az prog 166 #[pt b] (fZ b o) (λv=>aA (v=an o.state) (fZ b o)):=by
 refine fZ.qD λua uc da dc hs=>?_;refine be (ρ:=rho b o ua uc da dc) {aF:=fO,bU:=fP} qh tH 15 ?_;exact .of λR h H=>⟨trivial,ua,uc,da,dc,hs,H⟩
theorem ae1:az prog 229 #[pt b] (fZ b o) (λv=>aA (v=an o.at') (fZ b o)):=by
 refine fZ.qD λua uc da dc hs=>?_;refine be (ρ:=rho b o ua uc da dc) {aF:=fO,bU:=fP} qh tH 15 ?_;exact .of λR h H=>⟨trivial,ua,uc,da,dc,hs,H⟩
theorem aay:az prog 172 #[pt b] (fZ b o) (λv=>aA (v=an o.low) (fZ b o)):=by
 refine fZ.qD λua uc da dc hs=>?_;refine be (ρ:=rho b o ua uc da dc) {aF:=fO,bU:=fP} qh tH 15 ?_;exact .of λR h H=>⟨trivial,ua,uc,da,dc,hs,H⟩
def sJ(o:jl):Int:=if o.step=1\/o.step=2 then 2 else 1
theorem zB ua uc da dc Uc Dc:az prog 89 #[pt b] (aj (fY b o ua uc da dc) (aj Uc Dc)) (λv=>aA (v=an (sJ o)) (aj (fY b o ua uc da dc) (aj Uc Dc))):=by
 refine be (ρ:=[.n b,.i o.at',.i o.state,.i o.low,.a ua,.n o.us.length,.n uc,.p Uc,.i o.step,.i o.place,.i o.cell.what,.a da,.n o.cell.data.length,.n dc,.p Dc]) {aF:=fO,bU:=fP} qh tH 15 ?_;refine⟨λh=>.of λR y H=>⟨by simp[sJ,h],H⟩,λh=>⟨λh2=>.of λR y H=>⟨by simp[sJ,h2],H⟩,λh2=>.of λR y H=>⟨by simp[sJ,h,h2],H⟩⟩⟩
def gN(o:jl):fF:=if o.state=2 then o.cell else⟨0,[]⟩
end
section
variable (b:Nat)(o:jl)
def lv(o:jl):fF:=if o.state=1 then(if o.step=0 then o.cell else if o.step=3 then⟨2,[]⟩else⟨0,[]⟩)else⟨0,[]⟩
theorem aaz(hp:o.state=1->0<=o.place/\o.place<o.us.length):az prog 228 #[pt b] (fZ b o)
 (λv=>aE λa'=>aE λc'=>aA (v=.tuple #[an (if o.state=1 then(o.us[o.place.toNat]?).getD 0 else 0),an (if o.state=1 then sJ o else 0),.agg #[an (lv o).what,.slice a' (lv o).data.length c'],.bool (decide (o.state=1))])
   (aj (bE a' (lv o).data.length (lv o).data) (fZ b o))):=by
 refine fZ.qD λua uc da dc hs=>?_;refine az.cM (φ:=o.us.length≠0->ua.isSome=true) (λR h H hn=>bN.some (ai (ah H)) (by omega)) λhua=>?_;refine be (ρ:=rho b o ua uc da dc) {aF:=fO,bU:=fP} qh tH 15 ?_;intro x;refine⟨λh=>.of λR y H=>⟨none,0,by simp[lv,h],?_⟩,λh1=>?_⟩
 ·have e:lv o=⟨0,[]⟩:=by simp[lv,h]
  rw[e];exact bN.join (rZ none:(bE none 0 []).p R y) ⟨ua,uc,da,dc,hs,H⟩
 obtain⟨p1,p2⟩:=hp h1;have hlt:o.place.toNat<o.us.length:=by omega
 have hg:(o.us.map cr)[o.place.toNat*1+0]? =some (cr o.us[o.place.toNat]):=by simp[hlt]
 have rd:=cU rV Dj Oz (bN.rd 1 ua o.us.length (o.us.map cr)) hg;have kd:=λDc=>zB b o ua uc da dc (OU o ua) Dc;have xO:(o.us[o.place.toNat]?).getD 0=o.us[o.place.toNat]:=by simp[hlt]
 refine⟨λh0=>?_,λh0=>⟨λh3=>?_,λh3=>?_⟩⟩
 ·have e:lv o=o.cell:=by simp[lv,h1,h0]
  rw[e,aB h1,aB h1,xO,decide_eq_true h1];refine(Am (OD o da) o.cell.what da _ dc o.cell.data (bX.ro _ _ _ _) rfl hs.2).wk ?_;rintro v R h ⟨a',c',rfl,H⟩;refine⟨_,a',_,c',bE a' o.cell.data.length o.cell.data,rfl,?_,H⟩;clear H
  repeat' (first
   |refine⟨p1,λ_=>?_⟩
   |refine⟨p2,λ_=>?_⟩
   |refine⟨hua (by omega),λ_=>?_⟩
   |refine⟨_,rd,?_⟩
   |(refine(kd _).wk ?_;rintro v R h ⟨rfl,H⟩;refine⟨_,rfl,?_,H⟩;clear H)
   |exact .of λR y H=>⟨a',c',rfl,ae (HP.pick [_,_,_,_] [3,0,1,2] (by decide) rfl H) (λ_ h=>h) λy hy=>⟨ua,uc,da,dc,hs,hy⟩⟩
   |refine⟨?_,?_⟩)
 ·have e:lv o=⟨2,[]⟩:=by simp[lv,h1,h0,h3]
  rw[e,aB h1,aB h1,xO,decide_eq_true h1]
  repeat' (first
   |refine⟨p1,λ_=>?_⟩
   |refine⟨p2,λ_=>?_⟩
   |refine⟨hua (by omega),λ_=>?_⟩
   |refine⟨_,rd,?_⟩
   |(refine(kd _).wk ?_;rintro v R h ⟨rfl,H⟩;refine⟨_,rfl,?_,H⟩;clear H)
   |exact .of λR y H=>⟨none,0,rfl,bN.join (rZ none:(bE none 0 []).p R y) ⟨ua,uc,da,dc,hs,H⟩⟩
   |refine⟨?_,?_⟩)
 ·have e:lv o=⟨0,[]⟩:=by simp[lv,h1,h0,h3]
  rw[e,aB h1,aB h1,xO,decide_eq_true h1]
  repeat' (first
   |refine⟨p1,λ_=>?_⟩
   |refine⟨p2,λ_=>?_⟩
   |refine⟨hua (by omega),λ_=>?_⟩
   |refine⟨_,rd,?_⟩
   |(refine(kd _).wk ?_;rintro v R h ⟨rfl,H⟩;refine⟨_,rfl,?_,H⟩;clear H)
   |exact .of λR y H=>⟨none,0,rfl,bN.join (rZ none:(bE none 0 []).p R y) ⟨ua,uc,da,dc,hs,H⟩⟩
   |refine⟨?_,?_⟩)
end
end
end Go.Proofs.YtchjlaebbhpioaaGreatDoor
