/- Texts of this claim, joined. No condition. -/
import Derived.Test.YtbkifafpjnjaiaaGreatDoorWNJ1
import Derived.Test.YtbkifafpjnjaiaaGreatDoorWNJ2
import Derived.Test.YtbkifafpjnjaiaaGreatDoorWNJ4
import Derived.Test.YtbkifafpjnjaiaaGreatDoorWNJ5
import Derived.KernelRfl
set_option linter.unusedSimpArgs false
set_option linter.unusedVariables false
namespace Go.Proofs.YtbkifafpjnjaiaaGreatDoor
set_option maxRecDepth 100000
section
open RX
theorem aej(S:HP)(a:Option Addr)(n c:Nat)(l:List UInt8)(hr:bR S a n (l.map fH))(hl:l.length=n)(hb:n<=140737488355328):
 ax Tryz.prog 24 #[.slice a n c] S (λv=>HP.ex λa'=>HP.ex λc'=>HP.and (v=.slice a' n c'/\n<=c') (HP.an (aO a' n l) S)):=by
 refine(US S a n c l hr hl hb).post λv=>λR h d ⟨a',c',e,H⟩=>?_
 have hc:=cp.le (HP.aj H)
 obtain⟨R1,h1,q1,q2,q3,q4,H1⟩:=(HP.aV.an (cp.ez _ _ _ _ _ _) S) R h d H
 exact⟨R1,h1,q1,q2,q3,q4,a',c',⟨e,hc⟩,H1⟩
theorem Qb(b:Nat)(o:fO):ax Tryz.prog 207 #[.pointer (some ⟨b,0,none⟩)] (eg b o) (λv=>HP.ex λa'=>HP.ex λc'=>HP.and (v=.agg #[.int .i64 (eP o).what,.slice a' (eP o).data.length c']/\(eP o).data.length<=c') (HP.an (aO a' (eP o).data.length (eP o).data) (eg b o))):=by
 refine eg.kF λua uc da dc hs=>?_
 refine ah (ρ:=fO.yu b o ua uc da dc) mixed Tryz.func207 Kn ?_
 unfold No fO.yu
 refine cY ?_
 refine λx=>⟨λh=>.of λR y H=>⟨none,0,⟨by simp[eP,h],by simp[eP,h]⟩,?_⟩,λh=>?_⟩
 ·have e:eP o=⟨0,[]⟩:=by simp[eP,h]
  rw[e]
  exact bb.join (n6 none:(aO none 0 []).p R y) ⟨ua,uc,da,dc,hs,H⟩
 ·have e:eP o=o.cell:=by simp[eP,h]
  rw[e]
  have tw:ax Tryz.prog 236 #[.agg #[.int .i64 o.cell.what,.slice da o.cell.data.length dc]] (OD o da) (λv=>HP.ex λa'=>HP.ex λc'=>HP.and (v=.agg #[.int .i64 o.cell.what,.slice a' o.cell.data.length c']/\o.cell.data.length<=c') (HP.an (aO a' o.cell.data.length o.cell.data) (OD o da))):=by
   refine ah (ρ:=[.i o.cell.what,.a da,.n o.cell.data.length,.n dc,.p (OD o da)]) mixed Tryz.func236 zU ?_
   unfold Km
   refine cY ?_
   intro x y
   refine(aej (OD o da) da _ dc o.cell.data (bR.ro _ _ _ _) rfl hs.2).ak (λ_ _ h=>h) ?_
   rintro v R h ⟨a',c',⟨rfl,hc⟩,H⟩
   exact⟨a',_,c',aO a' o.cell.data.length o.cell.data,rfl,.of λR h H=>⟨a',c',⟨rfl,hc⟩,HP.ao H⟩,H⟩
  refine tw.ak (λ_ _ h=>h) ?_
  rintro v R h ⟨a',c',⟨rfl,hc⟩,H⟩
  refine⟨_,a',_,c',aO a' o.cell.data.length o.cell.data,rfl,.of λR h H=>⟨a',c',⟨rfl,hc⟩,?_⟩,H⟩
  have H1:=HP.pick [_,_,_,_] [3,0,1,2] (by decide) rfl H
  exact HP.ae H1 (λ_ h=>h) λy hy=>⟨ua,uc,da,dc,hs,hy⟩
theorem Qc(m:MS)(ca:Option Addr)(cc:Nat)(va:Option Addr)(vc:Nat)(hm:m.small):ax Tryz.prog 116 #[.agg (m.cF ca cc va vc).aA] (HP.an (m.bB ca) (m.bj va)) (zX m (HP.an (m.bB ca) (m.bj va))):=by
 refine ah (ρ:=m.env ca cc va vc) mixed Tryz.func116 GI ?_
 unfold GH MS.env
 refine cg ?_
 intro _ _
 refine(jm (m.bB ca) ca m.cell.data.length cc m.cell.data (bR.ro _ _ _ _) rfl (by have:=hm.1;omega)).ak (λ_ _ h=>h) ?_
 rintro v R h ⟨a',c',rfl,H⟩
 refine⟨a',_,c',aO a' m.cell.data.length m.cell.data,rfl,?_,H⟩
 clear H
 refine(jm (m.bj va) va m.val.length vc m.val (bR.ro _ _ _ _) rfl (by have:=hm.2;omega)).ak (λ_ _ h=>h) ?_
 rintro v R h ⟨a2,c2,rfl,H⟩
 refine⟨a2,_,c2,aO a2 m.val.length m.val,rfl,.of λR h H=>⟨a',c',a2,c2,rfl,?_⟩,H⟩
 exact HP.pick [_,_,_,_] [2,3,0,1] (by decide) rfl H
theorem XE(m:MS)(ca:Option Addr)(cc:Nat)(va:Option Addr)(vc:Nat)(hm:m.small)(S:HP)(hS:∀R h,S.p R h->(m.bB ca).p R h/\(m.bj va).p R h):ax Tryz.prog 116 #[.agg (m.cF ca cc va vc).aA] S (zX m S):=YY m ca cc va vc Qc hm S hS
theorem fq{d:Nat}{f:Field}{fs:List Field}{xs ys:Array Value}{a b:Int}{o:Nat}(hn:f.name≠ "_")(ht:f.type=3)(ho:f.offset=o)(hx:xs[o]? =some (.int .i64 a))(hy:ys[o]? =some (.int .i64 b))(w:World):
 (Op.eqFields (d+1) xs ys (f::fs)).run Tryz.prog w=if a=b then(Op.eqFields (d+1) xs ys fs).run Tryz.prog w else .ok false w:=by
 have he:(Op.equalIn (d+1) 3 (.int .i64 a) (.int .i64 b)).run Tryz.prog w=.ok (a==b) w:=run_equalIn_int w d _ _ _ _ _ rK
 simp only[Op.eqFields,ht,ho,ne_eq,hn,not_false_eq_true,if_true,Sem.run_bind,iR rK _ o _ hx,iR rK _ o _ hy,Result.andThen_ok,he]
 by_cases h:a=b
 ·rw[if_pos h];simp[h]
 ·rw[if_neg h];simp[h]
theorem Cr{d:Nat}{xs ys:Array Value}(w:World):(Op.eqFields d xs ys []).run Tryz.prog w=.ok true w:=by simp[Op.eqFields]
theorem aek:(Tryz.prog.fieldsOf 46).toList.map (λf=>(decide (f.name= "_"),f.type,f.offset))=[(false,3,0),(false,3,1)]:=by kernel_rfl
theorem U1:Tryz.prog.underlying 46=some (.struct (Tryz.prog.fieldsOf 46)):=by kernel_rfl
theorem Qd{d:Nat}(a b a' b':Int)(w:World):(Op.equalIn (d+1+1) 46 (.agg #[.int .i64 a,.int .i64 b]) (.agg #[.int .i64 a',.int .i64 b'])).run Tryz.prog w=.ok (decide (a=a')&&decide (b=b')) w:=by
 have h:=aek
 obtain⟨f0,_,e0,h0,h⟩:=List.map_eq_cons_iff.1 h
 obtain⟨f1,_,e1,h1,h⟩:=List.map_eq_cons_iff.1 h
 have e2:=List.map_eq_nil_iff.1 h
 subst e2 e1
 simp only[Prod.mk.injEq,decide_eq_false_iff_not]at h0 h1
 rw[run_equalIn_struct w _ _ _ _ U1 (by kernel_rfl),e0,fq h0.1 h0.2.1 h0.2.2 rfl rfl,fq h1.1 h1.2.1 h1.2.2 rfl rfl,Cr]
 by_cases q1:a=a'<;>by_cases q2:b=b'<;>simp[q1,q2]
theorem ael:(Tryz.prog.fieldsOf 245).toList.map (λf=>(decide (f.name= "_"),f.type,f.offset))=[(false,3,0),(false,3,1),(false,3,2),(false,3,3),(false,3,4),(false,3,5)]:=by kernel_rfl
theorem aaQ:Tryz.prog.underlying 245=some (.struct (Tryz.prog.fieldsOf 245)):=by kernel_rfl
theorem aaR{i j:Nat}{ty u:TypeId}(uy:i≠j)(a b c d e f a' b' c' d' e' f':Int){A:HP}:
 aH Tryz.prog (bI (.binOp .eql 245 (.tmp i) (.tmp j) u) ty [(i,.agg #[.int .i64 a,.int .i64 b,.int .i64 c,.int .i64 d,.int .i64 e,.int .i64 f]),(j,.agg #[.int .i64 a',.int .i64 b',.int .i64 c',.int .i64 d',.int .i64 e',.int .i64 f'])]) A
  (.bool (decide (a=a')&&(decide (b=b')&&(decide (c=c')&&(decide (d=d')&&(decide (e=e')&&decide (f=f'))))))):=λw R h F s _=>by
 have h':(i==j)=false:=by simpa using uy
 have hg:Tryz.prog.eqGuardType Tryz.prog.depth 245=false:=by kernel_rfl
 have hq:(Op.equalIn 10000 245 (.agg #[.int .i64 a,.int .i64 b,.int .i64 c,.int .i64 d,.int .i64 e,.int .i64 f]) (.agg #[.int .i64 a',.int .i64 b',.int .i64 c',.int .i64 d',.int .i64 e',.int .i64 f'])).run Tryz.prog w=.ok (decide (a=a')&&(decide (b=b')&&(decide (c=c')&&(decide (d=d')&&(decide (e=e')&&decide (f=f')))))) w:=by
  have h:=ael
  obtain⟨f0,_,e0,h0,h⟩:=List.map_eq_cons_iff.1 h
  obtain⟨f1,_,e1,h1,h⟩:=List.map_eq_cons_iff.1 h
  obtain⟨f2,_,e2,h2,h⟩:=List.map_eq_cons_iff.1 h
  obtain⟨f3,_,e3,h3,h⟩:=List.map_eq_cons_iff.1 h
  obtain⟨f4,_,e4,h4,h⟩:=List.map_eq_cons_iff.1 h
  obtain⟨f5,_,e5,h5,h⟩:=List.map_eq_cons_iff.1 h
  have e6:=List.map_eq_nil_iff.1 h
  subst e6 e5 e4 e3 e2 e1
  simp only[Prod.mk.injEq,decide_eq_false_iff_not]at h0 h1 h2 h3 h4 h5
  rw[run_equalIn_struct w _ _ _ _ aaQ (by kernel_rfl),e0,fq h0.1 h0.2.1 h0.2.2 rfl rfl,fq h1.1 h1.2.1 h1.2.2 rfl rfl,fq h2.1 h2.2.1 h2.2.2 rfl rfl,fq h3.1 h3.2.1 h3.2.2 rfl rfl,fq h4.1 h4.2.1 h4.2.2 rfl rfl,fq h5.1 h5.2.1 h5.2.2 rfl rfl,Cr]
  by_cases q1:a=a'
  ·by_cases q2:b=b'
   ·by_cases q3:c=c'
    ·by_cases q4:d=d'
     ·by_cases q5:e=e'<;>by_cases q6:f=f'<;>simp[q1,q2,q3,q4,q5,q6]
     ·simp[q1,q2,q3,q4]
    ·simp[q1,q2,q3]
   ·simp[q1,q2]
  ·simp[q1]
 simp only[bI,execOp,jR,List.find?_cons,beq_self_eq_true,h']
 simp[eqGuard,hg,program,Sem.run_bind,Sem.run,Result.andThen,run_eql_struct,hq]
theorem aem:(Tryz.prog.fieldsOf 276).toList.map (λf=>(decide (f.name= "_"),f.type,f.offset))=[(false,3,0),(false,3,1),(false,3,2),(false,3,3),(false,46,4)]:=by kernel_rfl
theorem aaS:Tryz.prog.underlying 276=some (.struct (Tryz.prog.fieldsOf 276)):=by kernel_rfl
theorem aaT:(Tryz.prog.info? 46).map (λi=>(i.zero,i.size,i.bytes))=some (some (.agg #[.int .i64 0,.int .i64 0]),2,16):=by kernel_rfl
theorem aaU{i j:Nat}{ty u:TypeId}(uy:i≠j)(a b c d e f a' b' c' d' e' f':Int){A:HP}:
 aH Tryz.prog (bI (.binOp .eql 276 (.tmp i) (.tmp j) u) ty [(i,.agg #[.int .i64 a,.int .i64 b,.int .i64 c,.int .i64 d,.int .i64 e,.int .i64 f]),(j,.agg #[.int .i64 a',.int .i64 b',.int .i64 c',.int .i64 d',.int .i64 e',.int .i64 f'])]) A
  (.bool (decide (a=a')&&decide (b=b')&&decide (c=c')&&decide (d=d')&&(decide (e=e')&&decide (f=f')))):=λw R h F s _=>by
 have h':(i==j)=false:=by simpa using uy
 have hg:Tryz.prog.eqGuardType Tryz.prog.depth 276=false:=by kernel_rfl
 have hq:(Op.equalIn 10000 276 (.agg #[.int .i64 a,.int .i64 b,.int .i64 c,.int .i64 d,.int .i64 e,.int .i64 f]) (.agg #[.int .i64 a',.int .i64 b',.int .i64 c',.int .i64 d',.int .i64 e',.int .i64 f'])).run Tryz.prog w=.ok (decide (a=a')&&decide (b=b')&&decide (c=c')&&decide (d=d')&&(decide (e=e')&&decide (f=f'))) w:=by
  have h:=aem
  obtain⟨f0,_,e0,h0,h⟩:=List.map_eq_cons_iff.1 h
  obtain⟨f1,_,e1,h1,h⟩:=List.map_eq_cons_iff.1 h
  obtain⟨f2,_,e2,h2,h⟩:=List.map_eq_cons_iff.1 h
  obtain⟨f3,_,e3,h3,h⟩:=List.map_eq_cons_iff.1 h
  obtain⟨f4,_,e4,h4,h⟩:=List.map_eq_cons_iff.1 h
  have e6:=List.map_eq_nil_iff.1 h
  subst e6 e4 e3 e2 e1
  simp only[Prod.mk.injEq,decide_eq_false_iff_not]at h0 h1 h2 h3 h4
  obtain⟨AZ,hi,z1,z2,z3⟩:=info_parts aaT
  have pt:∀(a b c d e f:Int),(part 46 #[.int .i64 a,.int .i64 b,.int .i64 c,.int .i64 d,.int .i64 e,.int .i64 f] 4).run Tryz.prog w=.ok (.agg #[.int .i64 e,.int .i64 f]) w:=λa b c d e f=>by
   have hag:gF Tryz.prog 46=true:=by kernel_rfl
   simp only[part,Sem.run_bind,RX.hY U1,Result.andThen_ok,hag,if_true,RX.run_sizeOf hi,gr,z2,Sem.run_pure]
   rfl
  rw[run_equalIn_struct w _ _ _ _ aaS (by kernel_rfl),e0,fq h0.1 h0.2.1 h0.2.2 rfl rfl,fq h1.1 h1.2.1 h1.2.2 rfl rfl,fq h2.1 h2.2.1 h2.2.2 rfl rfl,fq h3.1 h3.2.1 h3.2.2 rfl rfl]
  have hl:(Op.eqFields 9999 #[.int .i64 a,.int .i64 b,.int .i64 c,.int .i64 d,.int .i64 e,.int .i64 f] #[.int .i64 a',.int .i64 b',.int .i64 c',.int .i64 d',.int .i64 e',.int .i64 f'] [f4]).run Tryz.prog w=.ok (decide (e=e')&&decide (f=f')) w:=by
   simp only[Op.eqFields,h4.2.1,h4.2.2,ne_eq,h4.1,not_false_eq_true,if_true,Sem.run_bind,pt,Result.andThen_ok,Qd (d:=9997)]
   by_cases q1:e=e'<;>by_cases q2:f=f'<;>simp[q1,q2]
  rw[hl]
  by_cases q1:a=a'<;>by_cases q2:b=b'<;>by_cases q3:c=c'<;>by_cases q4:d=d'<;>simp[q1,q2,q3,q4]
 simp only[bI,execOp,jR,List.find?_cons,beq_self_eq_true,h']
 simp[eqGuard,hg,program,Sem.run_bind,Sem.run,Result.andThen,run_eql_struct,hq]
section
variable (m q:MS)(ca:Option Addr)(cc:Nat)(va:Option Addr)(vc:Nat)(yB:Option Addr)(QY:Nat)(yC:Option Addr)(QZ:Nat)
abbrev DV(m:MS)(ca va:Option Addr):HP:=HP.an (m.bB ca) (m.bj va)
theorem GZ:ax Tryz.prog 123 #[.agg (m.cF ca cc va vc).aA,.agg (q.cF yB QY yC QZ).aA] (HP.an (m.bB ca) (HP.an (m.bj va) (DV q yB yC)))
 (λv=>HP.and (v=.bool (jG m q)) (HP.an (m.bB ca) (HP.an (m.bj va) (DV q yB yC)))):=by
 refine ah (ρ:=m.env ca cc va vc++q.env yB QY yC QZ) mixed Tryz.func123 yj ?_
 unfold wK MS.env jG
 refine cg ?_
 intro _ _
 refine⟨λh=>.of λR h' H=>⟨by simp[h],H⟩,λh=>⟨λh2=>.of λR h' H=>⟨by simp[h2],H⟩,λh2 _ _=>⟨_,aaR (by decide) _ _ _ _ _ _ _ _ _ _ _ _,.of λR h' H=>⟨?_,H⟩⟩⟩⟩
 have e1:m.bf=true:=by simpa using h
 have e2:q.bf=false:=by simpa using h2
 rw[e1,e2];rfl
theorem U2(x:Nat)(S:HP)(hS:∀R h,S.p R h->(q.bB yB).p R h/\(q.bj yC).p R h):
 ax Tryz.prog 122 #[.agg (q.cF yB QY yC QZ).aA,.pointer (some ⟨x,0,none⟩)] (HP.an S (HP.an (cU x (m.cF ca cc va vc)) (DV m ca va)))
 (λv=>HP.and (v=.bool (jG m q)) (HP.an S (HP.an (cU x (m.cF ca cc va vc)) (DV m ca va)))):=by
 have base:ax Tryz.prog 122 #[.agg (q.cF yB QY yC QZ).aA,.pointer (some ⟨x,0,none⟩)] (HP.an (q.bB yB) (HP.an (q.bj yC) (HP.an (cU x (m.cF ca cc va vc)) (DV m ca va))))
  (λv=>HP.and (v=.bool (jG m q)) (HP.an (q.bB yB) (HP.an (q.bj yC) (HP.an (cU x (m.cF ca cc va vc)) (DV m ca va))))):=by
  refine ah (ρ:=q.env yB QY yC QZ++([.n x]++m.env ca cc va vc)) mixed Tryz.func122 Cl ?_
  unfold Aj MS.env
  refine cg ?_
  intro _
  refine(GZ m q ca cc va vc yB QY yC QZ).ak (λ_ _ h=>h) ?_
  rintro v R h ⟨rfl,H⟩
  exact⟨_,rfl,.of λR h H=>⟨rfl,H⟩,H⟩
 refine base.be (K:=S) (.of λR h H=>?_) λv=>.of λR h ⟨h1,h2,d,l1,l2,⟨e,H⟩,HS⟩=>⟨e,?_⟩
 ·have hq:=hS R _ (HP.aj H)
  exact HP.ay (bb.join hq.1 (HP.ay (bb.join hq.2 (HP.ao H))))
 ·have H1:=HP.aq ⟨h1,h2,d,l1,l2,H,HS⟩
  have H2:=HP.aq (HP.ai H1)
  exact HP.ao (HP.ai H2)
theorem G0:ax Tryz.prog 211 #[.agg (m.cF ca cc va vc).aA] (DV m ca va) (λv=>HP.and (v=.agg #[.int .i64 m.to,.int .i64 m.kind,.int .i64 m.ep,.int .i64 m.at',.int .i64 m.br,.int .i64 m.bw]) (DV m ca va)):=by
 refine ah (ρ:=m.env ca cc va vc) mixed Tryz.func211 Cn ?_
 unfold Al MS.env
 refine cg ?_
 exact λ_ _=>.of λR h H=>⟨trivial,H⟩
theorem U3(x:Nat):ax Tryz.prog 210 #[.agg (q.cF yB QY yC QZ).aA,.pointer (some ⟨x,0,none⟩)] (HP.an (q.bB yB) (HP.an (q.bj yC) (HP.an (cU x (m.cF ca cc va vc)) (DV m ca va))))
 (λv=>HP.and (v=.bool (rN q m)) (HP.an (q.bB yB) (HP.an (q.bj yC) (HP.an (cU x (m.cF ca cc va vc)) (DV m ca va))))):=by
 refine ah (ρ:=q.env yB QY yC QZ++([.n x]++m.env ca cc va vc)) mixed Tryz.func210 Cm ?_
 unfold Ak MS.env
 refine cg ?_
 intro _
 refine(G0 q yB QY yC QZ).ak (λ_ _ h=>h) ?_
 rintro v R h ⟨rfl,H⟩
 refine⟨_,_,_,_,_,_,q.bB yB,q.bj yC,rfl,?_,H⟩
 refine(G0 m ca cc va vc).ak (λ_ _ h=>h) ?_
 rintro v R h ⟨rfl,H⟩
 refine⟨_,_,_,_,_,_,m.bB ca,m.bj va,rfl,?_,H⟩
 exact⟨_,aaU (by decide) _ _ _ _ _ _ _ _ _ _ _ _,.of λR h' H=>⟨rfl,H⟩⟩
theorem G1(x y:fh)(a b:Option Addr)(c d:Nat)(Sa Sb:HP)(hA:bR Sa a x.data.length (x.data.map fH))(hB:bR Sb b y.data.length (y.data.map fH)):
 ax Tryz.prog 101 #[x.val a c,y.val b d] (HP.an Sa Sb) (λv=>HP.and (v=.bool (Nw x y)) (HP.an Sa Sb)):=by
 refine ah (ρ:=[.i x.kind,.s x.path,.s x.bh,.i x.off,.i x.n,.a a,.n x.data.length,.n c,.p Sa,.i y.kind,.s y.path,.s y.bh,.i y.off,.i y.n,.a b,.n y.data.length,.n d,.p Sb]) mixed Tryz.func101 uN ?_
 unfold rU Nw
 refine cg ?_
 intro _ _
 have no:∀φ:Prop,∀ [Decidable φ],¬φ->(decide φ)=false:=λφ _ h=>decide_eq_false h
 refine⟨λh1=>⟨λh2=>⟨λh3=>⟨λh4=>⟨λh5=>?_,λh=>.of λR h' H=>⟨by simp[h],H⟩⟩,λh=>.of λR h' H=>⟨by simp[h],H⟩⟩,λh=>.of λR h' H=>⟨by simp[h],H⟩⟩,λh=>.of λR h' H=>⟨by simp[h],H⟩⟩,λh=>.of λR h' H=>⟨by simp[h],H⟩⟩
 refine(zW a _ c x.data b _ d y.data Sa Sb hA hB rfl rfl).ak (λ_ _ h=>h) ?_
 rintro v R h ⟨rfl,H⟩
 exact⟨_,rfl,.of λR h H=>⟨by simp[h1,h2,h3,h4,h5],H⟩,H⟩
end
set_option maxHeartbeats 1000000 in
theorem Qe(S:HP)(ep:Int)(a:Option Addr)(n c:Nat)(es:List iZ)(hS:∀R h,S.p R h->(Ls fu a n es).p R h)(hb:n<=1000000000)(hx:∀x∈es,x.l.length<=1000000000):
 ax Tryz.prog 40 #[.agg #[.int .i64 ep,.slice a n c]] S (λv=>HP.ex λa'=>HP.ex λc'=>HP.ex λb9:List iZ=>HP.and (v=.agg #[.int .i64 ep,.slice a' n c']/\b9.map (·.l)=es.map (·.l)) (HP.an (Ls fu a' n b9) S)):=by
 refine ax.bV (φ:=es.length=n) (λR h H=>(hS R h H).1) λhl=>?_
 refine ax.post (B:=λv=>HP.ex λa'=>HP.ex λc'=>HP.ex λb9:List iZ=>HP.and (v=.agg #[.int .i64 ep,.slice a' n c']/\b9.map (·.l)=es.map (·.l)) (HP.an (PL wj a' n c' b9) S)) ?_ λv=>λR h d ⟨a',c',b9,e,H⟩=>by
  obtain⟨R1,h1,q1,q2,q3,q4,H1⟩:=(HP.aV.an (PL.ez (K:=fu) (e:=71) (one:=o9) _ _ _ _) S) R h d H
  exact⟨R1,h1,q1,q2,q3,q4,a',c',b9,e,H1⟩
 refine ah (ρ:=[.i ep,.a a,.n n,.n c,.p S]) mixed Tryz.func40 uM ?_
 unfold rT
 refine cg ?_
 intro _ _
 refine(zn S a n c es hS hb).ak (λ_ _ h=>h) ?_
 rintro v R h ⟨a',c',rfl,H⟩
 have QW:n≠0->a'.isSome=true:=λhn=>PL.nG (HP.aj H) hn
 refine⟨a',n,c',PL wj a' n c' es,rfl,?_,H⟩
 clear H
 refine⟨λi P=>∃k:Nat,∃b9:List iZ,i=k/\k<=n/\P=PL wj a' n c' b9/\b9.map (·.l)=es.map (·.l),λi _=>n - i.toNat,⟨0,es,rfl,Nat.zero_le _,rfl,rfl⟩,?_⟩
 rintro _ _ ⟨k,b9,rfl,hk,rfl,he⟩
 have vS:b9.length=n:=by
  have:=congrArg List.length he
  simp at this;omega
 refine⟨λhlt=>⟨by omega,λ_=>⟨QW (by omega),λ_=>?_⟩⟩,λlN=>.of λR h H=>⟨a',c',b9,⟨rfl,he⟩,HP.ao H⟩⟩
 have kW:k<b9.length:=by omega
 have hg:b9[k]? =some b9[k]:=List.getElem?_eq_getElem kW
 have hm:b9[k]∈b9:=List.getElem_mem kW
 have nq:b9[k].l.length<=1000000000:=by
  have:b9[k].l∈es.map (·.l):=by rw[<-he];exact List.mem_map.2 ⟨_,hm,rfl⟩
  obtain⟨y,hy,e⟩:=List.mem_map.1 this
  rw[<-e];exact hx y hy
 refine⟨b9[k].a,b9[k].l.length,b9[k].c,aee hg,?_⟩
 refine(qm (PL wj a' n c' b9) b9[k].a b9[k].l.length b9[k].c b9[k].l (.of λR h H=>gT (HP.ai H.2) (fu.hp b9[k]) (List.mem_map.2 ⟨_,hm,rfl⟩)) rfl nq).ak (λ_ _ h=>h) ?_
 rintro v R h ⟨a2,c2,rfl,H⟩
 refine⟨a2,b9[k].l.length,c2,pp a2 b9[k].l.length b9[k].l,rfl,?_,H⟩
 clear H
 obtain⟨i,hi,_,hz,_⟩:=info_parts ql
 refine(PL.set (K:=wj) hi hz (a:=a') (n:=n) (c:=c') (l:=b9) (k:=k) (by omega) ⟨a2,c2,b9[k].l⟩ rfl HP.tt).ak (λR h H=>HP.ae H (λ_ h=>h) λz hz=>HP.az hz) ?_
 rintro v R h ⟨rfl,H⟩
 refine⟨PL wj a' n c' (b9.set k ⟨a2,c2,b9[k].l⟩),rfl,⟨aK _ (by omega) (by omega),λ_=>⟨⟨k+1,b9.set k ⟨a2,c2,b9[k].l⟩,by omega,by omega,rfl,?_⟩,by dsimp only;omega⟩⟩,HP.aj H⟩
 have e:(b9.set k b9[k]).map (·.l)=b9.map (·.l):=by rw[List.set_getElem_self]
 rw[List.map_set]at e⊢
 exact e.trans he
structure tq where
 α:Type
 F:RF α
 R:Nat->α->HP
 qI:α->eS->Prop
 CX:α->Int->Prop
 q8:∀b s,ax Tryz.prog 203 #[.pointer (some ⟨b,0,none⟩)] (R b s) (λv=>HP.and (v=.int .i64 (F.nx s)) (R b s))
 NF:∀b s,ax Tryz.prog 137 #[.pointer (some ⟨b,0,none⟩)] (R b s) (λv=>HP.and (v=.bool (F.lost s)) (R b s))
 NG:∀b s (x:eS) a c S,qI s x->bR S a x.data.length (x.data.map fH)->x.data.length<=c->(x.data.length≠0->a.isSome=true)->ax Tryz.prog 205 #[.pointer (some ⟨b,0,none⟩),.agg #[.int .i64 x.what,.slice a x.data.length c]] (HP.an (R b s) S) (λv=>HP.and (v=.tuple #[]) (HP.an (R b (F.take s x)) S))
 NH:∀b s low,CX s low->ax Tryz.prog 209 #[.pointer (some ⟨b,0,none⟩),.int .i64 low] (R b s) (λv=>HP.and (v=.tuple #[]) (R b (F.skip s low)))
 U4:∀b s k,ax Tryz.prog 270 #[.pointer (some ⟨b,0,none⟩),uJ k] (R b s) (λv=>HP.ex λda=>HP.ex λdc=>HP.ex λna=>HP.ex λnc=>HP.and (v=.tuple #[oJ ((F.aQ s k).getD {}) da dc na nc,.bool (F.aQ s k).isSome]) (HP.an (aO da ((F.aQ s k).getD {}).data.length ((F.aQ s k).getD {}).data) (HP.an (tY na ((F.aQ s k).getD {}).aL.length ((F.aQ s k).getD {}).aL) (R b s))))
structure py where
 pa:Option Addr
 pc:Nat
 kC:List iZ
 rb:Nat
 ya:Option Addr
 yc:Nat
 da:Option Addr
 dc:Nat
 ov:Option Addr
 la:Option Addr
 lc:Nat
 av:Option Addr
 mp:Nat
 oa:Option Addr
 oc:Nat
 kG:List js
 xa:Option Addr
 xc:Nat
 za:Option Addr
 zc:Nat
section
variable {I:tq}
def aen(j:KI)(r:py):List Value:=[.int .i64 j.i1,.int .i64 j.i2,.int .i64 j.i3,.int .i64 j.kind,.int .i64 j.step,.int .i64 j.lK,.slice r.ya j.pl.length r.yc,.int .i64 j.at',.int .i64 j.cell.what,.slice r.da j.cell.data.length r.dc,.pointer r.ov,.slice r.la j.left.length r.lc]
def cI(g:cE I.α)(r:py):List Value:=[.int .i64 g.node,.int .i64 g.fB,.int .i64 g.cv,.int .i64 g.bt.ep,.slice r.pa r.kC.length r.pc,.pointer (some ⟨r.rb,0,none⟩),.int .i64 g.oG,.int .i64 g.rM,.int .i64 g.num,.bool g.busy,
 .int .i64 g.bo.i1,.int .i64 g.bo.i2,.int .i64 g.bo.i3,.int .i64 g.bo.kind,.int .i64 g.bo.step,.int .i64 g.bo.lK,.slice r.ya g.bo.pl.length r.yc,.int .i64 g.bo.at',.int .i64 g.bo.cell.what,.slice r.da g.bo.cell.data.length r.dc,.pointer r.ov,.slice r.la g.bo.left.length r.lc,
 .pointer r.av,.int .i64 g.Y1,.map (some r.mp),.slice r.oa r.kG.length r.oc,.bool g.waits,.int .i64 g.id.1,.int .i64 g.id.2.1,.int .i64 g.id.2.2,.int .i64 g.aQ.bM,.int .i64 g.aQ.kind,.int .i64 g.aQ.size,.int .i64 g.aQ.d9,.slice r.xa g.aQ.data.length r.xc,.slice r.za g.aQ.aL.length r.zc]
def uO(ov:Option Addr):Option fO->HP
 |none=>HP.pure (ov=none)
 |some o=>HP.ex λob=>HP.and (ov=some ⟨ob,0,none⟩) (eg ob o)
def i5(av:Option Addr):Option bY->HP
 |none=>HP.pure (av=none)
 |some a=>HP.ex λab=>HP.and (av=some ⟨ab,0,none⟩) (gM ab a)
def u6(v:Value)(m:MS):HP:=HP.ex λca=>HP.ex λcc=>HP.ex λva=>HP.ex λvc=>HP.and (v=.agg (m.cF ca cc va vc).aA/\m.small) (HP.both (m.bB ca) (m.bj va))
theorem u6.gf:DQ u6:=λv x R h h' ⟨ca,cc,va,vc,e,H1,H2⟩=>⟨ca,cc,va,vc,e,H1,H2⟩
def tx(mp:Nat)(l:List (Int×MS)):HP:=eJ u6 iE mp (bL l)
def Y7(g:cE I.α)(r:py):HP:=
 ⟨λR h=>(Ls fu r.pa r.kC.length r.kC).p R h/\(aO r.ya g.bo.pl.length g.bo.pl).p R h/\(aO r.da g.bo.cell.data.length g.bo.cell.data).p R h/\(pp r.la g.bo.left.length g.bo.left).p R h/\(aO r.xa g.aQ.data.length g.aQ.data).p R h/\(tY r.za g.aQ.aL.length g.aQ.aL).p R h,
  λl l' ⟨a,b,c,d,e,f⟩=>⟨(Ls _ _ _ _).mono l l' a,(bb _ _ _ _).mono l l' b,(bb _ _ _ _).mono l l' c,(bb _ _ _ _).mono l l' d,(bb _ _ _ _).mono l l' e,(bb _ _ _ _).mono l l' f⟩⟩
structure CK(g:cE I.α)(r:py):Prop where
 p:r.kC.map (·.l)=g.bt.ch
 pb:r.kC.length<=1000/\∀x∈r.kC,x.l.length<=1000000
 y:g.bo.pl.length<=1000000
 d:g.bo.cell.data.length<=1000000/\g.bo.cell.data.length<=r.dc
 l:g.bo.left.length<=1000000
 o:r.kG.map (·.m)=g.out
 os:g.out.length<=1000000/\∀m∈g.out,m.small
 pn:g.bK.length<=1000000/\(g.bK.map (·.1)).Nodup/\∀y∈g.bK,y.2.small
def lv(g:cE I.α)(r:py):HP:=HP.an (I.R r.rb g.rp) (HP.an (uO r.ov g.bo.op) (HP.an (i5 r.av g.gx) (HP.an (tx r.mp g.bK) (HP.an (PL dE r.oa r.kG.length r.oc r.kG) (Y7 g r)))))
def PW(ty:TypeId)(b:Nat)(cs:Array Value)(Q:HP):HP:=HP.an (HP.one b (.cells cs ty (0,0))) Q
abbrev CW:=PW 118
def dt(b:Nat)(g:cE I.α)(r:py):HP:=CW b (cI g r).toArray (lv g r)
def b6(b:Nat)(g:cE I.α):HP:=HP.ex λr=>HP.and (CK g r) (dt b g r)
theorem b6.kF{f:FuncId}{args:Array Value}{b:Nat}{g:cE I.α}{S:HP}{B:Value->HP}(t:∀r,CK g r->ax Tryz.prog f args (HP.an (dt b g r) S) B):ax Tryz.prog f args (HP.an (b6 b g) S) B:=
 (ax.ex (A:=λr=>HP.and (CK g r) (HP.an (dt b g r) S)) λr=>ax.pure λh=>t r h).ak (λR h ⟨h1,h2,d,l1,l2,⟨r,e,H⟩,HS⟩=>⟨r,e,h1,h2,d,l1,l2,H,HS⟩) λ_ _ _ h=>h
theorem b6.kx{f:FuncId}{args:Array Value}{b:Nat}{g:cE I.α}{B:Value->HP}(t:∀r,CK g r->ax Tryz.prog f args (dt b g r) B):ax Tryz.prog f args (b6 b g) B:=ax.ex λr=>ax.pure λh=>t r h
theorem CW.VS{b:Nat}{cs:Array Value}{Q:HP}(g:cE I.α)(r:py)(hc:cs=(cI g r).toArray)(hok:CK g r){R h:PH}(H:(CW b cs Q).p R h)(hq:∀x,Q.p R x->(lv g r).p R x):(b6 b g).p R h:=⟨r,hok,by subst hc;exact HP.ae H (λ_ h=>h) hq⟩
section
variable {ty:TypeId}{b:Nat}{cs:Array Value}{Q:HP}{k:Nat}
theorem gn{t:TypeId}{d:TypeDesc}{v:Value}(hd:Tryz.prog.underlying t=some d)(ha:gF Tryz.prog t=false)(hz:gr Tryz.prog t=1)(hk:cs[k]? =some v):aH Tryz.prog (bG t (.pointer (some ⟨b,k,none⟩))) (PW ty b cs Q) v:=Sq hd ha hz (by rw[Array.getElem?_toList];exact hk)
theorem gW{x:Int}(hk:cs[k]? =some (.int .i64 x)):aH Tryz.prog (bG 3 (.pointer (some ⟨b,k,none⟩))) (PW ty b cs Q) (.int .i64 x):=gn pE A7 L7 hk
theorem U5{x:Bool}(hk:cs[k]? =some (.bool x)):aH Tryz.prog (bG 4 (.pointer (some ⟨b,k,none⟩))) (PW ty b cs Q) (.bool x):=gn DE DF uz hk
theorem ahQ{a:Option Addr}{n c:Nat}(hk:cs[k]? =some (.slice a n c)):aH Tryz.prog (bG 42 (.pointer (some ⟨b,k,none⟩))) (PW ty b cs Q) (.slice a n c):=gn lY DP SQ hk
theorem Y8{a:Option Addr}{n c:Nat}(hk:cs[k]? =some (.slice a n c)):aH Tryz.prog (bG 33 (.pointer (some ⟨b,k,none⟩))) (PW ty b cs Q) (.slice a n c):=gn lH (by kernel_rfl) (by kernel_rfl) hk
theorem m9:Tryz.prog.underlying 112=some (.map 3 48):=by kernel_rfl
theorem xr{m:Nat}(hk:cs[k]? =some (.map (some m))):aH Tryz.prog (bG 112 (.pointer (some ⟨b,k,none⟩))) (PW ty b cs Q) (.map (some m)):=gn m9 (by kernel_rfl) (by kernel_rfl) hk
theorem KU:Tryz.prog.underlying 113=some (.pointer 251):=by kernel_rfl
theorem KV:Tryz.prog.underlying 116=some (.pointer 227):=by kernel_rfl
theorem aaV:Tryz.prog.underlying 109=some (.pointer 158):=by kernel_rfl
theorem rW{v:Option Addr}(hk:cs[k]? =some (.pointer v)):aH Tryz.prog (bG 113 (.pointer (some ⟨b,k,none⟩))) (PW ty b cs Q) (dZ (.pointer v)):=gn KU (by kernel_rfl) (by kernel_rfl) hk
theorem Ar{v:Option Addr}(hk:cs[k]? =some (.pointer v)):aH Tryz.prog (bG 116 (.pointer (some ⟨b,k,none⟩))) (PW ty b cs Q) (dZ (.pointer v)):=gn KV (by kernel_rfl) (by kernel_rfl) hk
theorem xt{v:Option Addr}(hk:cs[k]? =some (.pointer v)):aH Tryz.prog (bG 109 (.pointer (some ⟨b,k,none⟩))) (PW ty b cs Q) (dZ (.pointer v)):=gn aaV (by kernel_rfl) (by kernel_rfl) hk
theorem yD{t:TypeId}{vs:List Value}(hd:(Tryz.prog.underlying t).isSome=true)(ha:gF Tryz.prog t=true)(hz:gr Tryz.prog t=vs.length)(hp:Nat.blt 0 vs.length=true)(hk:(cs.toList.drop k).take vs.length=vs):aH Tryz.prog (bG t (.pointer (some ⟨b,k,none⟩))) (PW ty b cs Q) (.agg vs.toArray):=by
 obtain⟨d,hd⟩:=Option.isSome_iff_exists.1 hd
 refine ZV hd ha hz (Nat.blt_eq.mp hp) λj v hj=>?_
 have hlt:=(List.getElem?_eq_some_iff.1 hj).1
 rw[<-hk,List.getElem?_take,if_pos hlt,List.getElem?_drop]at hj
 exact hj
theorem iT{t:TypeId}{x:Value}{cs':Array Value}(hi:(Tryz.prog.info? t).map (λi=>i.size)=some 1)(hx:x.cells= #[x])(h1:x.oneCell'=true)(hk:Nat.blt k cs.size=true)(hc:cs'=cs.setIfInBounds k x):aI Tryz.prog (bH t (.pointer (some ⟨b,k,none⟩)) x) (PW ty b cs Q) (λv=>HP.and (v=.tuple #[]) (PW ty b cs' Q)):=by
 obtain⟨i,hi,hz⟩:=Option.map_eq_some_iff.1 hi
 exact Sr hi hz hx h1 (Nat.blt_eq.mp hk) hc Q
theorem G2{t:TypeId}{x:Value}{vs:List Value}{cs':Array Value}(hi:(Tryz.prog.info? t).map (λi=>i.size)=some vs.length)(hx:x.cells=vs.toArray)(hp:Nat.blt 0 vs.length=true)(h1:vs.all (λv=>v.oneCell')=true)(hk:Nat.ble (k+vs.length) cs.size=true)(hc:cs'.toList=cs.toList.take k++vs++cs.toList.drop (k+vs.length)):
 aI Tryz.prog (bH t (.pointer (some ⟨b,k,none⟩)) x) (PW ty b cs Q) (λv=>HP.and (v=.tuple #[]) (PW ty b cs' Q)):=by
 obtain⟨i,hi,hz⟩:=Option.map_eq_some_iff.1 hi
 exact ZW hi hx hz (Nat.blt_eq.mp hp) (λv hv=>List.all_eq_true.1 h1 v hv) (Nat.ble_eq.mp hk) hc Q
theorem CW.If{cs:Array Value}{Q S:HP}{R h:PH}(H:(HP.an (PW ty b cs Q) S).p R h):(PW ty b cs (HP.an Q S)).p R h:=HP.aq H
theorem CW.aeo{cs:Array Value}{Q S:HP}{R h:PH}(H:(PW ty b cs (HP.an Q S)).p R h):(HP.an (PW ty b cs Q) S).p R h:=HP.ay H
end
def At(g:cE I.α)(r:py):List HP:=[I.R r.rb g.rp,uO r.ov g.bo.op,i5 r.av g.gx,tx r.mp g.bK,PL dE r.oa r.kG.length r.oc r.kG,Y7 g r]
section
variable {ty:TypeId}{b:Nat}{cs:Array Value}{L:List HP}{k:Nat}{X K:HP}{γ:Type}{X':γ->HP}{φ:Value->γ->Prop}{P:γ->HP}
theorem CW.kT(hk:L[k]? =some X){R h:PH}(H:(HP.an (PW ty b cs (aX L)) K).p R h):(HP.an (HP.an X K) (HP.an (HP.one b (.cells cs ty (0,0))) (aX (L.eraseIdx k)))).p R h:=by
 have H1:=HP.aq H
 have H2:=HP.ae H1 (λ_ h=>h) λy hy=>HP.aq (HP.ae hy (λz hz=>ko hk hz) λ_ h=>h)
 have H3:=HP.pick [_,X,aX (L.eraseIdx k),K] [1,3,0,2] (by decide) rfl H2
 exact HP.ay H3
theorem CW.jZ(hk:L[k]? =some X){X2 P2:HP}{R h:PH}(H:(HP.an (HP.an X2 P2) (HP.an (HP.one b (.cells cs ty (0,0))) (aX (L.eraseIdx k)))).p R h):(HP.an (PW ty b cs (aX (L.set k X2))) P2).p R h:=by
 have hlt:k<L.length:=(List.getElem?_eq_some_iff.1 hk).1
 have H1:=HP.pick [X2,P2,_,aX (L.eraseIdx k)] [2,0,3,1] (by decide) rfl (HP.aq H)
 have H2:=HP.ae H1 (λ_ h=>h) λy hy=>HP.ae (HP.ay hy) (λz hz=>iH hlt hz) λ_ h=>h
 exact HP.ay H2
theorem eY{f:FuncId}{args:Array Value}(hk:L[k]? =some X)(t:ax Tryz.prog f args (HP.an X K) (λv=>HP.ex λy:γ=>HP.and (φ v y) (HP.an (X' y) (P y)))):
 ax Tryz.prog f args (HP.an (PW ty b cs (aX L)) K) (λv=>HP.ex λy:γ=>HP.and (φ v y) (HP.an (PW ty b cs (aX (L.set k (X' y)))) (P y))):=
 (t.frame (HP.an (HP.one b (.cells cs ty (0,0))) (aX (L.eraseIdx k)))).ak (λR h H=>CW.kT hk H) λv R h ⟨h1,h2,d,l1,l2,⟨y,e,H⟩,HU⟩=>⟨y,e,CW.jZ hk ⟨h1,h2,d,l1,l2,H,HU⟩⟩
theorem lw{o:Sem Next}(hk:L[k]? =some X)(t:aI Tryz.prog o (HP.an X K) (λv=>HP.ex λy:γ=>HP.and (φ v y) (HP.an (X' y) (P y)))):
 aI Tryz.prog o (HP.an (PW ty b cs (aX L)) K) (λv=>HP.ex λy:γ=>HP.and (φ v y) (HP.an (PW ty b cs (aX (L.set k (X' y)))) (P y))):=
 (t.frame (HP.an (HP.one b (.cells cs ty (0,0))) (aX (L.eraseIdx k)))).ak (λR h H=>CW.kT hk H) λv R h ⟨h1,h2,d,l1,l2,⟨y,e,H⟩,HU⟩=>⟨y,e,CW.jZ hk ⟨h1,h2,d,l1,l2,H,HU⟩⟩
theorem XF(hk:L[k]? =some X):L.set k X=L:=by
 refine List.ext_getElem? λj=>?_
 rw[List.getElem?_set]
 split
 ·rename_i e;subst e;rw[if_pos (List.getElem?_eq_some_iff.1 hk).1,hk]
 ·rfl
theorem oN{f:FuncId}{args:Array Value}(hk:L[k]? =some X)(t:ax Tryz.prog f args X (λv=>HP.ex λy:γ=>HP.and (φ v y) (HP.an (P y) X))):
 ax Tryz.prog f args (PW ty b cs (aX L)) (λv=>HP.ex λy:γ=>HP.and (φ v y) (HP.an (P y) (PW ty b cs (aX L)))):=by
 have h:=eY (ty:=ty) (b:=b) (cs:=cs) (K:=HP.tt) (X':=λ_=>X) (φ:=φ) (P:=P) hk (t.ak (λR h H=>HP.aj H) λv R h ⟨y,e,H⟩=>⟨y,e,HP.ao H⟩)
 rw[XF hk]at h
 exact h.ak (λR h H=>HP.az H) λv R h ⟨y,e,H⟩=>⟨y,e,HP.ao H⟩
theorem mz{f:FuncId}{args:Array Value}{ψ:Value->Prop}(hk:L[k]? =some X)(t:ax Tryz.prog f args X (λv=>HP.and (ψ v) X)):
 ax Tryz.prog f args (PW ty b cs (aX L)) (λv=>HP.and (ψ v) (PW ty b cs (aX L))):=
 (oN (ty:=ty) (γ:=Unit) (φ:=λv _=>ψ v) (P:=λ_=>HP.tt) (b:=b) (cs:=cs) hk (t.ak (λ_ _ h=>h) λv R h ⟨e,H⟩=>⟨(),e,HP.aM H⟩)).ak (λ_ _ h=>h) λv R h ⟨_,e,H⟩=>⟨e,HP.ai H⟩
end
theorem uO.kF{f:FuncId}{args:Value->Array Value}{ov:Option Addr}{o:fO}{K:HP}{γ:Type}{φ:Value->γ->Prop}{o':γ->fO}{P:γ->HP}(t:∀ob,ax Tryz.prog f (args (.pointer (some ⟨ob,0,none⟩))) (HP.an (eg ob o) K) (λv=>HP.ex λy=>HP.and (φ v y) (HP.an (eg ob (o' y)) (P y)))):
 ax Tryz.prog f (args (dZ (.pointer ov))) (HP.an (uO ov (some o)) K) (λv=>HP.ex λy=>HP.and (φ v y) (HP.an (uO ov (some (o' y))) (P y))):=by
 refine(ax.ex (A:=λob=>HP.and (ov=some ⟨ob,0,none⟩) (HP.an (eg ob o) K)) λob=>ax.pure λe=>?_).ak (λR h ⟨h1,h2,d,l1,l2,⟨ob,e,H⟩,HK⟩=>⟨ob,e,h1,h2,d,l1,l2,H,HK⟩) λ_ _ _ h=>h
 subst e
 exact(t ob).ak (λ_ _ h=>h) λv R h ⟨y,e,H⟩=>⟨y,e,HP.ae H (λx hx=>⟨ob,rfl,hx⟩) λ_ h=>h⟩
theorem i5.kF{f:FuncId}{args:Value->Array Value}{av:Option Addr}{a:bY}{K:HP}{γ:Type}{φ:Value->γ->Prop}{a':γ->bY}{P:γ->HP}(t:∀ab,ax Tryz.prog f (args (.pointer (some ⟨ab,0,none⟩))) (HP.an (gM ab a) K) (λv=>HP.ex λy=>HP.and (φ v y) (HP.an (gM ab (a' y)) (P y)))):
 ax Tryz.prog f (args (dZ (.pointer av))) (HP.an (i5 av (some a)) K) (λv=>HP.ex λy=>HP.and (φ v y) (HP.an (i5 av (some (a' y))) (P y))):=by
 refine(ax.ex (A:=λab=>HP.and (av=some ⟨ab,0,none⟩) (HP.an (gM ab a) K)) λab=>ax.pure λe=>?_).ak (λR h ⟨h1,h2,d,l1,l2,⟨ab,e,H⟩,HK⟩=>⟨ab,e,h1,h2,d,l1,l2,H,HK⟩) λ_ _ _ h=>h
 subst e
 exact(t ab).ak (λ_ _ h=>h) λv R h ⟨y,e,H⟩=>⟨y,e,HP.ae H (λx hx=>⟨ab,rfl,hx⟩) λ_ h=>h⟩
theorem uO.U6{f:FuncId}{args:Value->Array Value}{ov:Option Addr}{o:fO}{γ:Type}{φ:Value->γ->Prop}{P:γ->HP}(t:∀ob,ax Tryz.prog f (args (.pointer (some ⟨ob,0,none⟩))) (eg ob o) (λv=>HP.ex λy=>HP.and (φ v y) (HP.an (P y) (eg ob o)))):
 ax Tryz.prog f (args (dZ (.pointer ov))) (uO ov (some o)) (λv=>HP.ex λy=>HP.and (φ v y) (HP.an (P y) (uO ov (some o)))):=
 (uO.kF (K:=HP.tt) (o':=λ_=>o) (φ:=φ) (P:=P) λob=>(t ob).ak (λR h H=>HP.aj H) λv R h ⟨y,e,H⟩=>⟨y,e,HP.ao H⟩).ak (λR h H=>HP.az H) λv R h ⟨y,e,H⟩=>⟨y,e,HP.ao H⟩
theorem i5.U6{f:FuncId}{args:Value->Array Value}{av:Option Addr}{a:bY}{γ:Type}{φ:Value->γ->Prop}{P:γ->HP}(t:∀ab,ax Tryz.prog f (args (.pointer (some ⟨ab,0,none⟩))) (gM ab a) (λv=>HP.ex λy=>HP.and (φ v y) (HP.an (P y) (gM ab a)))):
 ax Tryz.prog f (args (dZ (.pointer av))) (i5 av (some a)) (λv=>HP.ex λy=>HP.and (φ v y) (HP.an (P y) (i5 av (some a)))):=
 (i5.kF (K:=HP.tt) (a':=λ_=>a) (φ:=φ) (P:=P) λab=>(t ab).ak (λR h H=>HP.aj H) λv R h ⟨y,e,H⟩=>⟨y,e,HP.ao H⟩).ak (λR h H=>HP.az H) λv R h ⟨y,e,H⟩=>⟨y,e,HP.ao H⟩
theorem uO.read{f:FuncId}{args:Value->Array Value}{ov:Option Addr}{o:fO}{ψ:Value->Prop}(t:∀ob,ax Tryz.prog f (args (.pointer (some ⟨ob,0,none⟩))) (eg ob o) (λv=>HP.and (ψ v) (eg ob o))):
 ax Tryz.prog f (args (dZ (.pointer ov))) (uO ov (some o)) (λv=>HP.and (ψ v) (uO ov (some o))):=
 (uO.U6 (γ:=Unit) (φ:=λv _=>ψ v) (P:=λ_=>HP.tt) λob=>(t ob).ak (λ_ _ h=>h) λv R h ⟨e,H⟩=>⟨(),e,HP.aM H⟩).ak (λ_ _ h=>h) λv R h ⟨_,e,H⟩=>⟨e,HP.ai H⟩
theorem i5.read{f:FuncId}{args:Value->Array Value}{av:Option Addr}{a:bY}{ψ:Value->Prop}(t:∀ab,ax Tryz.prog f (args (.pointer (some ⟨ab,0,none⟩))) (gM ab a) (λv=>HP.and (ψ v) (gM ab a))):
 ax Tryz.prog f (args (dZ (.pointer av))) (i5 av (some a)) (λv=>HP.and (ψ v) (i5 av (some a))):=
 (i5.U6 (γ:=Unit) (φ:=λv _=>ψ v) (P:=λ_=>HP.tt) λab=>(t ab).ak (λ_ _ h=>h) λv R h ⟨e,H⟩=>⟨(),e,HP.aM H⟩).ak (λ_ _ h=>h) λv R h ⟨_,e,H⟩=>⟨e,HP.ai H⟩
end
section
variable {I:tq}{b:Nat}{g:cE I.α}{r:py}
theorem Cs:(Tryz.prog.info? 4).map (λi=>i.size)=some 1:=by kernel_rfl
theorem rX:(Tryz.prog.info? 3).map (λi=>i.size)=some 1:=by kernel_rfl
theorem KW:(Tryz.prog.info? 33).map (λi=>i.size)=some 1:=by kernel_rfl
theorem qC:(Tryz.prog.info? 113).map (λi=>i.size)=some 1:=by kernel_rfl
theorem KX:(Tryz.prog.info? 116).map (λi=>i.size)=some 1:=by kernel_rfl
theorem U7:(Tryz.prog.info? 56).map (λi=>i.size)=some 3:=by kernel_rfl
theorem U8:(Tryz.prog.info? 59).map (λi=>i.size)=some 6:=by kernel_rfl
theorem U9:(Tryz.prog.info? 115).map (λi=>i.size)=some 12:=by kernel_rfl
theorem aaW:(Tryz.prog.info? 29).map (λi=>i.size)=some 2:=by kernel_rfl
theorem aaX{mp:Nat}{l:List (Int×MS)}{K:HP}:aI Tryz.prog (yb 112 0 (.map (some mp))) (HP.an (tx mp l) K) (λv=>HP.and (v=.tuple #[]) (HP.an (tx mp []) K)):=by
 refine(aI.frame (B:=λv=>HP.and (v=.tuple #[]) (tx mp [])) ?_ K).ak (λ_ _ h=>h) λv R h ⟨h1,h2,d,l1,l2,⟨e,H⟩,HK⟩=>⟨e,h1,h2,d,l1,l2,H,HK⟩
 rintro w R h F s ⟨al,c,hI,h1,h2,d,l1,l2,H1,H2⟩
 have hw:=s.oh _ _ (l1 _ _ H1)
 have e7:(yb 112 0 (.map (some mp))).run Tryz.prog w=.ok (.value (.tuple #[])) (World.setObj w mp (aJ iE ([]:AL Int) c)):=by
  unfold aJ at hw
  unfold yb Builtin.clear_
  simp[RX.run_underlying m9,Sem.run_bind,getObj,Go.setObj,Sem.run,hw,aJ,World.setObj,Result.andThen]
 exact⟨.value (.tuple #[]),_,_,e7,rfl,Same.setObj _ _ _,R,_,PH.le.refl _,s.setObj (l1 _ _ H1),rfl,[],c,iJ.nil c,_,PH.cz,PH.gq _,PH.le.refl _,PH.cT _,if_pos rfl,lG.nil⟩
set_option maxHeartbeats 1000000 in
theorem xv(a:eV)(da:Option Addr)(dc:Nat)(na:Option Addr)(nc:Nat):ax Tryz.prog 142 #[.pointer (some ⟨b,0,none⟩),oJ a da dc na nc] (HP.an (b6 b g) (HP.an (aO da a.data.length a.data) (tY na a.aL.length a.aL))) (λv=>HP.and (v=.tuple #[]) (b6 b (Ch g a))):=by
 refine b6.kF λr hok=>?_
 refine ah (ρ:=[.n b,.p (dt b g r),.i a.bM,.i a.kind,.i a.size,.i a.d9,.a da,.n a.data.length,.n dc,.p (aO da a.data.length a.data),.a na,.n a.aL.length,.n nc,.p (tY na a.aL.length a.aL)]) mixed Tryz.func142 KP ?_
 unfold ND
 simp only[T.den,E.prop,E.den,RX.look,F1.app,F2.app,aP.dH,aP.dP,aP.cr,aP.eQ,aP.e9,aP.fw,aP.ju,bg,dB,V.den,W.den,A.den,BR.den,SA.den,FV.den,iX,nF,nK,fj,g5.app,List.map_cons,List.map_nil,List.cons_append,List.nil_append,List.drop_succ_cons,List.drop_zero,List.length_cons,List.length_nil,Nat.zero_add,Nat.reduceAdd,Int.neg_neg,Bool.not_not,List.append_nil,Nat.add_zero,List.getElem?_cons_zero,List.getElem?_cons_succ,Decidable.not_not,cu,dg,cJ,ne_eq,Nat.reduceEqDiff,not_false_eq_true,mN]
 intro _
 refine⟨_,_,_,yD (vs:=[.int .i64 g.bo.i1,.int .i64 g.bo.i2,.int .i64 g.bo.i3]) (by kernel_rfl) (by kernel_rfl) (by kernel_rfl) rfl rfl,?_⟩
 refine nC (iT Cs rfl rfl rfl rfl) (nC (G2 (vs:=[.int .i64 g.bo.i1,.int .i64 g.bo.i2,.int .i64 g.bo.i3]) (cs':=(cI {g with waits:=true,id:=(g.bo.i1,g.bo.i2,g.bo.i3)} r).toArray) U7 rfl rfl rfl rfl rfl) ?_)
 let r1:py:={r with xa:=da,xc:=dc,za:=na,zc:=nc}
 refine(((G2 (vs:=[.int .i64 a.bM,.int .i64 a.kind,.int .i64 a.size,.int .i64 a.d9,.slice da a.data.length dc,.slice na a.aL.length nc]) (cs':=(cI {g with waits:=true,id:=(g.bo.i1,g.bo.i2,g.bo.i3),aQ:=a} r1).toArray) U8 rfl rfl rfl rfl rfl).frame (HP.an (aO da a.data.length a.data) (tY na a.aL.length a.aL))).ak (λ_ _ h=>h) ?_)
 rintro v R h ⟨g1,g2,d,l1,l2,⟨rfl,H⟩,HU⟩
 refine⟨_,rfl,?_,g1,g2,d,l1,l2,H,HU⟩
 clear H HU d l1 l2
 refine nC (iT (cs':=(cI {g with waits:=true,id:=(g.bo.i1,g.bo.i2,g.bo.i3),aQ:=a,busy:=false} r1).toArray) Cs rfl rfl rfl rfl) ?_
 let r2:py:={r1 with ya:=none,yc:=0,da:=none,dc:=0,ov:=none,la:=none,lc:=0}
 refine nC (G2 (vs:=aen KJ r2) (cs':=(cI {g with waits:=true,id:=(g.bo.i1,g.bo.i2,g.bo.i3),aQ:=a,busy:=false,bo:=KJ} r2).toArray) U9 rfl rfl rfl rfl rfl) ?_
 let r3:py:={r2 with av:=none}
 refine nC (iT (cs':=(cI {g with waits:=true,id:=(g.bo.i1,g.bo.i2,g.bo.i3),aQ:=a,busy:=false,bo:=KJ,gx:=none} r3).toArray) KX rfl rfl rfl rfl) ?_
 refine⟨r.mp,xr rfl,?_⟩
 refine((lw (γ:=Unit) (k:=3) (K:=HP.tt) (X':=λ_=>tx r.mp []) (P:=λ_=>HP.tt) (φ:=λv _=>v=.tuple #[]) (L:=At g r) rfl (aaX.ak (λ_ _ h=>h) λv R h ⟨e,H⟩=>⟨(),e,H⟩)).ak (λR h H=>HP.az H) ?_)
 rintro v R h ⟨_,rfl,H⟩
 refine⟨_,rfl,?_,HP.aj H⟩
 clear H
 refine nC (iT (cs':=(cI (Ch g a) {r3 with oa:=none,oc:=0,kG:=[]}).toArray) KW rfl rfl rfl rfl) (.of λR h H=>⟨trivial,?_⟩)
 have hD:=HP.aj (HP.ai H)
 have hN:=HP.ai (HP.ai H)
 refine CW.VS (g:=Ch g a) {r3 with oa:=none,oc:=0,kG:=[]} rfl ⟨hok.p,hok.pb,Nat.zero_le _,⟨Nat.zero_le _,Nat.le_refl _⟩,Nat.zero_le _,rfl,⟨Nat.zero_le _,λm hm=>by cases hm⟩,⟨Nat.zero_le _,List.nodup_nil,λy hy=>by cases hy⟩⟩ (HP.aj H) λx hx=>?_
 have H1:=HP.pick [I.R r.rb g.rp,uO r.ov g.bo.op,i5 r.av g.gx,tx r.mp [],PL dE r.oa r.kG.length r.oc r.kG,Y7 g r] [0,3,5] (by decide) rfl hx
 have hro:=HP.ai (HP.ai H1)
 refine HP.ae H1 (λ_ h=>h) λy hy=>⟨PH.cz,y,PH.dY _,PH.cT _,PH.le.refl _,rfl,PH.cz,y,PH.dY _,PH.cT _,PH.le.refl _,rfl,HP.ae hy (λ_ h=>h) λz hz=>⟨PH.cz,z,PH.dY _,PH.cT _,PH.le.refl _,PL.nX _ _ _,?_⟩⟩
 exact⟨Ls.gf _ hro.1,bb.nil _ _ _ _,bb.nil _ _ _ _,bb.nil _ _ _ _,hD,hN⟩
theorem ahR{o:Sem Next}{cs cs':Array Value}{Q S:HP}{K:HP->Prop}(t:aI Tryz.prog o (CW b cs Q) λv=>HP.and (v=.tuple #[]) (CW b cs' Q))(k:K (CW b cs' (HP.an Q S))):aI Tryz.prog o (HP.an (CW b cs Q) S) λv=>HP.ex λQ'=>HP.and (v=.tuple #[]) (HP.and (K Q') Q'):=
 (t.frame S).ak (λ_ _ h=>h) λ_ _ _ ⟨h1,h2,d,l1,l2,⟨e,H⟩,HS⟩=>⟨_,e,k,CW.If ⟨h1,h2,d,l1,l2,H,HS⟩⟩
theorem HP.yE{A B:HP}{R h:PH}(f:∀x,A.p R x)(H:B.p R h):(HP.an A B).p R h:=⟨PH.cz,h,PH.dY _,PH.cT _,PH.le.refl _,f _,H⟩
theorem lv.gx{a:bY}{ab:Nat}{R h:PH}(H:(HP.an (lv g r) (gM ab a)).p R h):(lv {g with gx:=some a} {r with av:=some ⟨ab,0,none⟩}).p R h:=by
 have H0:(aX [I.R r.rb g.rp,uO r.ov g.bo.op,i5 r.av g.gx,tx r.mp g.bK,PL dE r.oa r.kG.length r.oc r.kG,Y7 g r,gM ab a]).p R h:=by
  have H1:=HP.aq H
  exact HP.ae H1 (λ_ h=>h) λx hx=>HP.ae (HP.aq hx) (λ_ h=>h) λy hy=>HP.ae (HP.aq hy) (λ_ h=>h) λz hz=>HP.ae (HP.aq hz) (λ_ h=>h) λu hu=>HP.aq hu
 have H1:=HP.pick _ [0,1,6,3,4,5] (by decide) rfl H0
 exact HP.ae H1 (λ_ h=>h) λx hx=>HP.ae hx (λ_ h=>h) λy hy=>HP.ae hy (λ_ h=>⟨ab,rfl,h⟩) λ_ h=>h
theorem lv.op{o:fO}{ob:Nat}{R h:PH}(H:(HP.an (lv g r) (eg ob o)).p R h):(lv (g.bQ (some o)) {r with ov:=some ⟨ob,0,none⟩}).p R h:=by
 have H0:(aX [I.R r.rb g.rp,uO r.ov g.bo.op,i5 r.av g.gx,tx r.mp g.bK,PL dE r.oa r.kG.length r.oc r.kG,Y7 g r,eg ob o]).p R h:=by
  have H1:=HP.aq H
  exact HP.ae H1 (λ_ h=>h) λx hx=>HP.ae (HP.aq hx) (λ_ h=>h) λy hy=>HP.ae (HP.aq hy) (λ_ h=>h) λz hz=>HP.ae (HP.aq hz) (λ_ h=>h) λu hu=>HP.aq hu
 have H1:=HP.pick _ [0,6,2,3,4,5] (by decide) rfl H0
 exact HP.ae H1 (λ_ h=>h) λx hx=>HP.ae hx (λ_ h=>⟨ob,rfl,h⟩) λ_ h=>h
theorem lv.op0{R h:PH}(H:(lv g r).p R h):(lv (g.bQ none) {r with ov:=none}).p R h:=HP.ae H (λ_ h=>h) λx hx=>HP.ae hx (λy _=>rfl) λ_ h=>h
theorem lv.ro{R h:PH}(H:(lv g r).p R h):(Y7 g r).p R h:=HP.ai (HP.ai (HP.ai (HP.ai (HP.ai H))))
theorem CW.ro{cs:Array Value}{R h:PH}(H:(CW b cs (lv g r)).p R h):(Y7 g r).p R h:=lv.ro (HP.ai H)
theorem jq:ax Tryz.prog 107 #[.pointer (some ⟨b,0,none⟩)] (b6 b g) (λv=>HP.and (v=.tuple #[]) (b6 b (jT g))):=by
 refine ah (ρ:=[.n b,.p (b6 b g)]) mixed Tryz.func107 GM ?_
 unfold GL
 refine cg ?_
 exact cG ((xv {bM:=30} none 0 none 0).ak (λR h H=>HP.ao (HP.ay (HP.yE (λ_=>bb.nil _ _ _ _) (HP.yE (λ_=>bb.nil _ _ _ _) H)))) λ_ _ _ h=>h) (.of λR h H=>⟨trivial,H⟩)
theorem Au:ax Tryz.prog 33 #[.pointer (some ⟨b,0,none⟩)] (b6 b g) (λv=>HP.and (v=.bool g.busy) (b6 b g)):=by
 refine b6.kx λr hok=>?_
 refine ah (ρ:=[.n b,.p (dt b g r)]) mixed Tryz.func33 GK ?_
 unfold GJ
 refine cg ?_
 exact⟨_,U5 rfl,.of λR x H=>⟨rfl,r,hok,H⟩⟩
theorem Va:ax Tryz.prog 29 #[.pointer (some ⟨b,0,none⟩)] (b6 b g) (λv=>HP.ex λa=>HP.ex λc=>HP.ex λes:List js=>HP.and (v=.slice a es.length c/\es.map (·.m)=g.out) (HP.an (PL dE a es.length c es) (b6 b (KL g)))):=by
 refine b6.kx λr hok=>?_
 refine ah (ρ:=[.n b,.p (dt b g r)]) mixed Tryz.func29 KQ ?_
 unfold NE
 refine cg ?_
 refine⟨_,_,_,Y8 rfl,nC (iT (cs':=(cI (KL g) {r with oa:=none,oc:=0,kG:=[]}).toArray) KW rfl rfl rfl rfl) (.of λR h H=>⟨r.oa,r.oc,r.kG,⟨rfl,hok.o⟩,?_⟩)⟩
 have H1:=HP.pick [_,I.R r.rb g.rp,uO r.ov g.bo.op,i5 r.av g.gx,tx r.mp g.bK,PL dE r.oa r.kG.length r.oc r.kG,Y7 g r] [5,0,1,2,3,4,6] (by decide) rfl H
 refine HP.ae H1 (λ_ h=>h) λy hy=>⟨{r with oa:=none,oc:=0,kG:=[]},⟨hok.p,hok.pb,hok.y,hok.d,hok.l,rfl,⟨Nat.zero_le _,λm hm=>by cases hm⟩,hok.pn⟩,HP.ae hy (λ_ h=>h) λz hz=>HP.ae hz (λ_ h=>h) λu hu=>HP.ae hu (λ_ h=>h) λw hw=>HP.ae hw (λ_ h=>h) λq hq=>HP.ae hq (λ_ h=>h) λp hp=>HP.yE (λ_=>PL.nX _ _ _) hp⟩
set_option maxHeartbeats 1000000 in
theorem G3:ax Tryz.prog 31 #[.pointer (some ⟨b,0,none⟩)] (b6 b g) (λv=>HP.ex λda=>HP.ex λdc=>HP.ex λna=>HP.ex λnc=>HP.and (v=.tuple #[if g.waits=true then uJ g.id else uJ (0,0,0),if g.waits=true then oJ g.aQ da dc na nc else oJ {} none 0 none 0,.bool g.waits]) (HP.an (aO da g.aQ.data.length g.aQ.data) (HP.an (tY na g.aQ.aL.length g.aQ.aL) (b6 b (fJ g))))):=by
 refine b6.kx λr hok=>?_
 refine ah (ρ:=[.n b,.p (dt b g r)]) mixed Tryz.func31 yx ?_
 unfold xl
 refine cg ?_
 intro _ _
 refine⟨_,U5 rfl,λh=>?_,λh=>?_⟩
 ·refine .of λR x H=>⟨r.xa,r.xc,r.za,r.zc,?_,?_⟩
  ·have e:g.waits=false:=by simpa using h
   rw[e];rfl
  ·have hro:=CW.ro H
   refine bb.join hro.2.2.2.2.1 (bb.join hro.2.2.2.2.2 ?_)
   unfold fJ
   rw[if_neg h]
   exact⟨r,hok,H⟩
 have hw:g.waits=true:=by simpa using h
 refine⟨λ_ _ e k s l da dn dc na nn nc i1 i2 i3=>e=g.aQ.bM/\k=g.aQ.kind/\s=g.aQ.size/\l=g.aQ.d9/\da=r.xa/\dn=g.aQ.data.length/\dc=r.xc/\na=r.za/\nn=g.aQ.aL.length/\nc=r.zc/\i1=g.id.1/\i2=g.id.2.1/\i3=g.id.2.2,?_,?_⟩
 ·refine⟨_,_,_,yD (vs:=[.int .i64 g.id.1,.int .i64 g.id.2.1,.int .i64 g.id.2.2]) (by kernel_rfl) (by kernel_rfl) (by kernel_rfl) rfl rfl,_,_,_,_,_,_,_,_,_,_,yD (vs:=[.int .i64 g.aQ.bM,.int .i64 g.aQ.kind,.int .i64 g.aQ.size,.int .i64 g.aQ.d9,.slice r.xa g.aQ.data.length r.xc,.slice r.za g.aQ.aL.length r.zc]) (by kernel_rfl) (by kernel_rfl) (by kernel_rfl) rfl rfl,?_,?_⟩
  ·exact λ_ _=>⟨rfl,rfl,rfl,rfl,rfl,rfl,rfl,rfl,rfl,rfl,rfl,rfl,rfl⟩
  ·exact λ_ _=>⟨rfl,rfl,rfl,rfl,rfl,rfl,rfl,rfl,rfl,rfl,rfl,rfl,rfl⟩
 rintro _ _ _ _ _ _ _ _ _ _ _ _ _ _ _ ⟨rfl,rfl,rfl,rfl,rfl,rfl,rfl,rfl,rfl,rfl,rfl,rfl,rfl⟩
 refine nC (iT Cs rfl rfl rfl rfl) (nC (G2 (vs:=[.int .i64 0,.int .i64 0,.int .i64 0]) (cs':=(cI {g with waits:=false,id:=(0,0,0)} r).toArray) U7 rfl rfl rfl rfl rfl) (nC (G2 (vs:=[.int .i64 0,.int .i64 0,.int .i64 0,.int .i64 0,.slice none 0 0,.slice none 0 0]) (cs':=(cI {g with waits:=false,id:=(0,0,0),aQ:={}} {r with xa:=none,xc:=0,za:=none,zc:=0}).toArray) U8 rfl rfl rfl rfl rfl) ?_))
 refine .of λR x H=>⟨r.xa,r.xc,r.za,r.zc,by rw[hw];rfl,?_⟩
 have hro:=CW.ro H
 refine bb.join hro.2.2.2.2.1 (bb.join hro.2.2.2.2.2 ?_)
 unfold fJ
 rw[if_pos hw]
 refine CW.VS {g with waits:=false,id:=(0,0,0),aQ:={}} {r with xa:=none,xc:=0,za:=none,zc:=0} rfl ⟨hok.p,hok.pb,hok.y,hok.d,hok.l,hok.o,hok.os,hok.pn⟩ H λy hy=>?_
 exact HP.ae hy (λ_ h=>h) λz hz=>HP.ae hz (λ_ h=>h) λu hu=>HP.ae hu (λ_ h=>h) λw hw=>HP.ae hw (λ_ h=>h) λq hq=>HP.ae hq (λ_ h=>h) λp hp=>⟨hp.1,hp.2.1,hp.2.2.1,hp.2.2.2.1,bb.nil _ _ _ _,bb.nil _ _ _ _⟩
end
section
variable {I:tq}{b:Nat}{g:cE I.α}{r:py}
theorem aaY{o:Sem Next}{cs cs':Array Value}{Q S:HP}{K:HP->Prop}(t:aI Tryz.prog o (CW b cs Q) λv=>HP.and (v=.tuple #[]) (CW b cs' Q))(X:HP)(w:∀R h,(CW b cs' (HP.an Q S)).p R h->X.p R h)(k:K X):aI Tryz.prog o (HP.an (CW b cs Q) S) λv=>HP.ex λQ'=>HP.and (v=.tuple #[]) (HP.and (K Q') Q'):=
 (t.frame S).ak (λ_ _ h=>h) λ_ R h ⟨h1,h2,d,l1,l2,⟨e,H⟩,HS⟩=>⟨X,e,k,w R h (CW.If ⟨h1,h2,d,l1,l2,H,HS⟩)⟩
structure G4(g:cE I.α):Prop where
 a:0<=g.rM/\g.rM<=1000000000000
 b:0<=g.fB/\g.fB<=1000000000
 n:0<=g.node/\g.node<=1000000
theorem KY(hok:CK g r):(⟨g.bt.ep,r.kC.map (·.l)⟩:rf)=g.bt:=by rw[hok.p]
set_option maxHeartbeats 1000000 in
theorem oO(hp:G4 g):ax Tryz.prog 181 #[.pointer (some ⟨b,0,none⟩)] (b6 b g) (λv=>HP.and (v=.tuple #[]) (b6 b (fI g))):=by
 refine b6.kx λr hok=>?_
 refine ah (ρ:=[.n b,.p (dt b g r)]) mixed Tryz.func181 px ?_
 unfold my
 refine cg ?_
 obtain⟨⟨a0,a1⟩,⟨b0,b1⟩,n0,n1⟩:=hp
 refine⟨_,gW rfl,aK _ (by omega) (by omega),λ_=>nC (iT (cs':=(cI {g with rM:=g.rM+1} r).toArray) rX rfl rfl rfl rfl) ?_⟩
 refine⟨g.rM+1,gW rfl,aK _ (by omega) (by omega),λ_=>⟨g.fB,gW rfl,aK _ (by omega) (by omega),λ_=>⟨aK _ (by omega) (by omega),λ_=>⟨g.node,gW rfl,aK _ (by omega) (by omega),λ_=>?_⟩⟩⟩⟩
 refine⟨_,_,_,_,yD (vs:=[.int .i64 g.bt.ep,.slice r.pa r.kC.length r.pc]) (by kernel_rfl) (by kernel_rfl) (by kernel_rfl) rfl rfl,g.cv,gW rfl,?_⟩
 refine(PV _ g.bt.ep r.pa r.kC.length r.pc r.kC g.cv (64*(g.rM+1)+65536*g.fB+g.node) (λR h H=>(CW.ro H).1) (λx hx=>by have:=hok.pb.2 x hx;omega) (by have:=hok.pb.1;omega)).ak (λ_ _ h=>h) ?_
 rw[KY hok]
 rintro v R h ⟨ab,rfl,H⟩
 refine⟨.pointer (some ⟨ab,0,none⟩),gM ab (g9 g.bt g.cv (KK g)),rfl,?_,H⟩
 refine ahR (iT (cs':=(cI {g with rM:=g.rM+1,gx:=some (g9 g.bt g.cv (KK g))} {r with av:=some ⟨ab,0,none⟩}).toArray) KX rfl rfl rfl rfl) ?_
 refine nC (iT (cs':=(cI (fI g) {r with av:=some ⟨ab,0,none⟩}).toArray) rX rfl rfl rfl rfl) (.of λR h H=>⟨trivial,?_⟩)
 exact CW.VS (fI g) {r with av:=some ⟨ab,0,none⟩} rfl ⟨hok.p,hok.pb,hok.y,hok.d,hok.l,hok.o,hok.os,hok.pn⟩ H λx hx=>lv.gx hx
theorem PL.ahS(x:Nat)(m:MS){R h:PH}(H:(HP.one x (.cells (m.cF none 0 none 0).aA 48 (0,0))).p R h)(hd:m.cell.data=[])(hv:m.val=[]):(PL dE (some ⟨x,0,none⟩) 1 1 [⟨m,none,0,none,0⟩]).p R h:=by
 refine PL.lit (K:=dE) x [⟨m,none,0,none,0⟩] (by simp) (HP.ao (HP.yE (λ_=>?_) H))
 refine⟨?_,?_⟩
 ·show(aO none m.cell.data.length m.cell.data).p _ _
  rw[hd];exact bb.nil _ _ _ _
 ·show(aO none m.val.length m.val).p _ _
  rw[hv];exact bb.nil _ _ _ _
def xw(l:List MS)(a:Option Addr)(n c:Nat):HP:=HP.ex λes:List js=>HP.and (es.map (·.m)=l/\es.length=n) (PL dE a n c es)
theorem G5:ax Tryz.prog 147 #[.pointer (some ⟨b,0,none⟩)] (dt b g r) (λv=>HP.ex λa=>HP.ex λn=>HP.ex λc=>HP.and (v=.slice a n c) (HP.an (xw (u5 g) a n c) (dt b g r))):=by
 refine ah (ρ:=[.n b,.p (dt b g r)]) mixed Tryz.func147 yy ?_
 unfold xm
 refine cg ?_
 refine⟨_,gW rfl,_,gW rfl,λx=>.of λR h H=>⟨some ⟨x,0,none⟩,1,1,rfl,?_⟩⟩
 exact HP.ae (HP.ao H) (λy hy=>⟨[⟨{mC with to:=7,kind:=8,ep:=g.bt.ep,at':=g.bo.lK},none,0,none,0⟩],⟨rfl,rfl⟩,PL.ahS x _ hy rfl rfl⟩) λ_ h=>h
theorem NI{f:FuncId}{args:Value->Array Value}{o:fO}{cs:Array Value}{γ:Type}{φ:Value->γ->Prop}{P:γ->HP}(ho:g.bo.op=some o)(t:∀ob,ax Tryz.prog f (args (.pointer (some ⟨ob,0,none⟩))) (eg ob o) (λv=>HP.ex λy=>HP.and (φ v y) (HP.an (P y) (eg ob o)))):
 ax Tryz.prog f (args (dZ (.pointer r.ov))) (CW b cs (lv g r)) (λv=>HP.ex λy=>HP.and (φ v y) (HP.an (P y) (CW b cs (lv g r)))):=
 oN (L:=At g r) (k:=1) (X:=uO r.ov (some o)) (by unfold At;rw[ho];rfl) (uO.U6 t)
theorem rY{f:FuncId}{args:Value->Array Value}{o:fO}{cs:Array Value}{ψ:Value->Prop}(ho:g.bo.op=some o)(t:∀ob,ax Tryz.prog f (args (.pointer (some ⟨ob,0,none⟩))) (eg ob o) (λv=>HP.and (ψ v) (eg ob o))):
 ax Tryz.prog f (args (dZ (.pointer r.ov))) (CW b cs (lv g r)) (λv=>HP.and (ψ v) (CW b cs (lv g r))):=
 mz (L:=At g r) (k:=1) (X:=uO r.ov (some o)) (by unfold At;rw[ho];rfl) (uO.read t)
theorem G6{f:FuncId}{args:Value->Array Value}{a:bY}{cs:Array Value}{γ:Type}{φ:Value->γ->Prop}{P:γ->HP}(ho:g.gx=some a)(t:∀ab,ax Tryz.prog f (args (.pointer (some ⟨ab,0,none⟩))) (gM ab a) (λv=>HP.ex λy=>HP.and (φ v y) (HP.an (P y) (gM ab a)))):
 ax Tryz.prog f (args (dZ (.pointer r.av))) (CW b cs (lv g r)) (λv=>HP.ex λy=>HP.and (φ v y) (HP.an (P y) (CW b cs (lv g r)))):=
 oN (L:=At g r) (k:=2) (X:=i5 r.av (some a)) (by unfold At;rw[ho];rfl) (i5.U6 t)
theorem Qf{f:FuncId}{args:Value->Array Value}{a:bY}{cs:Array Value}{ψ:Value->Prop}(ho:g.gx=some a)(t:∀ab,ax Tryz.prog f (args (.pointer (some ⟨ab,0,none⟩))) (gM ab a) (λv=>HP.and (ψ v) (gM ab a))):
 ax Tryz.prog f (args (dZ (.pointer r.av))) (CW b cs (lv g r)) (λv=>HP.and (ψ v) (CW b cs (lv g r))):=
 mz (L:=At g r) (k:=2) (X:=i5 r.av (some a)) (by unfold At;rw[ho];rfl) (i5.read t)
theorem XG{f:FuncId}{args:Array Value}{cs:Array Value}{γ:Type}{φ:Value->γ->Prop}{P:γ->HP}(t:ax Tryz.prog f args (I.R r.rb g.rp) (λv=>HP.ex λy=>HP.and (φ v y) (HP.an (P y) (I.R r.rb g.rp)))):
 ax Tryz.prog f args (CW b cs (lv g r)) (λv=>HP.ex λy=>HP.and (φ v y) (HP.an (P y) (CW b cs (lv g r)))):=oN (L:=At g r) (k:=0) rfl t
theorem xx{f:FuncId}{args:Array Value}{cs:Array Value}{ψ:Value->Prop}(t:ax Tryz.prog f args (I.R r.rb g.rp) (λv=>HP.and (ψ v) (I.R r.rb g.rp))):
 ax Tryz.prog f args (CW b cs (lv g r)) (λv=>HP.and (ψ v) (CW b cs (lv g r))):=mz (L:=At g r) (k:=0) rfl t
set_option maxHeartbeats 1000000 in
theorem uo{o:fO}(ho:g.bo.op=some o)(hp:o.state=1->0<=o.place/\o.place<o.us.length):ax Tryz.prog 202 #[.pointer (some ⟨b,0,none⟩)] (dt b g r) (λv=>HP.ex λa=>HP.ex λn=>HP.ex λc=>HP.and (v=.slice a n c) (HP.an (xw (pm g o) a n c) (dt b g r))):=by
 refine ah (ρ:=[.n b,.p (dt b g r)]) mixed Tryz.func202 yz ?_
 unfold xo
 refine cg ?_
 refine⟨_,rW rfl,?_⟩
 refine(NI (args:=λp=> #[p]) (γ:=Option Addr×Nat) (φ:=λv y=>v=.tuple #[.int .i64 (Xz o),.int .i64 (XA o),.agg #[.int .i64 (jE o).what,.slice y.1 (jE o).data.length y.2],.bool (decide (o.state=1))]) (P:=λy=>aO y.1 (jE o).data.length (jE o).data) ho λob=>(Xx ob o hp).ak (λ_ _ h=>h) λv R h ⟨a,c,e,H⟩=>⟨(a,c),e,H⟩).ak (λ_ _ h=>h) ?_
 rintro v R h ⟨⟨a,c⟩,rfl,H⟩
 refine⟨_,_,_,a,_,c,aO a (jE o).data.length (jE o).data,_,rfl,λ_=>⟨_,gW rfl,_,rW rfl,?_⟩,H⟩
 clear H
 refine gC (g:=λx=>.int .i64 x) o.at' (rY (args:=λp=> #[p]) ho λob=>aaM ob o) λx=>.of λR h H=>⟨some ⟨x,0,none⟩,1,1,rfl,?_⟩
 have H1:=HP.pick [dt b g r,_,aO a (jE o).data.length (jE o).data] [1,2,0] (by decide) rfl H
 refine HP.ae (HP.ay H1) (λy hy=>⟨[⟨{mC with to:=Xz o,kind:=XA o,ep:=g.bt.ep,at':=o.at',cell:=jE o},a,c,none,0⟩],⟨rfl,rfl⟩,?_⟩) λ_ h=>h
 have hD:(aO a (jE o).data.length (jE o).data).p R y:=HP.ai hy
 exact PL.lit (K:=dE) x [⟨{mC with to:=Xz o,kind:=XA o,ep:=g.bt.ep,at':=o.at',cell:=jE o},a,c,none,0⟩] (by simp) (HP.ao (HP.yE (λ_=>⟨hD,bb.nil _ _ _ _⟩) (HP.aj hy)))
end
section
variable {I:tq}{b:Nat}{g:cE I.α}{r:py}
theorem xw.nil{R h:PH}:(xw [] none 0 0).p R h:=⟨[],⟨rfl,rfl⟩,PL.nX _ _ _⟩
def mA(b:Nat)(x:cE I.α×Option (List MS))(v:Value):HP:=HP.ex λa=>HP.ex λn=>HP.ex λc=>HP.and (v=.tuple #[.slice a n c,.bool x.2.isSome]) (HP.an (xw (x.2.getD []) a n c) (b6 b x.1))
theorem mA.XH{x:cE I.α×Option (List MS)}{g':cE I.α}(e:x=(g',none)){P:HP}(hP:HP.aV P (b6 b g')):HP.aV P (mA b x (.tuple #[.slice none 0 0,.bool false])):=
 hP.trans (.of λR h H=>⟨none,0,0,by rw[e];rfl,by rw[e];exact HP.yE (λ_=>xw.nil) H⟩)
theorem dt.bz{R h:PH}(H:(dt b g r).p R h):r.ov.isSome=g.bo.op.isSome:=by
 have:=HP.aj (HP.ai (HP.ai H))
 revert this
 cases g.bo.op with
 |none=>exact λe=>by rw[show r.ov=none from e];rfl
 |some o=>exact λ⟨ob,e,_⟩=>by rw[e];rfl
theorem dt.aaZ{R h:PH}(H:(dt b g r).p R h):r.av.isSome=g.gx.isSome:=by
 have:=HP.aj (HP.ai (HP.ai (HP.ai H)))
 revert this
 cases g.gx with
 |none=>exact λe=>by rw[show r.av=none from e];rfl
 |some o=>exact λ⟨ob,e,_⟩=>by rw[e];rfl
theorem KZ{o:fO}(h:g.bo.op=some o):g.bQ (some o)=g:=by
 unfold cE.bQ
 rw[<-h]
def K0(o:fO):Prop:=o.state=1->0<=o.place/\o.place<o.us.length
theorem CK.bQ(hok:CK g r)(o:Option fO)(ov:Option Addr):CK (g.bQ o) {r with ov:=ov}:=⟨hok.p,hok.pb,hok.y,hok.d,hok.l,hok.o,hok.os,hok.pn⟩
theorem XI(h:∀o,g.bo.op=some o->K0 o):K0 (rO g):=by
 unfold rO
 cases e:g.bo.op with
 |some o=>exact h o e
 |none=>
  intro hs
  have hl:(cP g.bt g.bo.at').length≠0:=λh0=>by
   have:(dF g.bo.at' (cP g.bt g.bo.at')).state=1:=hs
   unfold dF at this
   rw[if_pos h0]at this
   exact absurd (show(3:Int)=1 from this) (by decide)
  exact⟨Int.le_refl _,by show(0:Int)<((cP g.bt g.bo.at').length:Int);omega⟩
set_option maxHeartbeats 2000000 in
theorem xy(hp:G4 g)(hop:∀o,g.bo.op=some o->K0 o):ax Tryz.prog 148 #[.pointer (some ⟨b,0,none⟩)] (b6 b g) (mA b (jp g)):=by
 refine b6.kx λr hok=>?_
 refine ax.bV (φ:=r.ov.isSome=g.bo.op.isSome) (λR h H=>dt.bz H) λhn=>?_
 refine ah (ρ:=[.n b,.p (dt b g r)]) mixed Tryz.func148 ti ?_
 unfold pV
 refine cg ?_
 refine⟨_,rW rfl,_,jM (by kernel_rfl) KU,λP=>∃r',P=dt b (g.bQ (some (rO g))) r'/\CK (g.bQ (some (rO g))) r',⟨λh=>?_,λh=>?_⟩,?_⟩
 ·have yU:g.bo.op=none:=by
   cases e:g.bo.op with
   |none=>rfl
   |some o=>rw[e]at hn;rw[hn]at h;exact absurd h (by simp)
  have eo:rO g={dF g.bo.at' (cP g.bt g.bo.at')with cell:=g.bo.cell}:=by unfold rO;rw[yU];rfl
  refine⟨_,gW rfl,_,_,_,_,yD (vs:=[.int .i64 g.bt.ep,.slice r.pa r.kC.length r.pc]) (by kernel_rfl) (by kernel_rfl) (by kernel_rfl) rfl rfl,_,gW rfl,_,_,_,_,yD (vs:=[.int .i64 g.bo.cell.what,.slice r.da g.bo.cell.data.length r.dc]) (by kernel_rfl) (by kernel_rfl) (by kernel_rfl) rfl rfl,?_⟩
  refine(Ap (dt b g r) g.bt.ep r.pa r.kC.length r.pc r.kC g.bo.at' (λR h H=>(CW.ro H).1) ⟨by have:=hok.pb.1;omega,λx hx=>by have:=hok.pb.2 x hx;omega⟩).ak (λ_ _ h=>h) ?_
  rw[KY hok]
  rintro v R h ⟨a',c',rfl,H⟩
  refine⟨a',_,c',pp a' (cP g.bt g.bo.at').length (cP g.bt g.bo.at'),rfl,?_,H⟩
  clear H
  refine(KD g.bo.at' a' _ c' (cP g.bt g.bo.at') _ (bR.ro _ _ _ _) rfl (by have:=rV (p:=g.bt) (k:=g.bo.at');omega) g.bo.cell.what r.da _ r.dc g.bo.cell.data (dt b g r) (ul λR h H=>(CW.ro H).2.2.1) rfl (by have:=hok.d;omega)).ak (λ_ _ h=>h) ?_
  rw[<-eo]
  rintro v R h ⟨ob,rfl,H⟩
  refine⟨.pointer (some ⟨ob,0,none⟩),eg ob (rO g),rfl,?_,HP.pick [_,_,_] [2,0,1] (by decide) rfl H⟩
  exact aaY (iT (cs':=(cI (g.bQ (some (rO g))) {r with ov:=some ⟨ob,0,none⟩}).toArray) qC rfl rfl rfl rfl) (dt b (g.bQ (some (rO g))) {r with ov:=some ⟨ob,0,none⟩}) (λR h H=>HP.ae H (λ_ h=>h) λ_ h=>lv.op h) ⟨_,rfl,hok.bQ _ _⟩
 ·obtain⟨o,ho⟩:∃o,g.bo.op=some o:=Option.isSome_iff_exists.1 (by rw[<-hn];revert h;cases r.ov<;>simp)
  have eo:rO g=o:=by unfold rO;rw[ho];rfl
  have e:g.bQ (some (rO g))=g:=by rw[eo];exact KZ ho
  rw[e]
  exact⟨r,rfl,hok⟩
 rintro _ ⟨r',rfl,cR⟩
 have hoo:=XI hop
 generalize hO:rO g=o at cR hoo⊢
 have ho:(g.bQ (some o)).bo.op=some o:=rfl
 have hp':G4 (g.bQ (some o)):=⟨hp.a,hp.b,hp.n⟩
 have un:jp g=(if o.state=1 then(g.bQ (some o),some (pm (g.bQ (some o)) o))else if o.state=2 then(((g.bQ (some o)).pT 2).bQ none,none)else if o.state=3 then(((g.bQ (some o)).pT 0).bQ none,none)else if o.state=5 then(fI (g.bQ (some o)),none)else(jT (g.bQ (some o)),none)):=by unfold jp;rw[hO]
 refine⟨_,rW rfl,?_⟩
 refine gC (g:=λx=>.int .i64 x) o.state (rY (args:=λp=> #[p]) ho λob=>z7 ob o) ⟨λh1=>?_,λh1=>?_⟩
 ·refine(uo ho hoo).ak (λ_ _ h=>h) ?_
  rintro v R h ⟨a,n,c,rfl,H⟩
  refine⟨a,n,c,xw (pm (g.bQ (some o)) o) a n c,rfl,.of λR h H=>⟨a,n,c,?_,?_⟩,H⟩
  ·rw[un,if_pos h1];rfl
  ·rw[un,if_pos h1]
   exact HP.ae (HP.ao H) (λ_ h=>h) λ_ h=>⟨r',cR,h⟩
 rw[if_neg h1]at un
 let J:HP->Prop:=λP=>∃g',jp g=(g',none)/\HP.aV P (b6 b g')
 refine⟨J,⟨λh2=>?_,λh2=>⟨J,⟨λh3=>?_,λh3=>⟨J,⟨λh5=>?_,λh5=>?_⟩,λP hP=>hP⟩⟩,λP hP=>hP⟩⟩,λP ⟨g',e,hP⟩=>mA.XH e hP⟩
 ·rw[if_pos h2]at un
  exact nC (iT (cs':=(cI ((g.bQ (some o)).pT 2) r').toArray) rX rfl rfl rfl rfl) (nC (iT (cs':=(cI (((g.bQ (some o)).pT 2).bQ none) {r' with ov:=none}).toArray) qC rfl rfl rfl rfl) ⟨_,un,.of λR h H=>CW.VS (((g.bQ (some o)).pT 2).bQ none) {r' with ov:=none} rfl ⟨cR.p,cR.pb,cR.y,cR.d,cR.l,cR.o,cR.os,cR.pn⟩ H λ_ h=>lv.op0 h⟩)
 ·rw[if_neg h2,if_pos h3]at un
  exact nC (iT (cs':=(cI ((g.bQ (some o)).pT 0) r').toArray) rX rfl rfl rfl rfl) (nC (iT (cs':=(cI (((g.bQ (some o)).pT 0).bQ none) {r' with ov:=none}).toArray) qC rfl rfl rfl rfl) ⟨_,un,.of λR h H=>CW.VS (((g.bQ (some o)).pT 0).bQ none) {r' with ov:=none} rfl ⟨cR.p,cR.pb,cR.y,cR.d,cR.l,cR.o,cR.os,cR.pn⟩ H λ_ h=>lv.op0 h⟩)
 ·rw[if_neg h2,if_neg h3,if_pos h5]at un
  exact cG ((oO hp').ak (λR h H=>⟨r',cR,H⟩) λ_ _ _ h=>h) ⟨_,un,.refl _⟩
 ·rw[if_neg h2,if_neg h3,if_neg h5]at un
  exact cG (jq.ak (λR h H=>⟨r',cR,H⟩) λ_ _ _ h=>h) ⟨_,un,.refl _⟩
end
section
variable {I:tq}{b:Nat}{g:cE I.α}{r:py}
set_option maxHeartbeats 1000000 in
theorem G7:ax Tryz.prog 204 #[.pointer (some ⟨b,0,none⟩)] (b6 b g) (λv=>HP.and (v=.tuple #[]) (b6 b (lm I.F g))):=by
 refine b6.kx λr hok=>?_
 refine ah (ρ:=[.n b,.p (dt b g r)]) mixed Tryz.func204 yA ?_
 unfold xq
 refine cg ?_
 refine⟨_,gW rfl,λh=>?_,λh=>?_⟩
 ·have e:lm I.F g=Ch g {}:=if_pos h
  rw[e]
  exact cG ((xv {} none 0 none 0).ak (λR h H=>HP.ao (HP.ay (HP.yE (λ_=>bb.nil _ _ _ _) (HP.yE (λ_=>bb.nil _ _ _ _) ⟨r,hok,H⟩)))) λ_ _ _ h=>h) (.of λR h H=>⟨trivial,H⟩)
 let k:lj:=(g.bo.i1,g.bo.i2,g.bo.i3)
 let x:eV:=(I.F.aQ g.rp k).getD {}
 refine⟨λ_ there e kd s l da dn dc na nn nc P Q=>there=(I.F.aQ g.rp k).isSome/\e=x.bM/\kd=x.kind/\s=x.size/\l=x.d9/\dn=x.data.length/\nn=x.aL.length/\P=aO da x.data.length x.data/\Q=tY na x.aL.length x.aL,?_,?_⟩
 ·have aQ:=XG (b:=b) (g:=g) (r:=r) (cs:=(cI g r).toArray) (γ:=Option Addr×Nat×Option Addr×Nat) (φ:=λv y=>v=.tuple #[oJ x y.1 y.2.1 y.2.2.1 y.2.2.2,.bool (I.F.aQ g.rp k).isSome]) (P:=λy=>HP.an (aO y.1 x.data.length x.data) (tY y.2.2.1 x.aL.length x.aL)) ((I.U4 r.rb g.rp k).ak (λ_ _ h=>h) λv R h ⟨da,dc,na,nc,e,H⟩=>⟨(da,dc,na,nc),e,HP.ay H⟩)
  refine⟨_,xt rfl,_,_,_,yD (vs:=[.int .i64 g.bo.i1,.int .i64 g.bo.i2,.int .i64 g.bo.i3]) (by kernel_rfl) (by kernel_rfl) (by kernel_rfl) rfl rfl,?_,?_⟩
  ·refine aQ.ak (λ_ _ h=>h) ?_
   rintro v R h ⟨⟨da,dc,na,nc⟩,rfl,H⟩
   exact⟨_,_,_,_,da,_,dc,_,na,_,nc,_,_,rfl,λ_=>⟨rfl,rfl,rfl,rfl,rfl,rfl,rfl,rfl,rfl⟩,HP.aq H⟩
  ·intro _
   refine aQ.ak (λ_ _ h=>h) ?_
   rintro v R h ⟨⟨da,dc,na,nc⟩,rfl,H⟩
   exact⟨_,_,_,_,da,_,dc,_,na,_,nc,_,_,rfl,⟨rfl,rfl,rfl,rfl,rfl,rfl,rfl,rfl,rfl⟩,HP.aq H⟩
 rintro _ _ _ _ _ _ da _ dc na _ nc _ _ ⟨rfl,rfl,rfl,rfl,rfl,rfl,rfl,rfl,rfl⟩
 cases ea:I.F.aQ g.rp k with
 |none=>
  have e:lm I.F g=jT g:=by unfold lm;rw[if_neg h,ea]
  rw[e]
  exact⟨λ_=>cG (jq.ak (λR h H=>⟨r,hok,H⟩) λ_ _ _ h=>h) (.of λR h H=>⟨trivial,H⟩),λh=>absurd h (by simp)⟩
 |some y=>
  have e:lm I.F g=Ch g y:=by unfold lm;rw[if_neg h,ea]
  have ex:x=y:=by show(I.F.aQ g.rp k).getD {}=y;rw[ea];rfl
  rw[e,ex]
  refine⟨λh=>absurd h (by simp),λ_=>?_⟩
  refine(xv (g:=g) y da dc na nc).ak (λR h H=>HP.ae H (λ_ h=>⟨r,hok,h⟩) λ_ h=>h) ?_
  rintro v R h ⟨rfl,H⟩
  exact⟨_,HP.tt,HP.tt,rfl,.of λR h H=>⟨trivial,H⟩,HP.az H|>λH=>HP.ae H (λ_ h=>h) λ_ _=>HP.az trivial⟩
structure aa0(g:cE I.α):Prop where
 a:G4 g
 o:∀o,g.bo.op=some o->K0 o/\(o.state=2->I.qI g.rp (eP o)/\(eP o).data.length<=1000000)/\(o.state=4->I.CX g.rp o.low)
 c:g.bo.op=none->I.F.nx g.rp=g.bo.at'->I.qI g.rp g.bo.cell
theorem NJ{cs:Array Value}(x:eS)(a:Option Addr)(c:Nat)(ht:I.qI g.rp x)(hc:x.data.length<=c):ax Tryz.prog 205 #[.pointer (some ⟨r.rb,0,none⟩),.agg #[.int .i64 x.what,.slice a x.data.length c]] (HP.an (CW b cs (lv g r)) (aO a x.data.length x.data))
 (λv=>HP.and (v=.tuple #[]) (HP.an (CW b cs (lv {g with rp:=I.F.take g.rp x} r)) (aO a x.data.length x.data))):=by
 refine ax.bV (φ:=x.data.length≠0->a.isSome=true) (λR h H hn=>bb.some (HP.ai H) (by omega)) λha=>?_
 exact(eY (γ:=Unit) (k:=0) (L:=At g r) (X:=I.R r.rb g.rp) (X':=λ_=>I.R r.rb (I.F.take g.rp x)) (P:=λ_=>aO a x.data.length x.data) (φ:=λv _=>v=.tuple #[]) rfl ((I.NG r.rb g.rp x a c _ ht (bR.ro _ _ _ _) hc ha).ak (λ_ _ h=>h) λv R h ⟨e,H⟩=>⟨(),e,H⟩)).ak (λ_ _ h=>h) λv R h ⟨_,e,H⟩=>⟨e,H⟩
theorem XJ{cs:Array Value}(low:Int)(ht:I.CX g.rp low):ax Tryz.prog 209 #[.pointer (some ⟨r.rb,0,none⟩),.int .i64 low] (CW b cs (lv g r)) (λv=>HP.and (v=.tuple #[]) (CW b cs (lv {g with rp:=I.F.skip g.rp low} r))):=
 (eY (γ:=Unit) (k:=0) (K:=HP.tt) (L:=At g r) (X:=I.R r.rb g.rp) (X':=λ_=>I.R r.rb (I.F.skip g.rp low)) (P:=λ_=>HP.tt) (φ:=λv _=>v=.tuple #[]) rfl ((I.NH r.rb g.rp low ht).ak (λR h H=>HP.aj H) λv R h ⟨e,H⟩=>⟨(),e,HP.az H⟩)).ak (λR h H=>HP.az H) λv R h ⟨_,e,H⟩=>⟨e,HP.aj H⟩
theorem Vb(k:Int)(us:List Int):K0 (oH k us):=by
 intro hs
 have hl:us.length≠0:=λh0=>by
  have:(dF k us).state=1:=hs
  unfold dF at this
  rw[if_pos h0]at this
  exact absurd (show(3:Int)=1 from this) (by decide)
 exact⟨by show(0:Int)<=(us.length:Int) - 1;omega,by show(us.length:Int) - 1<(us.length:Int);omega⟩
theorem Vc(k:Int)(us:List Int):(oH k us).state≠2/\(oH k us).state≠4:=by
 have:(oH k us).state=3\/(oH k us).state=1:=by
  show(dF k us).state=3\/(dF k us).state=1
  unfold dF
  split
  ·exact .inl rfl
  ·exact .inr rfl
 omega
set_option maxHeartbeats 4000000 in
theorem Ct(hp:aa0 g):ax Tryz.prog 149 #[.pointer (some ⟨b,0,none⟩)] (b6 b g) (mA b (kz I.F g)):=by
 refine b6.kx λr hok=>?_
 refine ax.bV (φ:=r.ov.isSome=g.bo.op.isSome) (λR h H=>dt.bz H) λhn=>?_
 refine ah (ρ:=[.n b,.p (dt b g r)]) mixed Tryz.func149 xp ?_
 unfold um
 refine cg ?_
 refine⟨_,rW rfl,_,jM (by kernel_rfl) KU,λP=>∃g1 o r',kz I.F g=eG I.F g1 o/\P=dt b g1 r'/\CK g1 r'/\g1.bo.op=some o/\aa0 g1,⟨λh=>?_,λh=>?_⟩,?_⟩
 ·have yU:g.bo.op=none:=by
   cases e:g.bo.op with
   |none=>rfl
   |some o=>rw[e]at hn;rw[hn]at h;exact absurd h (by simp)
  have un:kz I.F g=(if g.bo.at'<I.F.nx g.rp/\I.F.lost g.rp=false then(lm I.F g,none)else if I.F.nx g.rp=g.bo.at' then({g with rp:=I.F.take g.rp g.bo.cell},none)else eG I.F (g.bQ (some (oH (I.F.nx g.rp) (cP g.bt (I.F.nx g.rp))))) (oH (I.F.nx g.rp) (cP g.bt (I.F.nx g.rp)))):=by unfold kz;rw[yU]
  refine⟨_,xt rfl,gC (g:=λx=>.int .i64 x) (I.F.nx g.rp) (xx (I.q8 r.rb g.rp)) ⟨λc=>c=decide (g.bo.at'<I.F.nx g.rp/\I.F.lost g.rp=false),⟨_,gW rfl,λh1=>⟨_,xt rfl,gC (g:=.bool) (I.F.lost g.rp) (xx (I.NF r.rb g.rp)) ?_⟩,λh1=>?_⟩,?_⟩⟩
  ·show(!I.F.lost g.rp)=_
   cases I.F.lost g.rp<;>simp[h1]
  ·show false=_
   rw[decide_eq_false λh=>h1 h.1]
  rintro _ rfl
  refine⟨λh1=>?_,λh1=>⟨_,gW rfl,λh2=>?_,λh2=>?_⟩⟩
  ·rw[if_pos (of_decide_eq_true h1)]at un
   exact cG (G7.ak (λR h H=>⟨r,hok,H⟩) λ_ _ _ h=>h) (mA.XH un (.refl _))
  ·rw[if_neg (λe=>h1 (decide_eq_true e)),if_pos h2]at un
   refine⟨_,xt rfl,_,_,_,_,yD (vs:=[.int .i64 g.bo.cell.what,.slice r.da g.bo.cell.data.length r.dc]) (by kernel_rfl) (by kernel_rfl) (by kernel_rfl) rfl rfl,?_⟩
   refine(NJ (b:=b) (g:=g) (r:=r) (cs:=(cI g r).toArray) g.bo.cell r.da r.dc (hp.c yU h2) hok.d.2).ak (λR h H=>bb.gR (CW.ro H).2.2.1 H) ?_
   rintro v R h ⟨rfl,H⟩
   exact⟨dt b {g with rp:=I.F.take g.rp g.bo.cell} r,rfl,mA.XH un (.of λR h H=>⟨r,⟨hok.p,hok.pb,hok.y,hok.d,hok.l,hok.o,hok.os,hok.pn⟩,H⟩),HP.aj H⟩
  ·rw[if_neg (λe=>h1 (decide_eq_true e)),if_neg h2]at un
   refine⟨_,_,_,_,yD (vs:=[.int .i64 g.bt.ep,.slice r.pa r.kC.length r.pc]) (by kernel_rfl) (by kernel_rfl) (by kernel_rfl) rfl rfl,?_⟩
   refine(Ap (dt b g r) g.bt.ep r.pa r.kC.length r.pc r.kC (I.F.nx g.rp) (λR h H=>(CW.ro H).1) ⟨by have:=hok.pb.1;omega,λx hx=>by have:=hok.pb.2 x hx;omega⟩).ak (λ_ _ h=>h) ?_
   rw[KY hok]
   rintro v R h ⟨a',c',rfl,H⟩
   refine⟨a',_,c',pp a' (cP g.bt (I.F.nx g.rp)).length (cP g.bt (I.F.nx g.rp)),rfl,?_,H⟩
   clear H
   have hs7:=rV (p:=g.bt) (k:=I.F.nx g.rp)
   refine(Gp (I.F.nx g.rp) a' _ c' (cP g.bt (I.F.nx g.rp)) _ (bR.ro _ _ _ _) rfl (by omega)).ak (λ_ _ h=>h) ?_
   rintro v R h ⟨ob,rfl,H⟩
   refine⟨.pointer (some ⟨ob,0,none⟩),eg ob (oH (I.F.nx g.rp) (cP g.bt (I.F.nx g.rp))),rfl,?_,HP.ao H⟩
   clear H
   generalize hO:oH (I.F.nx g.rp) (cP g.bt (I.F.nx g.rp))=o at un
   have hs:=Vc (I.F.nx g.rp) (cP g.bt (I.F.nx g.rp))
   have hk:=Vb (I.F.nx g.rp) (cP g.bt (I.F.nx g.rp))
   rw[hO]at hs hk
   exact aaY (iT (cs':=(cI (g.bQ (some o)) {r with ov:=some ⟨ob,0,none⟩}).toArray) qC rfl rfl rfl rfl) (dt b (g.bQ (some o)) {r with ov:=some ⟨ob,0,none⟩}) (λR h H=>HP.ae H (λ_ h=>h) λ_ h=>lv.op h)
    ⟨g.bQ (some o),o,{r with ov:=some ⟨ob,0,none⟩},un,rfl,hok.bQ _ _,rfl,⟨⟨hp.a.a,hp.a.b,hp.a.n⟩,λo' ZQ=>(Option.some.inj ZQ)▸⟨hk,λh=>absurd h hs.1,λh=>absurd h hs.2⟩,λh=>by cases h⟩⟩
 ·obtain⟨o,ho⟩:∃o,g.bo.op=some o:=Option.isSome_iff_exists.1 (by rw[<-hn];revert h;cases r.ov<;>simp)
  exact⟨g,o,r,by unfold kz;rw[ho],rfl,hok,ho,hp⟩
 rintro _ ⟨g1,o,r',un,rfl,cR,ho,hp'⟩
 rw[un]
 clear un hn hok hp
 obtain⟨hoo,Wn,h4'⟩:=hp'.o o ho
 have hap:=hp'.a
 have lE:∀ {g2:cE I.α} {r2:py},CK g2 r2->True:=λ_=>trivial
 refine⟨_,rW rfl,?_⟩
 refine gC (g:=λx=>.int .i64 x) o.state (rY (args:=λp=> #[p]) ho λob=>z7 ob o) ⟨λh1=>?_,λh1=>?_⟩
 ·refine(uo ho hoo).ak (λ_ _ h=>h) ?_
  rintro v R h ⟨a,n,c,rfl,H⟩
  refine⟨a,n,c,xw (pm g1 o) a n c,rfl,.of λR h H=>⟨a,n,c,?_,?_⟩,H⟩
  ·unfold eG;rw[if_pos h1];rfl
  ·unfold eG;rw[if_pos h1]
   exact HP.ae (HP.ao H) (λ_ h=>h) λ_ h=>⟨r',cR,h⟩
 let J:HP->Prop:=λP=>∃g',eG I.F g1 o=(g',none)/\HP.aV P (b6 b g')
 refine⟨J,⟨λh2=>?_,λh2=>⟨J,⟨λh4=>?_,λh4=>⟨J,⟨λh5=>?_,λh5=>?_⟩,λP hP=>hP⟩⟩,λP hP=>hP⟩⟩,λP ⟨g',e,hP⟩=>mA.XH e hP⟩
 ·have e:eG I.F g1 o=(({g1 with rp:=I.F.take g1.rp (eP o)}:cE I.α).bQ none,none):=by unfold eG;rw[if_neg h1,if_pos h2]
  obtain⟨hT,hlen⟩:=Wn h2
  refine⟨_,xt rfl,_,rW rfl,?_⟩
  refine(NI (args:=λp=> #[p]) (γ:=Option Addr×Nat) (φ:=λv y=>v=.agg #[.int .i64 (eP o).what,.slice y.1 (eP o).data.length y.2]/\(eP o).data.length<=y.2) (P:=λy=>aO y.1 (eP o).data.length (eP o).data) ho λob=>(Qb ob o).ak (λ_ _ h=>h) λv R h ⟨a,c,e,H⟩=>⟨(a,c),e,H⟩).ak (λ_ _ h=>h) ?_
  rintro v R h ⟨⟨a,c⟩,⟨rfl,hc⟩,H⟩
  refine⟨_,a,_,c,aO a (eP o).data.length (eP o).data,rfl,?_,H⟩
  clear H
  refine(NJ (b:=b) (g:=g1) (r:=r') (cs:=(cI g1 r').toArray) (eP o) a c hT hc).ak (λ_ _ h=>h) ?_
  rintro v R h ⟨rfl,H⟩
  refine⟨dt b {g1 with rp:=I.F.take g1.rp (eP o)} r',_,rfl,?_,H⟩
  exact nC (iT (cs':=(cI (({g1 with rp:=I.F.take g1.rp (eP o)}:cE I.α).bQ none) {r' with ov:=none}).toArray) qC rfl rfl rfl rfl) ⟨_,e,.of λR h H=>CW.VS (({g1 with rp:=I.F.take g1.rp (eP o)}:cE I.α).bQ none) {r' with ov:=none} rfl ⟨cR.p,cR.pb,cR.y,cR.d,cR.l,cR.o,cR.os,cR.pn⟩ H λ_ h=>lv.op0 h⟩
 ·refine⟨_,rW rfl,gC (g:=λx=>.int .i64 x) o.low (rY (args:=λp=> #[p]) ho λob=>Xw ob o) ⟨λc=>c=decide (o.low<=I.F.nx g1.rp\/g1.bo.at'<o.low),⟨_,xt rfl,gC (g:=λx=>.int .i64 x) (I.F.nx g1.rp) (xx (I.q8 r'.rb g1.rp)) ⟨λh=>(decide_eq_true (.inl h)).symm,λh=>⟨_,gW rfl,?_⟩⟩⟩,?_⟩⟩
  ·show decide (g1.bo.at'<o.low)=_
   by_cases hq:g1.bo.at'<o.low
   ·rw[decide_eq_true hq,decide_eq_true (.inr hq)]
   ·rw[decide_eq_false hq,decide_eq_false (λe=>e.elim h hq)]
  rintro _ rfl
  refine⟨λh6=>?_,λh6=>⟨_,xt rfl,?_⟩⟩
  ·have e:eG I.F g1 o=(jT g1,none):=by unfold eG;rw[if_neg h1,if_neg h2,if_pos h4,if_pos (of_decide_eq_true h6)]
   exact cG (jq.ak (λR h H=>⟨r',cR,H⟩) λ_ _ _ h=>h) (mA.XH e (.refl _))
  ·have e:eG I.F g1 o=(({g1 with rp:=I.F.skip g1.rp o.low}:cE I.α).bQ none,none):=by unfold eG;rw[if_neg h1,if_neg h2,if_pos h4,if_neg (λe=>h6 (decide_eq_true e))]
   refine cG (XJ (b:=b) (g:=g1) (r:=r') (cs:=(cI g1 r').toArray) o.low (h4' h4)) ?_
   exact nC (iT (cs':=(cI (({g1 with rp:=I.F.skip g1.rp o.low}:cE I.α).bQ none) {r' with ov:=none}).toArray) qC rfl rfl rfl rfl) ⟨_,e,.of λR h H=>CW.VS (({g1 with rp:=I.F.skip g1.rp o.low}:cE I.α).bQ none) {r' with ov:=none} rfl ⟨cR.p,cR.pb,cR.y,cR.d,cR.l,cR.o,cR.os,cR.pn⟩ H λ_ h=>lv.op0 h⟩
 ·have e:eG I.F g1 o=(fI g1,none):=by unfold eG;rw[if_neg h1,if_neg h2,if_neg h4,if_pos h5]
  exact cG ((oO hap).ak (λR h H=>⟨r',cR,H⟩) λ_ _ _ h=>h) ⟨_,e,.refl _⟩
 ·have e:eG I.F g1 o=(jT g1,none):=by unfold eG;rw[if_neg h1,if_neg h2,if_neg h4,if_neg h5]
  exact cG (jq.ak (λR h H=>⟨r',cR,H⟩) λ_ _ _ h=>h) ⟨_,e,.refl _⟩
end
section
variable {I:tq}{b:Nat}{g:cE I.α}{r:py}
theorem opP{o:Sem Next}{cs cs':Array Value}{Q S S2:HP}{K:HP->Prop}(hS:∀R h x,S.p R h->S2.p R x)(t:aI Tryz.prog o (CW b cs Q) λv=>HP.and (v=.tuple #[]) (CW b cs' Q))(X:HP)(w:∀R h,(CW b cs' (HP.an Q S2)).p R h->X.p R h)(k:K X):
 aI Tryz.prog o (HP.an (CW b cs Q) S) λv=>HP.ex λQ'=>HP.and (v=.tuple #[]) (HP.and (K Q') (HP.an Q' S)):=
 (t.frame S).ak (λ_ _ h=>h) λ_ R h ⟨h1,h2,d,l1,l2,⟨e,H⟩,HS⟩=>⟨X,e,k,h1,h2,d,l1,l2,w _ _ (CW.If (HP.ao (HP.yE (λx=>hS _ _ x HS) H))),HS⟩
theorem dt.gx{R h:PH}(H:(dt b g r).p R h):(i5 r.av g.gx).p R h:=HP.aj (HP.ai (HP.ai (HP.ai H)))
theorem i5.bnd{av:Option Addr}{a:bY}{R h:PH}:(i5 av (some a)).p R h->a.bt.ch.length<=1000/\∀c∈a.bt.ch,c.length<=1000000:=λ⟨_,_,q,hk,_⟩=>by
 rw[<-hk.p]
 refine⟨by rw[List.length_map];exact hk.pb.1,λc hc=>?_⟩
 obtain⟨x,hx,rfl⟩:=List.mem_map.1 hc
 exact hk.pb.2 x hx
theorem Qg{ab:Nat}{a:bY}(hs:ny a):ax Tryz.prog 176 #[.pointer (some ⟨ab,0,none⟩)] (gM ab a) (λv=>HP.ex λa'=>HP.ex λc=>HP.ex λes:List js=>HP.and (v=.slice a' es.length c/\es.map (·.m)=dI a) (HP.an (PL dE a' es.length c es) (gM ab a))):=
 ax.ex λq=>(zy (r:=q) hs).ak (λ_ _ h=>h) λv R h ⟨a',c,es,e,H⟩=>⟨a',c,es,e,HP.ae H (λ_ h=>h) λ_ h=>⟨q,h⟩⟩
set_option maxHeartbeats 1000000 in
theorem xz{a:bY}(ha:g.gx=some a)(hs:a.st≠5->a.st≠6->ny a)(hp:a.st=5->g.bo.step≠3):ax Tryz.prog 146 #[.pointer (some ⟨b,0,none⟩)] (b6 b g) (mA b (fp g a)):=by
 refine b6.kx λr hok=>?_
 refine ax.bV (φ:=a.bt.ch.length<=1000/\∀c∈a.bt.ch,c.length<=1000000) (λR h H=>i5.bnd (by have:=dt.gx H;rw[ha]at this;exact this)) λhb=>?_
 refine ah (ρ:=[.n b,.p (dt b g r)]) mixed Tryz.func146 tj ?_
 unfold pW
 refine cg ?_
 refine⟨_,Ar rfl,gC (g:=λx=>.int .i64 x) a.st (Qf (args:=λp=> #[p]) ha λab=>Qa ab a) ⟨λh5=>⟨_,Ar rfl,?_⟩,λh5=>⟨λh6=>?_,λh6=>⟨_,Ar rfl,?_⟩⟩⟩⟩
 ·have e:fp g a=(({g with bt:=a.bt,gx:=none}:cE I.α).bQ none,none):=by unfold fp;rw[if_pos h5,if_neg (hp h5)];rfl
  refine(G6 (args:=λp=> #[p]) (γ:=Option Addr×Nat×List iZ) (φ:=λv y=>v=.agg #[.int .i64 a.bt.ep,.slice y.1 y.2.2.length y.2.1]/\y.2.2.map (·.l)=a.bt.ch) (P:=λy=>Ls fu y.1 y.2.2.length y.2.2) ha λab=>(UZ ab a).ak (λ_ _ h=>h) λv R h ⟨a',c',es,e,H⟩=>⟨(a',c',es),e,H⟩).ak (λ_ _ h=>h) ?_
  rintro v R h ⟨⟨pa,pc,es⟩,⟨rfl,he⟩,H⟩
  refine⟨_,pa,_,pc,Ls fu pa es.length es,rfl,?_,H⟩
  clear H
  refine opP (λR h x H=>Ls.gf x H) (G2 (vs:=[.int .i64 a.bt.ep,.slice pa es.length pc]) (cs':=(cI {g with bt:=a.bt} {r with pa:=pa,pc:=pc,kC:=es}).toArray) aaW rfl rfl rfl rfl rfl) _ (λ_ _ h=>h) ?_
  refine nC (iT (cs':=(cI {g with bt:=a.bt,gx:=none} {r with pa:=pa,pc:=pc,kC:=es,av:=none}).toArray) KX rfl rfl rfl rfl) ?_
  refine nC (iT (cs':=(cI (({g with bt:=a.bt,gx:=none}:cE I.α).bQ none) {r with pa:=pa,pc:=pc,kC:=es,av:=none,ov:=none}).toArray) qC rfl rfl rfl rfl) ?_
  refine⟨g.bo.step,gW rfl,λh=>absurd h (hp h5),λ_=>mA.XH e (.of λR h H=>?_)⟩
  have xX:es.length<=1000/\∀x∈es,x.l.length<=1000000:=by
   refine⟨by rw[<-List.length_map (f:=λx:iZ=>x.l),he];exact hb.1,λx hx=>hb.2 _ (by rw[<-he];exact List.mem_map.2 ⟨x,hx,rfl⟩)⟩
  refine CW.VS (({g with bt:=a.bt,gx:=none}:cE I.α).bQ none) {r with pa:=pa,pc:=pc,kC:=es,av:=none,ov:=none} rfl ⟨he,xX,hok.y,hok.d,hok.l,hok.o,hok.os,hok.pn⟩ H λx hx=>?_
  have hl:=HP.ai hx
  exact HP.ae (HP.aj hx) (λ_ h=>h) λy hy=>HP.ae hy (λz _=>rfl) λz hz=>HP.ae hz (λu _=>rfl) λu hu=>HP.ae hu (λ_ h=>h) λw hw=>HP.ae hw (λ_ h=>h) λp hp=>⟨Ls.gf p hl,hp.2.1,hp.2.2.1,hp.2.2.2.1,hp.2.2.2.2.1,hp.2.2.2.2.2⟩
 ·have e:fp g a=(jT g,none):=by unfold fp;rw[if_neg h5,if_pos h6]
  exact cG (jq.ak (λR h H=>⟨r,hok,H⟩) λ_ _ _ h=>h) (mA.XH e (.refl _))
 ·have e:fp g a=(g,some (dI a)):=by unfold fp;rw[if_neg h5,if_neg h6]
  refine(G6 (args:=λp=> #[p]) (γ:=Option Addr×Nat×List js) (φ:=λv y=>v=.slice y.1 y.2.2.length y.2.1/\y.2.2.map (·.m)=dI a) (P:=λy=>PL dE y.1 y.2.2.length y.2.1 y.2.2) ha λab=>(Qg (hs h5 h6)).ak (λ_ _ h=>h) λv R h ⟨a',c',es,e,H⟩=>⟨(a',c',es),e,H⟩).ak (λ_ _ h=>h) ?_
  rintro v R h ⟨⟨ma,mc,es⟩,⟨rfl,he⟩,H⟩
  refine⟨ma,_,mc,PL dE ma es.length mc es,rfl,.of λR h H=>⟨ma,es.length,mc,?_,?_⟩,H⟩
  ·rw[e];rfl
  ·rw[e]
   exact HP.ae (HP.ao H) (λ_ h=>⟨es,⟨he,rfl⟩,h⟩) λ_ h=>⟨r,hok,h⟩
theorem aa1:(Tryz.prog.info? 44).map (λi=>i.size)=some 2:=by kernel_rfl
set_option maxHeartbeats 2000000 in
theorem K1(hp:G4 g)(m:MS)(ca:Option Addr)(cc:Nat)(va:Option Addr)(vc:Nat):ax Tryz.prog 125 #[.pointer (some ⟨b,0,none⟩),.agg (m.cF ca cc va vc).aA] (HP.an (b6 b g) (DV m ca va)) (λv=>HP.and (v=.tuple #[]) (HP.an (b6 b (jP g m)) (DV m ca va))):=by
 refine b6.kF λr hok=>?_
 refine ah (ρ:=[.n b,.p (dt b g r)]++m.env ca cc va vc) mixed Tryz.func125 Ck ?_
 unfold Ai MS.env
 refine cg ?_
 intro _
 refine⟨λh0=>?_,λh0=>⟨λh8=>?_,λh8=>?_⟩⟩
 rotate_left
 ·have e:jP g m=fI g:=by unfold jP;rw[if_neg h0,if_pos h8]
  rw[e]
  exact cG ((oO hp).ak (λR h H=>⟨r,hok,H⟩) λ_ _ _ h=>h) (.of λR h H=>⟨trivial,H⟩)
 ·have e:jP g m=jT g:=by unfold jP;rw[if_neg h0,if_neg h8]
  rw[e]
  exact cG (jq.ak (λR h H=>⟨r,hok,H⟩) λ_ _ _ h=>h) (.of λR h H=>⟨trivial,H⟩)
 refine⟨g.bo.kind,gW rfl,_,_,_,yD (vs:=[.int .i64 g.bo.i1,.int .i64 g.bo.i2,.int .i64 g.bo.i3]) (by kernel_rfl) (by kernel_rfl) (by kernel_rfl) rfl rfl,g.bo.lK,gW rfl,r.ya,_,r.yc,ahQ rfl,?_⟩
 refine ax.bV (φ:=g.bo.pl.length≠0->r.ya.isSome=true) (λR h H hn=>bb.some (CW.ro H).2.1 (by omega)) λhya=>?_
 refine(KT (jO g m) r.ya r.yc (dt b g r) (ul λR h H=>(CW.ro H).2.1) hya).ak (λ_ _ h=>h) ?_
 rintro v R h ⟨a',n',c',P,⟨rfl,hP⟩,H⟩
 refine⟨a',n',c',P,_,rfl,⟨λhz=>?_,λhz=>?_⟩,H⟩
 all_goals clear H
 ·have hk:¬dU (jO g m)=true:=λhk=>hz (if_pos hk)
  have e:jP g m=jT g:=by unfold jP;rw[if_pos h0,if_neg hk]
  rw[e]
  exact cG (jq.ak (λR h H=>⟨r,hok,H⟩) λ_ _ _ h=>h) (.of λR h H=>⟨trivial,H⟩)
 ·have hk:dU (jO g m)=true:=Decidable.byContradiction λhk=>absurd ((if_neg hk).symm.trans hz) (by decide)
  obtain⟨rfl,hc,hP⟩:=hP hk
  let g':cE I.α:={g with bo:={g.bo with step:=1,at':=m.tail,cell:=⟨1,xh (jO g m)⟩}}
  have e:jP g m=g':=by unfold jP;rw[if_pos h0,if_pos hk]
  rw[e]
  have hlen:(xh (jO g m)).length<=1000000:=by
   have RW:(jO g m).pl.length<=65506:=by
    unfold dU at hk
    simp only[Bool.and_eq_true,decide_eq_true_eq]at hk
    exact hk.2
   unfold xh
   simp[me,iS,bZ]
   omega
  let r':py:={r with da:=a',dc:=c'}
  have cR:CK g' r':=⟨hok.p,hok.pb,hok.y,⟨hlen,hc⟩,hok.l,hok.o,hok.os,hok.pn⟩
  have iW:∀R h,(CW b (cI g' r').toArray (HP.an (lv g r) (aO a' (xh (jO g m)).length (xh (jO g m))))).p R h->(b6 b g').p R h:=λR h H=>CW.VS g' r' rfl cR H λx hx=>by
   have hl:=HP.ai hx
   exact HP.ae (HP.aj hx) (λ_ h=>h) λy hy=>HP.ae hy (λ_ h=>h) λz hz=>HP.ae hz (λ_ h=>h) λu hu=>HP.ae hu (λ_ h=>h) λw hw=>HP.ae hw (λ_ h=>h) λp hp=>⟨hp.1,hp.2.1,hl,hp.2.2.2.1,hp.2.2.2.2.1,hp.2.2.2.2.2⟩
  let J:HP->Prop:=λP=>HP.aV P (b6 b g')
  have s1:=λ(g1:cE I.α)=>iT (ty:=118) (Q:=lv g r) (b:=b) (cs:=(cI g1 r).toArray) (k:=14) (x:=.int .i64 1) (cs':=(cI {g1 with bo:={g1.bo with step:=1}} r).toArray) rX rfl rfl rfl rfl
  have s2:=λ(g1:cE I.α)=>iT (ty:=118) (Q:=lv g r) (b:=b) (cs:=(cI g1 r).toArray) (k:=17) (x:=.int .i64 m.tail) (cs':=(cI {g1 with bo:={g1.bo with at':=m.tail}} r).toArray) rX rfl rfl rfl rfl
  let g2:cE I.α:={g with bo:={g.bo with step:=1,at':=m.tail}}
  have s3:=G2 (ty:=118) (Q:=lv g r) (b:=b) (cs:=(cI g2 r).toArray) (k:=18) (x:=.agg #[.int .i64 1,.slice a' (xh (jO g m)).length c']) (vs:=[.int .i64 1,.slice a' (xh (jO g m)).length c']) (cs':=(cI g' r').toArray) aa1 rfl rfl rfl rfl rfl
  have t3:=opP (K:=J) (S:=P) (λR h x H=>hP R h H) s3 (b6 b g') iW (.refl _)
  refine⟨J,⟨nC (s1 g) (nC (s2 _) t3),nC (s1 g) ⟨nC (s2 _) t3,nC (s2 _) t3⟩⟩,λP' hP'=>?_⟩
  exact(HP.aV.an hP' (DV m ca va)).trans (.of λR h H=>⟨trivial,H⟩)
end
theorem Qh{κ α:Type}[DecidableEq κ]{enc:κ->Value}{t kt et:TypeId}{m c:Nat}{l:AL κ}{V:Value->α->HP}{f:κ->Option α}(ht:Tryz.prog.underlying t=some (.map kt et)):
 aI Tryz.prog (tK t (.map (some m))) (aC V enc m f l c) (λv=>HP.ex λit=>HP.and (v=.pointer (some ⟨it,0,none⟩)) (HP.an (HP.one it (.mapIter (some m) c #[] c)) (aC V enc m f l c))):=by
 refine aI.bV (φ:=iJ l c) (λR h H=>H.1) λhI=>?_
 refine((nT (m:=m) (l:=l) (c:=c) (enc:=enc) ht).frame (lG V l f)).ak (λR h H=>H.2) ?_
 rintro v R h ⟨h1,h2,d,l1,l2,⟨it,e,H⟩,HV⟩
 exact⟨it,e,HP.ae (HP.aq ⟨h1,h2,d,l1,l2,H,HV⟩) (λ_ h=>h) λy hy=>⟨hI,hy⟩⟩
theorem K3{l:List (Int×MS)}{k:Int}(h:k∉l.map (·.1)):bL l k=none:=by
 unfold bL
 rw[List.find?_eq_none.2 λx hx=>by
  simp only[decide_eq_true_eq]
  rintro rfl
  exact h (List.mem_map.2 ⟨x,hx,rfl⟩)]
 rfl
theorem dX(y:Int×MS)(l:List (Int×MS))(k:Int):bL (y::l) k=if y.1=k then some y.2 else bL l k:=by
 unfold bL
 rw[List.find?_cons]
 by_cases e:y.1=k
 ·rw[if_pos e,decide_eq_true e];rfl
 ·rw[if_neg e,decide_eq_false e]
theorem Cu{p:MS->Bool}{l:List (Int×MS)}(hn:(l.map (·.1)).Nodup)(k:Int):bL (l.filter λy=>p y.2) k=(bL l k).filter p:=by
 induction l with
 |nil=>rfl
 |cons y l ih=>
  rw[List.map_cons,List.nodup_cons]at hn
  rw[List.filter_cons,dX]
  by_cases e:y.1=k
  ·rw[if_pos e]
   by_cases hp:p y.2=true
   ·rw[if_pos hp,dX,if_pos e];simp[Option.filter,hp]
   ·rw[if_neg hp,ih hn.2,K3 (by rw[<-e];exact hn.1)];simp[Option.filter,hp]
  ·rw[if_neg e,<-ih hn.2]
   split
   ·rw[dX,if_neg e]
   ·rfl
theorem Qi{l:List (Int×MS)}{k:Int}(m:MS)(h:bL l k=none):bL (l++[(k,m)])=gU (bL l) k (some m):=funext λj=>by
 unfold gU
 induction l with
 |nil=>rw[List.nil_append,dX];by_cases e:j=k
       ·rw[if_pos e,if_pos e.symm]
       ·rw[if_neg e,if_neg (λh=>e h.symm)]
 |cons y l ih=>
  rw[dX]at h
  split at h
  ·cases h
  ·rename_i hy
   rw[List.cons_append,dX,dX,ih h]
   by_cases e:y.1=j
   ·rw[if_pos e,if_pos e,if_neg (λh=>hy (e.trans h))]
   ·rw[if_neg e,if_neg e]
theorem Av(l:List (Int×MS))(k:Int):Gs l k=(bL l k).isSome:=by
 induction l with
 |nil=>rfl
 |cons y l ih=>
  rw[dX]
  unfold Gs at ih⊢
  rw[List.any_cons,ih]
  by_cases e:y.1=k
  ·rw[if_pos e,decide_eq_true e];rfl
  ·rw[if_neg e,decide_eq_false e];rfl
section
variable {I:tq}{b:Nat}{g:cE I.α}{r:py}
def XK(g:cE I.α)(r:py)(f:Int->Option MS)(al:AL Int)(c:Nat):List HP:=(At g r).set 3 (aC u6 iE r.mp f al c)
abbrev iU(b:Nat)(cs:Array Value)(g:cE I.α)(r:py)(f:Int->Option MS)(al:AL Int)(c:Nat):HP:=CW b cs (aX (XK g r f al c))
variable {cs:Array Value}{f:Int->Option MS}{al:AL Int}{c it:Nat}{S:Array Nat}
theorem iU.bz{K:HP}{R h:PH}(H:(HP.an (CW b cs (lv g r)) K).p R h):∃al c,(HP.an (iU b cs g r (bL g.bK) al c) K).p R h:=by
 obtain⟨h1,h2,d,l1,l2,⟨g1,g2,d',m1,m2,⟨al,c,hM⟩,hK⟩,hR⟩:=CW.kT (L:=At g r) (k:=3) rfl H
 exact⟨al,c,CW.jZ (L:=At g r) (k:=3) rfl ⟨h1,h2,d,l1,l2,⟨g1,g2,d',m1,m2,hM,hK⟩,hR⟩⟩
theorem iU.cls{l:List (Int×MS)}{R h:PH}(H:(iU b cs g r (bL l) al c).p R h):(CW b cs (lv {g with bK:=l} r)).p R h:=
 HP.ae H (λ_ h=>h) λ_ h=>HP.ae h (λ_ h=>h) λ_ h=>HP.ae h (λ_ h=>h) λ_ h=>HP.ae h (λ_ h=>h) λ_ h=>HP.ae h (λ_ h=>⟨al,c,h⟩) λ_ h=>h
theorem iU.map{R h:PH}(H:(iU b cs g r f al c).p R h):(aC u6 iE r.mp f al c).p R h:=HP.aj (HP.aj (CW.kT (L:=XK g r f al c) (k:=3) (K:=HP.tt) rfl (HP.az H)))
theorem aa2:aI Tryz.prog (tK 112 (.map (some r.mp))) (iU b cs g r f al c) (λv=>HP.ex λit=>HP.and (v=.pointer (some ⟨it,0,none⟩)) (HP.an (HP.one it (.mapIter (some r.mp) c #[] c)) (iU b cs g r f al c))):=
 (lw (L:=XK g r f al c) (k:=3) (K:=HP.tt) (γ:=Nat) (X:=aC u6 iE r.mp f al c) (X':=λ_=>aC u6 iE r.mp f al c) (P:=λit=>HP.one it (.mapIter (some r.mp) c #[] c)) (φ:=λv it=>v=.pointer (some ⟨it,0,none⟩)) rfl ((Qh m9).ak (λR h H=>HP.aj H) λv R h ⟨it,e,H⟩=>⟨it,e,HP.ao H⟩)).ak (λR h H=>HP.az H) λv R h ⟨it,e,H⟩=>⟨it,e,HP.ao H⟩
theorem aep{ty:TypeId}(hs:gI al c):aI Tryz.prog (q7 (.pointer (some ⟨it,0,none⟩)) ty) (HP.an (HP.one it (.mapIter (some r.mp) c S c)) (iU b cs g r f al c)) (λv=>HP.ex λe=>HP.and (L9 iE al S v e) (HP.an (HP.one it (.mapIter (some r.mp) c (kr S e) c)) (iU b cs g r f al c))):=
 (lw (L:=XK g r f al c) (k:=3) (K:=HP.one it (.mapIter (some r.mp) c S c)) (γ:=Option (Int×Value×Nat)) (X:=aC u6 iE r.mp f al c) (X':=λ_=>aC u6 iE r.mp f al c) (P:=λe=>HP.one it (.mapIter (some r.mp) c (kr S e) c)) (φ:=λv e=>L9 iE al S v e) rfl ((wg hs).ak (λR h H=>HP.ao H) λv R h ⟨e,he,H⟩=>⟨e,he,HP.ao H⟩)).ak (λR h H=>HP.ao H) λv R h ⟨it,e,H⟩=>⟨it,e,HP.ao H⟩
theorem Y9(k:Int)(ty:TypeId):aI Tryz.prog (Ds #[112,3] ty (.map (some r.mp)) (iE k)) (iU b cs g r f al c) (λv=>HP.and (v=.tuple #[]) (iU b cs g r (gU f k none) (ff k al) c)):=
 (lw (L:=XK g r f al c) (k:=3) (K:=HP.tt) (γ:=Unit) (X:=aC u6 iE r.mp f al c) (X':=λ_=>aC u6 iE r.mp (gU f k none) (ff k al) c) (P:=λ_=>HP.tt) (φ:=λv _=>v=.tuple #[]) rfl ((aC.YE (r:=r.mp) (l:=al) (c:=c) (f:=f) (V:=u6) iK m9 k #[112,3] ty rfl).ak (λR h H=>HP.aj H) λv R h ⟨e,H⟩=>⟨(),e,HP.az H⟩)).ak (λR h H=>HP.az H) λv R h ⟨_,e,H⟩=>⟨e,HP.aj H⟩
theorem ahU:tD Tryz.prog 210:=⟨_,Tryz.func210,by kernel_rfl,by kernel_rfl⟩
theorem aa3(x:Nat)(m:MS)(ca:Option Addr)(cc:Nat)(va:Option Addr)(vc:Nat)(y:js)(S Q:HP)(hS:∀R h,S.p R h->(y.m.bB y.ca).p R h/\(y.m.bj y.va).p R h)(hQ:∀R h,Q.p R h->(m.bB ca).p R h/\(m.bj va).p R h):
 iu Tryz.prog (.func (.func 210) #[] #[.pointer (some ⟨x,0,none⟩)]) #[.agg y.aA] (HP.an (HP.an (cU x (m.cF ca cc va vc)) Q) S) λv=>HP.and (v=.bool (rN y.m m)) (HP.an (HP.an (cU x (m.cF ca cc va vc)) Q) S):=
 .inl ⟨_,_,rfl,ahU,(U3 m y.m ca cc va vc y.ca y.cc y.va y.vc x).be (K:=HP.an Q S) (.of λR h H=>by
  have hy:=hS R _ (HP.ai H)
  have hm:=hQ R _ (HP.ai (HP.aj H))
  have H0:=HP.ae (HP.aq H) (λ_ h=>h) λz hz=>HP.ay (bb.join (hm.1) (bb.join (hm.2) hz))
  exact HP.ay (bb.join hy.1 (HP.ay (bb.join hy.2 (HP.ay H0))))) λv=>.of λR h ⟨h1,h2,d,l1,l2,⟨e,H⟩,HS⟩=>⟨e,by
  have H1:=HP.aq (HP.ai (HP.aq (HP.ai (HP.aq ⟨h1,h2,d,l1,l2,H,HS⟩))))
  exact HP.ay (HP.ae H1 (λ_ h=>h) λz hz=>HP.ai hz)⟩⟩
end
section
variable {I:tq}{b:Nat}{g:cE I.α}{r:py}
structure WOk(g:cE I.α)(l:List MS):Prop where
 s:∀m∈l,m.small
 p:g.bK.length+l.length<=1000000
 o:g.out.length+l.length<=1000000
 n:0<=g.num/\g.num+l.length<=4000000000000000000
theorem ahV{cs:Array Value}{al:AL Int}{cl:Nat}(k:Int)(m:MS)(ca:Option Addr)(cc:Nat)(va:Option Addr)(vc:Nat)(hm:m.small)(hk:bL g.bK k=none):
 aI Tryz.prog (jL 112 (.map (some r.mp)) (.int .i64 k) (.agg (m.cF ca cc va vc).aA)) (HP.an (iU b cs g r (bL g.bK) al cl) (HP.an (m.bB ca) (m.bj va)))
  (λv=>HP.ex λy:AL Int×Nat=>HP.and (v=.tuple #[]) (HP.an (iU b cs g r (bL (g.bK++[(k,m)])) y.1 y.2) (HP.an (m.bB ca) (m.bj va)))):=by
 refine lw (L:=XK g r (bL g.bK) al cl) (k:=3) (K:=HP.an (m.bB ca) (m.bj va)) (γ:=AL Int×Nat) (X:=aC u6 iE r.mp (bL g.bK) al cl) (X':=λy=>aC u6 iE r.mp (bL (g.bK++[(k,m)])) y.1 y.2) (P:=λ_=>HP.an (m.bB ca) (m.bj va)) (φ:=λv _=>v=.tuple #[]) rfl ?_
 refine(aC.put (r:=r.mp) (l:=al) (c:=cl) (f:=bL g.bK) (V:=u6) iK m9 u6.gf k (.agg (m.cF ca cc va vc).aA) m (A:=HP.an (m.bB ca) (m.bj va)) λR h H=>⟨ca,cc,va,vc,⟨rfl,hm⟩,HP.aj H,HP.ai H⟩).ak (λ_ _ h=>h) ?_
 rintro v R h ⟨e,h1,h2,d,l1,l2,⟨al',c',H⟩,HS⟩
 rw[<-Qi m hk]at H
 exact⟨(al',c'),e,h1,h2,d,l1,l2,H,HS⟩
def VT(g:cE I.α)(r:py)(f:Int->Option MS)(al:AL Int)(c:Nat):List HP:=(XK g r f al c).set 4 HP.tt
theorem VT.of{cs:Array Value}{f:Int->Option MS}{al:AL Int}{cl:Nat}{R h:PH}(H:(iU b cs g r f al cl).p R h):(HP.an (CW b cs (aX (VT g r f al cl))) (PL dE r.oa r.kG.length r.oc r.kG)).p R h:=
 CW.jZ (L:=XK g r f al cl) (k:=4) rfl (HP.ae (CW.kT (L:=XK g r f al cl) (k:=4) (K:=HP.tt) rfl (HP.az H)) (λ_ h=>HP.ao h) λ_ h=>h)
theorem VT.to{cs:Array Value}{f:Int->Option MS}{al:AL Int}{cl:Nat}{a:Option Addr}{n c:Nat}{es:List js}{R h:PH}(hn:n=es.length)(H:(CW b cs (HP.an (aX (VT g r f al cl)) (PL dE a n c es))).p R h):(iU b cs {g with out:=es.map (·.m)} {r with oa:=a,oc:=c,kG:=es} f al cl).p R h:=by
 subst hn
 have H1:=CW.kT (L:=VT g r f al cl) (k:=4) (X:=HP.tt) rfl (CW.aeo H)
 have H2:=CW.jZ (L:=VT g r f al cl) (k:=4) (X:=HP.tt) rfl (HP.ae H1 (λ_ h=>HP.ao h) λ_ h=>h)
 exact HP.aj H2
theorem Qj{m:MS}(h:Gs g.bK m.to=true):xi g m=g:=if_pos h
theorem Vd{m:MS}(h:¬Gs g.bK m.to=true):xi g m={g with num:=g.num+1,bK:=g.bK++[(m.to,{m with fr:=g.node,num:=g.num+1})],out:=g.out++[{m with fr:=g.node,num:=g.num+1}]}:=if_neg h
theorem Ve{cs:Array Value}{f:Int->Option MS}{al:AL Int}{cl:Nat}(k:Int)(hsh:∀k v,aG k al=some v->∃(m:MS) (ca:Option Addr) (cc:Nat) (va:Option Addr) (vc:Nat),v=.agg (m.cF ca cc va vc).aA):
 ∃(m:MS) (ca:Option Addr) (cc:Nat) (va:Option Addr) (vc:Nat),aH Tryz.prog (kU 112 (.map (some r.mp)) (.int .i64 k) true) (iU b cs g r f al cl) (.tuple #[.agg (m.cF ca cc va vc).aA,.bool (aG k al).isSome]):=by
 obtain⟨i,hi,z1⟩:=Option.bind_eq_some_iff.1 Ju
 have np:=gX (r:=r.mp) (l:=al) (c:=cl) iK m9 hi z1 k true (A:=iU b cs g r f al cl) λR h H=>aC.at (iU.map H)
 cases hf:aG k al with
 |none=>rw[hf]at np;exact⟨mC,none,0,none,0,np⟩
 |some v=>
  obtain⟨m,ca,cc,va,vc,rfl⟩:=hsh k v hf
  rw[hf]at np
  exact⟨m,ca,cc,va,vc,np⟩
theorem iU.shape{cs:Array Value}{l:List (Int×MS)}{al:AL Int}{cl:Nat}{R h:PH}(H:(iU b cs g r (bL l) al cl).p R h):(∀k v,aG k al=some v->∃(m:MS) (ca:Option Addr) (cc:Nat) (va:Option Addr) (vc:Nat),v=.agg (m.cF ca cc va vc).aA)/\∀k,(aG k al).isSome=Gs l k:=by
 have hM:=iU.map H
 refine⟨λk v hv=>?_,λk=>?_⟩
 ·cases hf:bL l k with
  |none=>rw[aC.no hM hf]at hv;cases hv
  |some m=>
   obtain⟨v',HJ,ca,cc,va,vc,⟨e,_⟩,_⟩:=aC.Bo hM u6.gf hf h
   rw[hv]at HJ
   obtain rfl:=Option.some.inj HJ
   exact⟨m,ca,cc,va,vc,e⟩
 ·rw[Av]
  cases hf:bL l k with
  |none=>rw[aC.no hM hf];rfl
  |some m=>
   obtain⟨v',HJ,_⟩:=aC.Bo hM u6.gf hf h
   rw[HJ];rfl
set_option maxHeartbeats 8000000 in
theorem Qk(a:Option Addr)(n c:Nat)(es:List js)(hw:WOk g (es.map (·.m))):ax Tryz.prog 151 #[.pointer (some ⟨b,0,none⟩),.slice a n c] (HP.an (b6 b g) (Ls sO a n es)) (λv=>HP.and (v=.tuple #[]) (HP.an (b6 b (Ac g (es.map (·.m)))) (Ls sO a n es))):=by
 refine b6.kF λr hok=>?_
 refine ax.bV (φ:=es.length=n/\(n≠0->a.isSome=true)) (λR h H=>⟨(HP.ai H).1,λhn=>bb.some (HP.ai H).2.1 (by omega)⟩) λ⟨hl,hs⟩=>?_
 have hw2:=hw.o
 have hw3:=hw.p
 rw[List.length_map]at hw2 hw3
 refine(ax.ex (A:=λal=>HP.ex λcl=>HP.an (iU b (cI g r).toArray g r (bL g.bK) al cl) (Ls sO a n es)) λal=>ax.ex λcl=>?_).ak (λR h H=>iU.bz H) λ_ _ _ h=>h
 refine ax.bV (φ:=iJ al cl) (λR h H=>(iU.map (HP.aj H)).1) λYn=>?_
 refine ah (ρ:=[.n b,.p (iU b (cI g r).toArray g r (bL g.bK) al cl),.a a,.n n,.n c,.p (Ls sO a n es)]) mixed Tryz.func151 GQ ?_
 unfold GP
 refine cg ?_
 refine⟨r.mp,xr rfl,?_⟩
 refine aa2.ak (λ_ _ h=>h) ?_
 rintro v R h ⟨it,rfl,H⟩
 let still:MS->Bool:=λm=>es.any λx=>rN x.m m
 let J:HP->HP->Nat->Prop:=λPi Pm N=>∃(l:AL Int) (S:Array Nat) (f:Int->Option MS),Pi=HP.one it (.mapIter (some r.mp) cl S cl)/\Pm=iU b (cI g r).toArray g r f l cl/\iJ l cl/\(∀k,f k=bL g.bK k\/(f k=none/\∃m,bL g.bK k=some m/\still m=false))/\(∀x∈l,x.2.2∈S->∃m,bL g.bK x.1=some m/\still m=true)/\lZ l S=N
 refine⟨it,_,_,rfl,⟨λPi Pm=>∃N,J Pi Pm N,λPi Pm=>eK (J Pi Pm),⟨_,al,#[],bL g.bK,rfl,rfl,Yn,λk=>.inl rfl,λx _ hx=>absurd hx (by simp),rfl⟩,?_⟩,H⟩
 clear H
 intro Pi Pm hJ
 have S8:=kX hJ
 generalize VN:eK (J Pi Pm)=N at S8
 obtain⟨l,S,f,rfl,rfl,hI,hf,hS,hN⟩:=S8
 refine(aep hI.2).ak (λ_ _ h=>h) ?_
 rintro v R h ⟨e,he,H⟩
 rcases e with _|x
 rotate_left
 ·obtain⟨rfl,hx,hxS⟩:=he
  have Hm:=iU.map (HP.ai H)
  have mf:aG x.1 l=some x.2.1:=mL x.1 x.2.1 x.2.2 l hI.1 hx
  obtain⟨m,ca,cc,va,vc,hz,YJ,QW⟩:∃m ca cc va vc,x.2.1=.agg (MS.cF m ca cc va vc).aA/\f x.1=some m/\m.small:=by
   cases VO:f x.1 with
   |none=>rw[aC.no Hm VO]at mf;cases mf
   |some z=>
    obtain⟨v,hv,ca,cc,va,vc,⟨e,QW⟩,_⟩:=aC.Bo Hm u6.gf VO h
    rw[mf]at hv
    cases hv
    exact⟨z,ca,cc,va,vc,e,rfl,QW⟩
  have hpm:bL g.bK x.1=some m:=by
   rcases hf x.1 with e|⟨e,_⟩
   ·rw[<-e];exact YJ
   ·rw[e]at YJ;cases YJ
  have hDV:∀R h,(iU b (cI g r).toArray g r f l cl).p R h->(m.bB ca).p R h/\(m.bj va).p R h:=λR h H=>by
   obtain⟨v,hv,yt,xS,pK,uC,⟨e,_⟩,hD,hV⟩:=aC.Bo (iU.map H) u6.gf YJ h
   rw[mf,hz]at hv
   have e1:=Option.some.inj hv
   rw[e]at e1
   simp[MR.aA]at e1
   obtain⟨⟨rfl,rfl⟩,rfl,rfl⟩:=e1
   exact⟨hD,hV⟩
  refine⟨true,iE x.1,x.2.1,_,rfl,⟨λ_=>?_,λh=>absurd rfl h⟩,H⟩
  clear H Hm
  have x5:=vX (enc:=iE) (it:=it) (m:=r.mp) (c:=cl) (S:=S) (x:=x) hI.2 hx (A:=HP.an (HP.one it (.mapIter (some r.mp) cl (kr S (some x)) cl)) (iU b (cI g r).toArray g r f l cl)) (λR h H=>HP.aj H) (λR h H=>aC.at (iU.map (HP.ai H)))
  rw[hz]at x5
  refine⟨x.1,m.fr,m.to,m.num,m.bf,m.kind,m.ep,m.at',m.cell.what,ca,m.cell.data.length,cc,m.br,m.bw,va,m.val.length,vc,m.bM,m.tail,m.low,m.back,x5,λy=>?_⟩
  refine(pN (Ls sO a n es) (HP.an (cU y (m.cF ca cc va vc)) (iU b (cI g r).toArray g r f l cl)) a n c es (λ_ _ h=>h) (by omega) (.func (.func 210) #[] #[.pointer (some ⟨y,0,none⟩)]) rfl (λz=>rN z.m m) λz hz=>aa3 y m ca cc va vc z _ _ (λR h H=>?_) hDV).ak (λ_ _ h=>h) ?_
  ·exact(H.2.2 z hz:_)
  rintro v R h ⟨rfl,H⟩
  refine⟨_,rfl,⟨λhst=>?_,λhst=>?_⟩,H⟩
  ·refine⟨r.mp,xr rfl,?_⟩
   refine(Y9 x.1 0).ak (λ_ _ h=>h) ?_
   rintro v R h ⟨rfl,H⟩
   have Et:J (HP.one it (.mapIter (some r.mp) cl (kr S (some x)) cl)) (iU b (cI g r).toArray g r (gU f x.1 none) (ff x.1 l) cl) (lZ (ff x.1 l) (S.push x.2.2)):=by
    refine⟨ff x.1 l,S.push x.2.2,gU f x.1 none,rfl,rfl,hI.YE x.1,λk=>?_,λy hy Wm=>?_,rfl⟩
    ·unfold gU
     by_cases e:k=x.1
     ·subst e;exact .inr ⟨if_pos rfl,m,hpm,show(es.any λx=>rN x.m m)=false from by simpa using hst⟩
     ·rw[if_neg e];exact hf k
    ·have Z8:=(il x.1 l).subset hy
     rcases g6 hI.2 hx Z8 Wm with rfl|h
     ·have:=(gS y.1 (ff y.1 l)).2 (List.mem_map.2 ⟨y,hy,rfl⟩)
      rw[mO _ _ _ hI.1,if_pos rfl]at this
      cases this
     ·exact hS y Z8 h
   refine⟨_,rfl,⟨⟨_,Et⟩,Nat.lt_of_le_of_lt (j7 Et) ?_⟩,H⟩
   show lZ _ _<eK _
   rw[VN,<-hN]
   exact Nat.lt_of_le_of_lt (((il x.1 l).filter _).length_le) (kq hx hxS)
  ·have Et:J (HP.one it (.mapIter (some r.mp) cl (kr S (some x)) cl)) (iU b (cI g r).toArray g r f l cl) (lZ l (S.push x.2.2)):=by
    refine⟨l,S.push x.2.2,f,rfl,rfl,hI,hf,λy hy Wm=>?_,rfl⟩
    rcases g6 hI.2 hx hy Wm with rfl|h
    ·exact⟨m,hpm,show(es.any λx=>rN x.m m)=true from by simpa using hst⟩
    ·exact hS y hy h
   refine⟨⟨_,Et⟩,Nat.lt_of_le_of_lt (j7 Et) ?_⟩
   show lZ _ _<eK _
   rw[VN,<-hN]
   exact kq hx hxS
 ·have Hm:=iU.map (HP.ai H)
  let NK:=g.bK.filter λy=>still y.2
  have hff:f=bL NK:=funext λk=>by
   rw[Cu hok.pn.2.1]
   cases hp:bL g.bK k with
   |none=>
    rcases hf k with e|⟨e,m,hm,_⟩
    ·rw[e,hp];rfl
    ·rw[hp]at hm;cases hm
   |some m=>
    by_cases hst:still m=true
    ·rcases hf k with e|⟨e,m',hm,qK⟩
     ·rw[e,hp];simp[Option.filter,hst]
     ·rw[hp]at hm;cases hm;rw[hst]at qK;cases qK
    ·rcases hf k with e|⟨e,_⟩
     ·rw[hp]at e
      obtain⟨v,hv,_⟩:=aC.Bo Hm u6.gf e h
      obtain⟨z,hz⟩:=jK k l v hv
      obtain⟨m',YL,qK⟩:=hS _ hz (he.2 _ hz)
      rw[hp]at YL
      cases YL
      exact absurd qK hst
     ·rw[e];simp[Option.filter,hst]
  have hsh:=iU.shape (l:=NK) (hff▸HP.ai H)
  refine⟨false,.tuple #[],.tuple #[],_,he.1,⟨λh=>(by cases h),λ_=>?_⟩,H⟩
  clear H Hm
  subst hff
  clear hJ VN hf hS hN he
  let gk:Nat->cE I.α:=λk=>((es.map (·.m)).take k).foldl xi {g with bK:=NK}
  have gs:∀ {k:Nat} {y:js},es[k]? =some y->gk (k+1)=xi (gk k) y.m:=λ{k y} hy=>by
   show((es.map (·.m)).take (k+1)).foldl xi _=_
   have:(es.map (·.m))[k]? =some y.m:=by rw[List.getElem?_map,hy];rfl
   rw[List.take_add_one,this,List.foldl_append];rfl
  have RW:NK.length<=g.bK.length:=List.length_filter_le _ _
  refine⟨λi P=>∃(k:Nat) (r':py) (al:AL Int) (c:Nat),i=k/\k<=n/\P=iU b (cI (gk k) r').toArray (gk k) r' (bL (gk k).bK) al c/\CK (gk k) r'/\((∀k v,aG k al=some v->∃(m:MS) (ca:Option Addr) (cc:Nat) (va:Option Addr) (vc:Nat),v=.agg (m.cF ca cc va vc).aA)/\∀j,(aG j al).isSome=Gs (gk k).bK j)/\(0<=(gk k).num/\(gk k).num<=g.num+k/\(gk k).out.length<=g.out.length+k/\(gk k).bK.length<=g.bK.length+k),λi _=>n - i.toNat,?_,?_⟩
  ·refine⟨0,r,l,cl,rfl,Nat.zero_le _,rfl,⟨hok.p,hok.pb,hok.y,hok.d,hok.l,hok.o,hok.os,?_⟩,hsh,hw.n.1,by show g.num<=_;omega,Nat.le_refl _,RW⟩
   exact⟨Nat.le_trans RW hok.pn.1,List.Sublist.nodup (List.Sublist.map _ (List.filter_sublist)) hok.pn.2.1,λy hy=>hok.pn.2.2 y ((List.mem_filter.1 hy).1)⟩
  rintro _ _ ⟨k,r',al',c',rfl,hk,rfl,cR,⟨aeq,aer⟩,hb1,hb2,hb3,hb4⟩
  have hwn:=hw.n
  rw[List.length_map]at hwn
  refine⟨λhlt=>⟨by omega,λ_=>⟨hs (by omega),λ_=>?_⟩⟩,λlN=>.of λR h H=>⟨trivial,HP.ae H (λx hx=>?_) λ_ h=>h⟩⟩
  ·have kW:k<es.length:=by omega
   obtain⟨y,hy⟩:∃y,es[k]? =some y:=⟨es[k],List.getElem?_eq_getElem kW⟩
   have hym:=List.mem_of_getElem? hy
   have Q0:=gs hy
   refine⟨y.m.fr,y.m.to,y.m.num,y.m.bf,y.m.kind,y.m.ep,y.m.at',y.m.cell.what,y.ca,y.m.cell.data.length,y.cc,y.m.br,y.m.bw,y.va,y.m.val.length,y.vc,y.m.bM,y.m.tail,y.m.low,y.m.back,adp (λ_ _ h=>h) hy,λx=>⟨r'.mp,xr rfl,?_⟩⟩
   obtain⟨z,zca,zcc,zva,zvc,np⟩:=Ve (b:=b) (g:=gk k) (r:=r') (cs:=(cI (gk k) r').toArray) (f:=bL (gk k).bK) (cl:=c') y.m.to aeq
   rw[aer]at np
   refine⟨z.fr,z.to,z.num,z.bf,z.kind,z.ep,z.at',z.cell.what,zca,z.cell.data.length,zcc,z.br,z.bw,zva,z.val.length,zvc,z.bM,z.tail,z.low,z.back,_,np,λx2=>⟨λhf=>?_,λhf=>?_⟩⟩
   ·rw[Qj hf]at Q0
    refine⟨aK _ (by omega) (by omega),λ_=>⟨⟨k+1,r',al',c',by omega,by omega,by rw[Q0],by rw[Q0];exact cR,by rw[Q0];exact⟨aeq,aer⟩,by rw[Q0];omega⟩,by dsimp only;omega⟩⟩
   ·rw[Vd hf]at Q0
    let m1:MS:={y.m with fr:=(gk k).node,num:=(gk k).num+1}
    have hm1:m1.small:=hw.s y.m (List.mem_map.2 ⟨y,hym,rfl⟩)
    have hfn:bL (gk k).bK y.m.to=none:=by rw[Av]at hf;simpa using hf
    let g1:cE I.α:={gk k with num:=(gk k).num+1}
    let g2:cE I.α:={g1 with bK:=g1.bK++[(y.m.to,m1)]}
    have tw:=XE m1 y.ca y.cc y.va y.vc hm1 (Ls sO a n es) λR h H=>H.2.2 y hym
    refine⟨(gk k).num,gW rfl,aK _ (by omega) (by omega),λ_=>nC (iT (cs':=(cI g1 r').toArray) rX rfl rfl rfl rfl) ⟨(gk k).node,gW rfl,(gk k).num+1,gW rfl,r'.mp,xr rfl,?_⟩⟩
    refine tw.ak (λ_ _ h=>h) ?_
    rintro v R h ⟨ca1,cc1,va1,vc1,rfl,H⟩
    refine⟨m1.fr,m1.to,m1.num,m1.bf,m1.kind,m1.ep,m1.at',m1.cell.what,ca1,m1.cell.data.length,cc1,m1.bB ca1,m1.br,m1.bw,va1,m1.val.length,vc1,m1.bj va1,m1.bM,m1.tail,m1.low,m1.back,rfl,?_,H⟩
    clear H
    refine(ahV (g:=g1) (r:=r') y.m.to m1 ca1 cc1 va1 vc1 hm1 hfn).ak (λ_ _ h=>h) ?_
    rintro v R h ⟨⟨al2,c2⟩,rfl,H⟩
    have ah0:=iU.shape (HP.aj H)
    refine⟨iU b (cI g2 r').toArray g1 r' (bL g2.bK) al2 c2,rfl,⟨r'.oa,r'.kG.length,r'.oc,Y8 rfl,?_⟩,H⟩
    clear H
    refine tw.ak (λ_ _ h=>h) ?_
    rintro v R h ⟨yB,QY,yC,QZ,rfl,H⟩
    refine⟨m1.fr,m1.to,m1.num,m1.bf,m1.kind,m1.ep,m1.at',m1.cell.what,yB,m1.cell.data.length,QY,m1.bB yB,m1.br,m1.bw,yC,m1.val.length,QZ,m1.bj yC,m1.bM,m1.tail,m1.low,m1.back,rfl,λz=>?_,H⟩
    clear H
    let x1:js:=⟨m1,yB,QY,yC,QZ⟩
    have hol:r'.kG.length=(gk k).out.length:=by rw[<-cR.o,List.length_map]
    have he:(r'.kG++[x1]).map (·.m)=(gk k).out++[m1]:=by rw[List.map_append,cR.o];rfl
    refine(aaK r'.oa r'.kG.length r'.oc r'.kG z x1 (iU b (cI g2 r').toArray g1 r' (bL g2.bK) al2 c2) (CW b (cI g2 r').toArray (aX (VT g1 r' (bL g2.bK) al2 c2))) (λR h H=>VT.of H) (by omega)).ak (λ_ _ h=>h) ?_
    rintro v R h ⟨a3,c3,rfl,H⟩
    refine⟨a3,r'.kG.length+1,c3,PL dE a3 (r'.kG.length+1) c3 (r'.kG++[x1]),CW b (cI g2 r').toArray (aX (VT g1 r' (bL g2.bK) al2 c2)),rfl,?_,H⟩
    clear H
    have hle:r'.kG.length+1=(r'.kG++[x1]).length:=by rw[List.length_append];rfl
    let r3:py:={r' with oa:=a3,oc:=c3,kG:=r'.kG++[x1]}
    rw[<-he]at Q0
    refine aaY (iT (cs':=(cI (gk (k+1)) r3).toArray) KW rfl rfl rfl (by rw[Q0,hle];rfl)) (iU b (cI (gk (k+1)) r3).toArray (gk (k+1)) r3 (bL (gk (k+1)).bK) al2 c2) (λR h H=>by
     have:=VT.to hle H
     rw[Q0]at this⊢
     exact this) ⟨aK _ (by omega) (by omega),λ_=>⟨⟨k+1,r3,al2,c2,by omega,by omega,rfl,?_,?_,?_⟩,by dsimp only;omega⟩⟩
    ·rw[Q0,he]
     refine⟨cR.p,cR.pb,cR.y,cR.d,cR.l,he,⟨by show((gk k).out++[m1]).length<=_;rw[List.length_append];simp;omega,λm hm=>?_⟩,?_⟩
     ·rcases List.mem_append.1 hm with hm|hm
      ·exact cR.os.2 m hm
      ·obtain rfl:=List.mem_singleton.1 hm;exact hm1
     ·show((gk k).bK++[(y.m.to,m1)]).length<=_/\(((gk k).bK++[(y.m.to,m1)]).map (·.1)).Nodup/\∀y'∈(gk k).bK++[(y.m.to,m1)],y'.2.small
      refine⟨by rw[List.length_append];simp;omega,?_,λy' Mu=>?_⟩
      ·rw[List.map_append,List.nodup_append]
       refine⟨cR.pn.2.1,by simp,λu hu v hv e=>?_⟩
       obtain rfl:=List.mem_singleton.1 hv
       subst e
       obtain⟨q,hq,e⟩:=List.mem_map.1 hu
       have:Gs (gk k).bK y.m.to=true:=List.any_eq_true.2 ⟨q,hq,decide_eq_true e⟩
       exact hf this
      ·rcases List.mem_append.1 Mu with hm|hm
       ·exact cR.pn.2.2 y' hm
       ·obtain rfl:=List.mem_singleton.1 hm;exact hm1
    ·rw[Q0];exact ah0
    ·rw[Q0,he]
     show 0<=(gk k).num+1/\(gk k).num+1<=g.num+((k+1:Nat):Int)/\((gk k).out++[m1]).length<=g.out.length+(k+1)/\((gk k).bK++[(y.m.to,m1)]).length<=g.bK.length+(k+1)
     simp only[List.length_append,List.length_singleton]
     omega
  ·obtain rfl:k=n:=by omega
   have e:gk k=Ac g (es.map (·.m)):=by
    show((es.map (·.m)).take k).foldl xi _=_
    rw[List.take_of_length_le (by rw[List.length_map];omega)]
    unfold Ac
    congr 1
    show{g with bK:=g.bK.filter λy=>es.any λx=>rN x.m y.2}={g with bK:=g.bK.filter λy=>(es.map (·.m)).any λx=>rN x y.2}
    simp only[List.any_map];rfl
   rw[<-e]
   exact⟨r',cR,iU.cls (l:=(gk k).bK) hx⟩
end
section
variable {I:tq}{b:Nat}{g:cE I.α}{r:py}
theorem xA{l:List MS}{a:Option Addr}{n c:Nat}(hw:WOk g l):ax Tryz.prog 151 #[.pointer (some ⟨b,0,none⟩),.slice a n c] (HP.an (b6 b g) (xw l a n c)) (λv=>HP.and (v=.tuple #[]) (HP.an (b6 b (Ac g l)) HP.tt)):=by
 refine(ax.ex (A:=λes:List js=>HP.and (es.map (·.m)=l/\es.length=n) (HP.an (b6 b g) (PL dE a n c es))) λes=>ax.pure λhe=>?_).ak (λR h ⟨h1,h2,d,l1,l2,H,⟨es,he,HL⟩⟩=>⟨es,he,h1,h2,d,l1,l2,H,HL⟩) λ_ _ _ h=>h
 obtain⟨rfl,rfl⟩:=he
 refine(Qk a _ c es hw).be (K:=HP.tt) ?_ λv=>.of λR h H=>⟨(HP.aj H).1,HP.ae (HP.aj H).2 (λ_ h=>h) λ_ _=>trivial⟩
 refine λR h d H=>?_
 obtain⟨R1,h1,q1,q2,q3,q4,H1⟩:=(HP.aV.an (PL.ez (K:=sO) (e:=48) (one:=uY) _ _ _ _) (b6 b g)) R h d (HP.ao H)
 exact⟨R1,h1,q1,q2,q3,q4,HP.az (HP.ao H1)⟩
def rZ(g:cE I.α):Prop:=match g.gx with
 |some a=>(a.st≠5->a.st≠6->ny a)/\(a.st=5->g.bo.step≠3)
 |none=>if g.bo.step=0 then True else if g.bo.step=1 then G4 g/\(∀o,g.bo.op=some o->K0 o)else if g.bo.step=2 then aa0 g else False
def nf:Nat->cE I.α->Prop
 |0,_=>False
 |n+1,g=>g.busy=true->rZ g/\(∀g' l,i9 I.F g=(g',some l)->WOk g' l)/\(∀g',i9 I.F g=(g',none)->nf n g')
theorem Ql{n:Nat}(h:g.busy=false):lq I.F (n+1) g=g:=if_pos h
theorem xB{n:Nat}(h:g.busy=true){g':cE I.α}{l:List MS}(e:i9 I.F g=(g',some l)):lq I.F (n+1) g=Ac g' l:=by
 show(if g.busy=false then g else _)=_
 rw[if_neg (by rw[h];decide),e]
theorem K4{n:Nat}(h:g.busy=true){g':cE I.α}(e:i9 I.F g=(g',none)):lq I.F (n+1) g=lq I.F n g':=by
 show(if g.busy=false then g else _)=_
 rw[if_neg (by rw[h];decide),e]
set_option maxHeartbeats 4000000 in
theorem Aw(N:Nat)(hs:nf N g):ax Tryz.prog 110 #[.pointer (some ⟨b,0,none⟩)] (b6 b g) (λv=>HP.and (v=.tuple #[]) (b6 b (lq I.F N g))):=by
 refine b6.kx λr hok=>?_
 refine ax.bV (φ:=r.av.isSome=g.gx.isSome) (λR h H=>dt.aaZ H) λhav=>?_
 refine ah (ρ:=[.n b,.p (dt b g r)]) mixed Tryz.func110 GO ?_
 unfold GN
 refine cg ?_
 let J:HP->Nat->Prop:=λP k=>∃(g':cE I.α) (r':py),P=dt b g' r'/\CK g' r'/\nf k g'/\lq I.F N g=lq I.F k g'/\r'.av.isSome=g'.gx.isSome
 refine⟨λP=>∃k,J P k,λP=>eK (J P),⟨N,g,r,rfl,hok,hs,rfl,hav⟩,?_⟩
 intro P hJ
 have S8:=kX hJ
 have hle:∀ {P' k},J P' k->k<eK (J P)->eK (J P')<eK (J P):=λh hk=>Nat.lt_of_le_of_lt (j7 h) hk
 generalize VN:eK (J P)=k at S8 hle
 obtain⟨g',r',rfl,cR,qK,he,aa5⟩:=S8
 clear hJ
 rw[he]
 cases k with
 |zero=>exact qK.elim
 |succ k=>
 refine⟨g'.busy,U5 rfl,λhb=>?_,λhb=>?_⟩
 rotate_left
 ·rw[Ql (by simpa using hb)]
  exact .of λR h H=>⟨trivial,r',cR,H⟩
 obtain⟨hp,hw,hn⟩:=qK hb
 have iW:∀f:FuncId,ax Tryz.prog f #[.pointer (some ⟨b,0,none⟩)] (b6 b g') (mA b (i9 I.F g'))->ax Tryz.prog f #[.pointer (some ⟨b,0,none⟩)] (dt b g' r') (λv=>HP.ex λa=>HP.ex λn=>HP.ex λc=>HP.ex λP9=>HP.ex λok=>HP.ex λP11=>HP.and (v=.tuple #[.slice a n c,.bool ok]) (HP.and ((ok=true->ax Tryz.prog 151 #[.pointer (some ⟨b,0,none⟩),.slice a n c] (HP.an P11 P9) λv=>HP.ex λQ=>HP.ex λQ2=>HP.and (v=.tuple #[]) (HP.and (HP.aV Q (HP.and True (b6 b (lq I.F (k+1) g')))) (HP.an Q Q2)))/\(¬ok=true->(∃k,J P11 k)/\eK (J P11)<eK (J (dt b g' r')))) (HP.an P9 P11))):=λf t=>by
  refine t.ak (λR h H=>⟨r',cR,H⟩) ?_
  rintro v R h ⟨a,n,c,rfl,h1,h2,d,l1,l2,HG,r2,aa6,HC⟩
  have aet:=dt.aaZ HC
  generalize hx:i9 I.F g'=x at aa6 aet HG HC hw hn⊢
  obtain⟨g2,o⟩:=x
  refine⟨a,n,c,xw (o.getD []) a n c,o.isSome,dt b g2 r2,rfl,⟨λho=>?_,λho=>?_⟩,h1,h2,d,l1,l2,HG,HC⟩
  ·obtain⟨l,rfl⟩:=Option.isSome_iff_exists.1 ho
   exact m0 ((xA (hw _ _ rfl)).ak (λR h H=>HP.ae H (λ_ h=>⟨r2,aa6,h⟩) λ_ h=>h) λ_ _ _ h=>h) (.of λR h H=>⟨trivial,by rw[xB hb hx];exact H⟩)
  ·obtain rfl:o=none:=by simpa using ho
   have Et:J (dt b g2 r2) k:=⟨g2,r2,rfl,aa6,hn _ rfl,by rw[he,K4 hb hx],aet⟩
   exact⟨⟨k,Et⟩,by rw[VN];exact hle Et (Nat.lt_succ_self k)⟩
 refine⟨_,Ar rfl,_,lf (by kernel_rfl) KV,λha=>?_,λha=>?_⟩
 ·obtain⟨a,ea⟩:∃a,g'.gx=some a:=Option.isSome_iff_exists.1 (by rw[<-aa5];exact ha)
  unfold rZ at hp
  rw[ea]at hp
  have e:i9 I.F g'=fp g' a:=by unfold i9;rw[ea]
  exact iW _ (e▸xz ea hp.1 hp.2)
 have ea:g'.gx=none:=by
  cases h:g'.gx with
  |none=>rfl
  |some a=>rw[h]at aa5;exact absurd aa5 ha
 unfold rZ at hp
 rw[ea]at hp
 dsimp only at hp
 refine⟨g'.bo.step,gW rfl,λh0=>?_,λh0=>⟨g'.bo.step,gW rfl,λh1=>?_,λh1=>⟨g'.bo.step,gW rfl,λh2=>?_,λh2=>?_⟩⟩⟩
 ·have e:i9 I.F g'=(g',some (u5 g')):=by unfold i9;rw[ea];exact if_pos h0
  refine G5.ak (λ_ _ h=>h) ?_
  rintro v R h ⟨a,n,c,rfl,H⟩
  refine⟨a,n,c,xw (u5 g') a n c,rfl,m0 ((xA (hw _ _ e)).ak (λR h H=>HP.ae H (λ_ h=>⟨r',cR,h⟩) λ_ h=>h) λ_ _ _ h=>h) (.of λR h H=>⟨trivial,by rw[xB hb e];exact H⟩),H⟩
 ·rw[if_neg h0,if_pos h1]at hp
  have e:i9 I.F g'=jp g':=by unfold i9;rw[ea];exact(if_neg h0).trans (if_pos h1)
  exact iW _ (e▸xy hp.1 hp.2)
 ·rw[if_neg h0,if_neg h1,if_pos h2]at hp
  have e:i9 I.F g'=kz I.F g':=by unfold i9;rw[ea];exact((if_neg h0).trans (if_neg h1)).trans (if_pos h2)
  exact iW _ (e▸Ct hp)
 ·rw[if_neg h0,if_neg h1,if_neg h2]at hp
  exact hp.elim
end
section
variable {I:tq}{b:Nat}{g:cE I.α}{r:py}
structure JOk(j:KI)(dc:Nat):Prop where
 y:j.pl.length<=1000000
 d:j.cell.data.length<=1000000/\j.cell.data.length<=dc
 l:j.left.length<=1000000
 o:j.op=none
set_option maxHeartbeats 2000000 in
theorem K5(N:Nat)(j:KI)(q:py)(hj:JOk j q.dc)(hq:q.ov=none)(hn:0<=g.oG/\g.oG<=1000000000000)(hs:nf N (kA g j)):
 ax Tryz.prog 102 #[.pointer (some ⟨b,0,none⟩),.agg (aen j q).toArray] (HP.an (b6 b g) (HP.an (aO q.ya j.pl.length j.pl) (HP.an (aO q.da j.cell.data.length j.cell.data) (pp q.la j.left.length j.left))))
  (λv=>HP.and (v=.tuple #[]) (b6 b (lq I.F N (kA g j)))):=by
 refine b6.kF λr hok=>?_
 refine(ah (ρ:=[.n b,.p (dt b g r),.i j.i1,.i j.i2,.i j.i3,.i j.kind,.i j.step,.i j.lK,.a q.ya,.n j.pl.length,.n q.yc,.p (aO q.ya j.pl.length j.pl),.i j.at',.i j.cell.what,.a q.da,.n j.cell.data.length,.n q.dc,.p (aO q.da j.cell.data.length j.cell.data),.v (.pointer q.ov),.p HP.tt,.a q.la,.n j.left.length,.n q.lc,.p (pp q.la j.left.length j.left)]) mixed Tryz.func102 Cj ?_).ak (λR h H=>?_) λ_ _ _ h=>h
 rotate_left
 ·exact HP.ae H (λ_ h=>h) λ_ h=>HP.ae h (λ_ h=>h) λ_ h=>HP.ae h (λ_ h=>h) λ_ h=>HP.aM h
 unfold Ah
 refine cg ?_
 intro _
 let g2:cE I.α:={g with oG:=g.oG+1,busy:=true}
 let r3:py:={r with ya:=q.ya,yc:=q.yc,da:=q.da,dc:=q.dc,ov:=q.ov,la:=q.la,lc:=q.lc}
 have ah1:CK (kA g j) r3:=⟨hok.p,hok.pb,hj.y,hj.d,hj.l,hok.o,hok.os,hok.pn⟩
 refine⟨g.oG,gW rfl,aK _ (by omega) (by omega),λ_=>nC (iT (cs':=(cI {g with oG:=g.oG+1} r).toArray) rX rfl rfl rfl rfl) ⟨g.node,gW rfl,g.fB,gW rfl,g.oG+1,gW rfl,nC (iT (cs':=(cI g2 r).toArray) Cs rfl rfl rfl rfl) ?_⟩⟩
 refine opP (S2:=HP.both (aO q.ya j.pl.length j.pl) (HP.both (aO q.da j.cell.data.length j.cell.data) (pp q.la j.left.length j.left))) (λR h x H=>by
  have h1:=HP.aj H
  have h2:=HP.aj (HP.ai H)
  have h3:=HP.ai (HP.ai (HP.ai H))
  exact⟨h1,h2,h3⟩)
  (G2 (vs:=[.int .i64 g.node,.int .i64 g.fB,.int .i64 (g.oG+1),.int .i64 j.kind,.int .i64 j.step,.int .i64 j.lK,.slice q.ya j.pl.length q.yc,.int .i64 j.at',.int .i64 j.cell.what,.slice q.da j.cell.data.length q.dc,.pointer q.ov,.slice q.la j.left.length q.lc]) (cs':=(cI (kA g j) r3).toArray) U9 rfl rfl rfl rfl rfl) (b6 b (kA g j)) (λR h H=>?_) ?_
 ·refine CW.VS (kA g j) r3 rfl ah1 H λx hx=>?_
  have hr:=HP.ai hx
  refine HP.ae (HP.aj hx) (λ_ h=>h) λy hy=>HP.ae hy (λz _=>?_) λz hz=>HP.ae hz (λ_ h=>h) λu hu=>HP.ae hu (λ_ h=>h) λw hw=>HP.ae hw (λ_ h=>h) λp hp=>⟨hp.1,hr.1,hr.2.1,hr.2.2,hp.2.2.2.2.1,hp.2.2.2.2.2⟩
  show(uO q.ov j.op).p R z
  rw[hj.o];exact hq
 ·exact cG (Aw N hs) (.of λR h H=>⟨trivial,HP.aj H⟩)
theorem Qm(x:fh):(i7 x).length=x.path.length+x.bh.length+x.data.length+33:=by
 unfold i7
 simp[me,iS,bZ]
 omega
def Vf(x:fh):KI:={KJ with kind:=1,lK:=fT x,pl:=i7 x}
set_option maxHeartbeats 2000000 in
theorem XL(x:fh)(a:Option Addr)(c:Nat)(S:HP)(hr:bR S a x.data.length (x.data.map fH))(ha:x.data.length≠0->a.isSome=true)(hb:x.path.length<=100000/\x.bh.length<=100000/\x.data.length<=100000)(hn:0<=g.oG/\g.oG<=1000000000000)
 (hs:¬(g.busy=true\/g.waits=true)->Gt x=true->nf 9 (kA g (Vf x))):
 ax Tryz.prog 73 #[.pointer (some ⟨b,0,none⟩),x.val a c] (HP.an (b6 b g) S) (λv=>HP.and (v=.int .i64 (qB I.F g x).2) (HP.an (b6 b (qB I.F g x).1) S)):=by
 refine b6.kF λr hok=>?_
 refine ah (ρ:=[.n b,.p (dt b g r),.i x.kind,.s x.path,.s x.bh,.i x.off,.i x.n,.a a,.n x.data.length,.n c,.p S]) mixed Tryz.func73 P8 ?_
 unfold UX
 refine cg ?_
 intro _
 have ret:∀ {z:cE I.α} {e:Int},qB I.F g x=(z,e)->z=g->HP.aV (HP.an (dt b g r) S) (HP.and (Value.int .i64 e=.int .i64 (qB I.F g x).2) (HP.an (b6 b (qB I.F g x).1) S)):=λ{z e} h hz=>by
  subst hz
  rw[h]
  exact .of λR h H=>⟨rfl,HP.ae H (λ_ h=>⟨r,hok,h⟩) λ_ h=>h⟩
 refine⟨_,U5 rfl,λh1=>ret (if_pos (.inl h1)) rfl,λh1=>⟨_,U5 rfl,λh2=>ret (if_pos (.inr h2)) rfl,λh2=>?_⟩⟩
 have vO:¬(g.busy=true\/g.waits=true):=λh=>h.elim h1 h2
 have un:qB I.F g x=if Gt x=true then(lq I.F 9 (kA g (Vf x)),0)else(g,1):=if_neg vO
 refine(KS x a c S hr ha (by omega)).ak (λ_ _ h=>h) ?_
 rintro v R h ⟨a1,c1,⟨rfl,Oy⟩,H⟩
 have ha1:(i7 x).length≠0->a1.isSome=true:=λhn=>bb.some (HP.aj H) (by omega)
 refine⟨a1,_,c1,aO a1 (i7 x).length (i7 x),rfl,?_,H⟩
 clear H
 have hl:=Qm x
 refine(xg a1 _ c1 (i7 x) (aO a1 (i7 x).length (i7 x)) (bR.ro _ _ _ _) rfl Oy ha1 (by omega)).ak (λ_ _ h=>h) ?_
 rintro v R h H
 have un2:Gt x=match lg (i7 x)with
  |some y=>Nw x y
  |none=>false:=rfl
 unfold mw at H
 revert un2 H
 cases lg (i7 x)with
 |none=>
  rintro⟨rfl,H⟩ un2
  rw[show Gt x=false from un2]at un
  exact⟨_,_,_,_,_,none,0,0,HP.tt,3,rfl,λ_=>⟨λ_=>ret un rfl,λh=>absurd h (by decide)⟩,HP.aM H⟩
 |some y=>
  rintro⟨ya,yc,rfl,H⟩ un2
  refine⟨y.kind,y.path,y.bh,y.off,y.n,ya,y.data.length,yc,du ya y.data.length yc y.data,0,rfl,λ_=>⟨λh=>absurd rfl h,λ_=>?_⟩,H⟩
  clear H
  refine(G1 x y a ya c yc S (du ya y.data.length yc y.data) hr (bR.ow _ 1 _ _ _ _)).ak (λ_ _ h=>h) ?_
  rintro v R h ⟨rfl,H⟩
  refine⟨_,rfl,⟨λh3=>?_,λh3=>?_⟩,H⟩
  ·have h3:Gt x=false:=un2.trans (by simpa using h3)
   rw[h3]at un
   exact ret un rfl
  clear H
  have h3:Gt x=true:=un2.trans (by simpa using h3)
  rw[if_pos h3]at un
  refine gC (g:=λx=>.int .i64 x) (fT x) (KR x a c S (by omega)) ?_
  let q:py:={r with ya:=a1,yc:=c1,da:=none,dc:=0,ov:=none,la:=none,lc:=0}
  refine m0 (Q2:=HP.tt) ((K5 9 (Vf x) q ⟨by show(i7 x).length<=_;omega,⟨Nat.zero_le _,Nat.zero_le _⟩,Nat.zero_le _,rfl⟩ rfl hn (hs vO h3)).ak (λR h H=>HP.ae H (λ_ h=>⟨r,hok,h⟩) λy hy=>bb.join hy (bb.join (h:=y) (bb.nil _ _ _ _) (bb.nil _ _ R y))) λv R h ⟨e,H⟩=>⟨e,HP.az H⟩) ?_
  rw[un]
  exact .of λR h H=>⟨rfl,H⟩
end
theorem K6(l:List (Int×MS))(k:Int):bL (pU l k)=gU (bL l) k none:=funext λj=>by
 unfold gU
 induction l with
 |nil=>split<;>rfl
 |cons y l ih=>
  unfold pU at ih⊢
  rw[List.filter_cons]
  by_cases e:y.1=k
  ·rw[if_neg (by simp[e]),ih,dX]
   by_cases ej:j=k
   ·rw[if_pos ej,if_pos ej]
   ·rw[if_neg ej,if_neg ej,if_neg (λh=>ej (h.symm.trans e))]
  ·rw[if_pos (by simp[e]),dX,dX,ih]
   by_cases ej:y.1=j
   ·rw[if_pos ej,if_neg (λh=>e (ej.trans h)),if_pos ej]
   ·rw[if_neg ej,if_neg ej]
section
variable {I:tq}{b:Nat}{g:cE I.α}{r:py}
theorem iU.look{cs:Array Value}{l:List (Int×MS)}{al:AL Int}{cl:Nat}(k:Int){R h:PH}(H:(iU b cs g r (bL l) al cl).p R h):
 ∃(q:MS) (ca:Option Addr) (cc:Nat) (va:Option Addr) (vc:Nat),aH Tryz.prog (kU 112 (.map (some r.mp)) (.int .i64 k) true) (iU b cs g r (bL l) al cl) (.tuple #[.agg (q.cF ca cc va vc).aA,.bool (bL l k).isSome])/\
  ∀p,bL l k=some p->q=p/\∀R h,(iU b cs g r (bL l) al cl).p R h->(q.bB ca).p R h/\(q.bj va).p R h:=by
 obtain⟨i,hi,z1⟩:=Option.bind_eq_some_iff.1 Ju
 have np:=gX (r:=r.mp) (l:=al) (c:=cl) iK m9 hi z1 k true (A:=iU b cs g r (bL l) al cl) λR h H=>aC.at (iU.map H)
 cases hf:bL l k with
 |none=>
  rw[aC.no (iU.map H) hf]at np
  exact⟨mC,none,0,none,0,np,λp hp=>by cases hp⟩
 |some m=>
  obtain⟨v,hv,ca,cc,va,vc,⟨rfl,_⟩,_⟩:=aC.Bo (iU.map H) u6.gf hf h
  rw[hv]at np
  refine⟨m,ca,cc,va,vc,np,λp hp=>⟨Option.some.inj hp,λR h H=>?_⟩⟩
  obtain⟨v',HJ,yt,xS,pK,uC,⟨e,_⟩,hD,hV⟩:=aC.Bo (iU.map H) u6.gf hf h
  rw[hv]at HJ
  have e1:=Option.some.inj HJ
  rw[e]at e1
  simp[MR.aA]at e1
  obtain⟨⟨rfl,rfl⟩,rfl,rfl⟩:=e1
  exact⟨hD,hV⟩
structure K7(g:cE I.α)(m:MS):Prop where
 a:∀a,g.gx=some a->Nt a
 t:g.gx=none->g.bo.step=0->G4 g
 n:g.gx=none->g.bo.step≠3
 o:g.gx=none->g.bo.step≠0->∃o,g.bo.op=some o/\0<=o.place/\o.place<=1000000000
 s:∀a',(∀a,g.gx=some a->mr a m a')->nf 9 (kB g m a')
def oP(g:cE I.α)(m:MS):Bool:=match bL g.bK m.fr with
 |none=>false
 |some q=>jG m q
theorem xC{m:MS}(h:oP g m=false)(a':bY):jU I.F g m a'=g:=by
 unfold jU
 unfold oP at h
 cases e:bL g.bK m.fr with
 |none=>rfl
 |some q=>rw[e]at h;exact if_neg (by rw[show jG m q=false from h];decide)
theorem tz{m:MS}(h:oP g m=true)(a':bY):jU I.F g m a'=lq I.F 9 (kB {g with bK:=pU g.bK m.fr} m a'):=by
 unfold jU
 unfold oP at h
 cases e:bL g.bK m.fr with
 |none=>rw[e]at h;cases h
 |some q=>rw[e]at h;exact if_pos h
set_option maxHeartbeats 4000000 in
theorem Qn(m:MS)(ca:Option Addr)(cc:Nat)(va:Option Addr)(vc:Nat)(hm:m.small)(hT:oP g m=true->K7 {g with bK:=pU g.bK m.fr} m):
 ax Tryz.prog 82 #[.pointer (some ⟨b,0,none⟩),.agg (m.cF ca cc va vc).aA] (HP.an (b6 b g) (DV m ca va)) (λv=>HP.ex λa'=>HP.and (v=.tuple #[]/\(oP g m=true->∀a,g.gx=some a->mr a m a')) (b6 b (jU I.F g m a'))):=by
 refine b6.kF λr hok=>?_
 refine ax.bV (φ:=r.av.isSome=g.gx.isSome) (λR h H=>dt.aaZ (HP.aj H)) λhav=>?_
 refine(ax.ex (A:=λal=>HP.ex λcl=>HP.an (iU b (cI g r).toArray g r (bL g.bK) al cl) (DV m ca va)) λal=>ax.ex λcl=>?_).ak (λR h H=>iU.bz H) λ_ _ _ h=>h
 refine ax.bV (λR h H=>iU.look m.fr (HP.aj H)) λ⟨q,qca,qcc,qva,qvc,np,hq⟩=>?_
 refine ah (ρ:=[.n b,.p (iU b (cI g r).toArray g r (bL g.bK) al cl)]++m.env ca cc va vc) mixed Tryz.func82 GU ?_
 unfold GS MS.env
 refine cg ?_
 have back:oP g m=false->HP.aV (HP.an (iU b (cI g r).toArray g r (bL g.bK) al cl) (HP.an (m.bB ca) (m.bj va))) (HP.ex λa'=>HP.and (True/\(oP g m=true->∀a,g.gx=some a->mr a m a')) (b6 b (jU I.F g m a'))):=λh=>.of λR y H=>⟨g9 g.bt g.cv 0,⟨trivial,λh'=>by rw[h]at h';cases h'⟩,by
  rw[xC h]
  exact⟨r,hok,iU.cls (l:=g.bK) (HP.aj H)⟩⟩
 intro x
 refine⟨r.mp,xr rfl,q.fr,q.to,q.num,q.bf,q.kind,q.ep,q.at',q.cell.what,qca,q.cell.data.length,qcc,q.br,q.bw,qva,q.val.length,qvc,q.bM,q.tail,q.low,q.back,_,np,λx2=>⟨λh1=>?_,λh1=>?_⟩⟩
 ·refine back ?_
  unfold oP
  have:bL g.bK m.fr=none:=by simpa using h1
  rw[this]
 obtain⟨p,hp⟩:∃p,bL g.bK m.fr=some p:=Option.isSome_iff_exists.1 (by simpa using h1)
 obtain⟨rfl,hDV⟩:=hq p hp
 have Dg:oP g m=jG m q:=by unfold oP;rw[hp]
 refine(U2 m q ca cc va vc qca qcc qva qvc x _ hDV).ak (λ_ _ h=>h) ?_
 rintro v R h ⟨rfl,H⟩
 refine⟨_,rfl,⟨λh2=>back (Dg.trans (by simpa using h2)),λh2=>⟨r.mp,xr rfl,?_⟩⟩,H⟩
 clear H
 have Dg:oP g m=true:=Dg.trans (by simpa using h2)
 have hT:=hT Dg
 refine(Y9 m.fr 0).ak (λ_ _ h=>h) ?_
 rintro v R h ⟨rfl,H⟩
 let g1:cE I.α:={g with bK:=pU g.bK m.fr}
 have oQ:CK g1 r:=⟨hok.p,hok.pb,hok.y,hok.d,hok.l,hok.o,hok.os,Nat.le_trans (List.length_filter_le _ _) hok.pn.1,List.Sublist.nodup (List.Sublist.map _ List.filter_sublist) hok.pn.2.1,λy hy=>hok.pn.2.2 y (List.mem_filter.1 hy).1⟩
 refine⟨dt b g1 r,rfl,?_,iU.cls (l:=pU g.bK m.fr) (by rw[K6];exact H)⟩
 clear H
 have iW:∀a',(∀a,g.gx=some a->mr a m a')->∀X:HP,ax Tryz.prog 110 #[.pointer (some ⟨b,0,none⟩)] (b6 b (kB g1 m a')) λv=>HP.ex λQ'=>HP.and (v=.tuple #[]) (HP.and (HP.aV (HP.an Q' X) (HP.ex λa'=>HP.and (True/\(oP g m=true->∀a,g.gx=some a->mr a m a')) (b6 b (jU I.F g m a')))) Q'):=λa' Oc X=>
  cG (Aw 9 (hT.s a' Oc)) (.of λR h H=>⟨a',⟨trivial,λ_=>Oc⟩,by rw[tz Dg];exact HP.aj H⟩)
 refine⟨_,Ar rfl,_,lf (by kernel_rfl) KV,λha=>⟨_,Ar rfl,?_⟩,λha=>?_⟩
 ·obtain⟨a,ea⟩:∃a,g.gx=some a:=Option.isSome_iff_exists.1 (by rw[<-hav];exact ha)
  have told:=eY (ty:=118) (b:=b) (cs:=(cI g1 r).toArray) (L:=At g1 r) (k:=2) (K:=DV m ca va) (γ:=bY) (X:=i5 r.av (some a)) (X':=λa'=>i5 r.av (some a')) (P:=λ_=>HP.tt) (φ:=λv a'=>v=.tuple #[]/\mr a m a') (by unfold At;rw[show g1.gx=some a from ea];rfl)
   (i5.kF (args:=λp=> #[p,.agg (m.cF ca cc va vc).aA]) (K:=DV m ca va) (φ:=λv a'=>v=.tuple #[]/\mr a m a') (P:=λ_=>HP.tt) λab=>(U0 ab a m ca cc va vc (hT.a a ea) (by have:=hm.2;omega) (m.bB ca)).ak (λ_ _ h=>h) λv R h ⟨g',e,H⟩=>⟨g',e,HP.az H⟩)
  refine told.ak (λ_ _ h=>h) ?_
  rintro v R h ⟨a',⟨rfl,ht⟩,H⟩
  refine⟨dt b {g1 with gx:=some a'} r,HP.tt,HP.tt,rfl,?_,HP.ae H (λ_ h=>h) λ_ _=>HP.az trivial⟩
  have e1:kB g1 m a'={g1 with gx:=some a'}:=by unfold kB;rw[show g1.gx=some a from ea]
  exact(iW a' (λa2 h2=>by rw[ea]at h2;cases h2;exact ht) _).ak (λR h H=>by rw[e1];exact⟨r,⟨oQ.p,oQ.pb,oQ.y,oQ.d,oQ.l,oQ.o,oQ.os,oQ.pn⟩,H⟩) λ_ _ _ h=>h
 have ea:g.gx=none:=by
  cases h:g.gx with
  |none=>rfl
  |some a=>rw[h]at hav;exact absurd hav ha
 have ht0:∀a,g.gx=some a->mr a m (g9 g.bt g.cv 0):=λa h=>by rw[ea]at h;cases h
 have hT':=hT.s _ ht0
 refine⟨g1.bo.step,gW rfl,λh0=>?_,λh0=>⟨g1.bo.step,gW rfl,λh3=>absurd h3 (hT.n ea),λh3=>⟨_,rW rfl,?_⟩⟩⟩
 ·have e1:kB g1 m (g9 g.bt g.cv 0)=jP g1 m:=by unfold kB;rw[show g1.gx=none from ea];exact if_pos h0
  refine(K1 (g:=g1) (hT.t ea h0) m ca cc va vc).ak (λR h H=>HP.ae H (λ_ h=>⟨r,oQ,h⟩) λ_ h=>h) ?_
  rintro v R h ⟨rfl,H⟩
  exact⟨b6 b (jP g1 m),m.bB ca,m.bj va,rfl,e1▸iW _ ht0 _,H⟩
 ·obtain⟨o,ho,hp1⟩:=hT.o ea h0
  have e1:kB g1 m (g9 g.bt g.cv 0)=g1.bQ (some (jF o m)):=by unfold kB;rw[show g1.gx=none from ea];exact((if_neg h0).trans (if_neg h3)).trans (by rw[ho];rfl)
  have told:=eY (ty:=118) (b:=b) (cs:=(cI g1 r).toArray) (L:=At g1 r) (k:=1) (K:=DV m ca va) (γ:=Unit) (X:=uO r.ov (some o)) (X':=λ_=>uO r.ov (some (jF o m))) (P:=λ_=>DV m ca va) (φ:=λv _=>v=.tuple #[]) (by unfold At;rw[ho];rfl)
   (uO.kF (args:=λp=> #[p,.agg (m.cF ca cc va vc).aA]) (K:=DV m ca va) (γ:=Unit) (o':=λ_=>jF o m) (φ:=λv _=>v=.tuple #[]) (P:=λ_=>DV m ca va) λob=>(UL ob o m ca cc va vc hp1 (by have:=hm.1;omega)).ak (λ_ _ h=>h) λv R h ⟨e,H⟩=>⟨(),e,H⟩)
  refine told.ak (λ_ _ h=>h) ?_
  rintro v R h ⟨_,rfl,H⟩
  refine⟨dt b (g1.bQ (some (jF o m))) r,m.bB ca,m.bj va,rfl,?_,H⟩
  exact(iW _ ht0 _).ak (λR h H=>by rw[e1];exact⟨r,⟨oQ.p,oQ.pb,oQ.y,oQ.d,oQ.l,oQ.o,oQ.os,oQ.pn⟩,H⟩) λ_ _ _ h=>h
end
section
variable {I:tq}
theorem tx.new{m:Nat}{R h:PH}(H:(HP.one m (.map #[] 0)).p R h):(tx m []).p R h:=eJ.new u6 iE m H
set_option maxHeartbeats 2000000 in
theorem Vg(s0:I.α)(hN:ax Tryz.prog 41 #[] HP.tt (λv=>HP.ex λrb=>HP.and (v=.pointer (some ⟨rb,0,none⟩)) (I.R rb s0)))(node fB cv ep:Int)(a:Option Addr)(n c:Nat)(es:List iZ)(S:HP)(hS:∀R h,S.p R h->(Ls fu a n es).p R h)(hb:0<=fB/\fB<=1000000)(hn:es.length<=1000)(hx:∀x∈es,x.l.length<=1000000):
 ax Tryz.prog 20 #[.int .i64 node,.int .i64 fB,.int .i64 cv,.agg #[.int .i64 ep,.slice a n c]] S (λv=>HP.ex λb=>HP.and (v=.pointer (some ⟨b,0,none⟩)) (HP.an (b6 b (uK node fB cv ⟨ep,es.map (·.l)⟩ s0)) S)):=by
 refine ax.bV (φ:=es.length=n) (λR h H=>(hS R h H).1) λhl=>?_
 subst hl
 refine ah (ρ:=[.i node,.i fB,.i cv,.i ep,.a a,.n es.length,.n c,.p S]) mixed Tryz.func20 KO ?_
 unfold NB
 refine cg ?_
 intro _
 refine(Qe S ep a es.length c es hS (by omega) (λx h=>by have:=hx x h;omega)).ak (λ_ _ h=>h) ?_
 rintro v R h ⟨a',c',b9,⟨rfl,he⟩,H⟩
 have vS:b9.length=es.length:=(HP.aj H).1
 refine⟨ep,a',es.length,c',Ls fu a' es.length b9,rfl,?_,H⟩
 clear H
 refine hN.ak (λ_ _ h=>h) ?_
 rintro v R h ⟨rb,rfl,H⟩
 refine⟨.pointer (some ⟨rb,0,none⟩),I.R rb s0,rfl,λx y=>.of λR h H=>⟨y,rfl,?_⟩,H⟩
 have hw:IntKind.i64.wrap (fB*2^min (Int.toNat 32) IntKind.i64.bits)=fB*4294967296:=by
  have e:(2:Int)^min (Int.toNat 32) IntKind.i64.bits=4294967296:=by decide
  rw[e]
  exact gu ⟨by show(-9223372036854775808:Int)<=_;omega,by show _<=(9223372036854775807:Int);omega⟩
 rw[hw]at H
 let g:cE I.α:=uK node fB cv ⟨ep,es.map (·.l)⟩ s0
 let r:py:=⟨a',c',b9,rb,none,0,none,0,none,none,0,none,x,none,0,[],none,0,none,0⟩
 have hok:CK g r:=⟨he,⟨by show b9.length<=1000;omega,λz hz=>?_⟩,Nat.zero_le _,⟨Nat.zero_le _,Nat.zero_le _⟩,Nat.zero_le _,rfl,⟨Nat.zero_le _,λm hm=>(by cases hm)⟩,⟨Nat.zero_le _,List.nodup_nil,λy hy=>(by cases hy)⟩⟩
 ·have hls:(Ls fu a' es.length b9).p R h:=HP.aj (HP.ai (HP.ai H))
  have H1:=HP.pick [S,_,Ls fu a' es.length b9,I.R rb s0,HP.one x (.map #[] 0)] [1,3,4,0] (by decide) rfl H
  have H2:(HP.an (HP.an (HP.one y (.cells (cI g r).toArray 118 (0,0))) (HP.an (I.R rb s0) (HP.one x (.map #[] 0)))) S).p R h:=by
   have e:(cI g r).toArray= #[Value.int .i64 node,.int .i64 fB,.int .i64 cv,.int .i64 ep,.slice a' b9.length c',.pointer (some ⟨rb,0,none⟩),.int .i64 0,.int .i64 0,.int .i64 (fB*4294967296),.bool false,.int .i64 0,.int .i64 0,.int .i64 0,.int .i64 0,.int .i64 0,.int .i64 0,.slice none 0 0,.int .i64 0,.int .i64 0,.slice none 0 0,.pointer none,.slice none 0 0,.pointer none,.int .i64 0,.map (some x),.slice none 0 0,.bool false,.int .i64 0,.int .i64 0,.int .i64 0,.int .i64 0,.int .i64 0,.int .i64 0,.int .i64 0,.slice none 0 0,.slice none 0 0]:=rfl
   rw[e,vS]
   exact HP.ay (HP.ae H1 (λ_ h=>h) λz hz=>HP.ay hz)
  refine HP.ae H2 (λz hz=>⟨r,hok,HP.ae hz (λ_ h=>h) λu hu=>?_⟩) λ_ h=>h
  refine HP.ae hu (λ_ h=>h) λw hw=>HP.yE (λ_=>rfl) (HP.yE (λ_=>rfl) ?_)
  refine⟨w,PH.cz,PH.gq _,PH.le.refl _,PH.cT _,tx.new hw,?_⟩
  refine HP.yE (λ_=>PL.nX _ _ _) ?_
  exact⟨by show(Ls fu a' b9.length b9).p R _;rw[vS];exact Ls.gf _ hls,bb.nil _ _ _ _,bb.nil _ _ _ _,bb.nil _ _ _ _,bb.nil _ _ _ _,bb.nil _ _ _ _⟩
 ·have:z.l∈es.map (·.l):=by rw[<-he];exact List.mem_map.2 ⟨z,hz,rfl⟩
  obtain⟨w,hw,e⟩:=List.mem_map.1 this
  rw[<-e];exact hx w hw
end
end
namespace RX
-- eC/ah3.New:ρ:=[]
def Vh:T:=
(.new
(.call 36 [.ptr 0 0] [(.b 0,.cells [.k (-1),.k 0,.k 0,.k 0,.k 0,.k 0,.k 0,.k 0,.k 0,.k 0] 95)] [.i,.i,.i,.i,.i,.i,.i,.i,.i,.i] (.au []) [(.b 0,.cells [1,2,3,4,5,6,7,8,9,10] 95)]
(.ret (.ptr 0 0) [(.b 0,.cells [1,2,3,4,5,6,7,8,9,10] 95)])))
theorem Qo:tree Tryz.prog {aB:=[99999,99999],bz:=true,cx:=true} Tryz.f16 [] [] 0=Vh:=by kernel_rfl
def Ax:T:=
(.loop [.i,.p] [.z (.i 0),.p [(.b 0,1)]]
(.br (.lt 2 (.i 8))
(.read (.indexAddr 93 (.tmp 9) (.tmp 7)) 0 [(9,.ptr 0 2),(7,2)] [(.b 0,3)] [.v] (.val 4)
(.op (.store 3 (.tmp 10) (.const (.int .i64 (-1)))) 0 [(10,.val 4)] [(.b 0,3)] [.p] (.au []) [(.b 0,5)]
  (.rg (.add 2 (.i 1))
(.again 0 [.z (.add 2 (.i 1)),.p [(.b 0,5)]]))))
(.ret (.au []) [(.b 0,3)])))
theorem Cv:tree Tryz.prog {hv:=[(0,[.b 0])],aB:=[99999,99999],bz:=true,cx:=true} Tryz.f36 [.ptr 0 0] [(.b 0,1)] 2=Ax:=by kernel_rfl
def G8:T:=
(.ld 3 20 (.ptr 0 0) [(.b 0,1)] [.i] 4
(.br (.lt 2 4)
(.ret (.k 8) [(.b 0,1)])
(.br (.lt 2 (.i 0))
(.ret (.k 1) [(.b 0,1)])
(.br (.lt 3 (.i 0))
(.ret (.k 1) [(.b 0,1)])
(.br (.lt (.i 4294967296) 3)
(.ret (.k 1) [(.b 0,1)])
  (.ld 3 38 (.ptr 0 0) [(.b 0,1)] [.i] 5
(.br (.lt 5 2)
(.op (.store 3 (.tmp 46) (.tmp 43)) 0 [(46,.ptr 0 0),(43,2)] [(.b 0,1)] [.p] (.au []) [(.b 0,6)]
(.op (.store 3 (.tmp 48) (.tmp 44)) 0 [(48,.ptr 0 1),(44,3)] [(.b 0,6)] [.p] (.au []) [(.b 0,7)]
(.call 36 [.ptr 0 0] [(.b 0,7)] [.p] (.au []) [(.b 0,8)]
(.ret (.k 0) [(.b 0,8)]))))
  (.ld 3 10 (.ptr 0 1) [(.b 0,1)] [.i] 6
(.op (.store 3 (.tmp 15) (.tmp 13)) 0 [(15,.ptr 0 1),(13,.w (.a (.int .i64 (.o2 .mx 6 3))))] [(.b 0,1)] [.p] (.au []) [(.b 0,7)]
(.ret (.k 0) [(.b 0,7)]))))))))))
theorem G9:tree Tryz.prog {aB:=[99999,99999],bz:=true,cx:=true} Tryz.f173 [.ptr 0 0,2,3] [(.b 0,1)] 4=G8:=by kernel_rfl
def Ha:T:=
(.ld 3 12 (.ptr 0 0) [(.b 0,1)] [.i] 4
(.br (.lt 4 (.i 0))
(.ret (.au [.k 0,.k 0,.k 8]) [(.b 0,1)])
 (.ld 3 19 (.ptr 0 0) [(.b 0,1)] [.i] 5
(.br (.not (.eq 2 5))
(.ret (.au [.k 0,.k 0,.k 8]) [(.b 0,1)])
(.br (.lt 3 (.i 0))
(.ret (.au [.k 0,.k 0,.k 1]) [(.b 0,1)])
(.br (.le (.i 8) 3)
(.ret (.au [.k 0,.k 0,.k 1]) [(.b 0,1)])
  (.ld 3 33 (.ptr 0 1) [(.b 0,1)] [.i] 6
(.br (.lt (.i 4294967296) 6)
(.ret (.au [.k 0,.k 0,.k 2]) [(.b 0,1)])
  (.ld 3 38 (.ptr 0 1) [(.b 0,1)] [.i] 7
(.read (.indexAddr 93 (.tmp 43) (.tmp 41)) 0 [(43,.ptr 0 2),(41,3)] [(.b 0,1)] [.v] (.val 8)
  (.ld 3 44 (.val 8) [(.b 0,1)] [.i] 9
(.read (.indexAddr 93 (.tmp 50) (.tmp 47)) 0 [(50,.ptr 0 2),(47,3)] [(.b 0,1)] [.v] (.val 10)
(.op (.store 3 (.tmp 51) (.tmp 48)) 0 [(51,.val 10),(48,7)] [(.b 0,1)] [.p] (.au []) [(.b 0,11)]
  (.ld 3 54 (.ptr 0 1) [(.b 0,11)] [.i] 12
  (.rg (.add 12 (.i 1))
(.op (.store 3 (.tmp 58) (.tmp 56)) 0 [(58,.ptr 0 1),(56,.w (.a (.int .i64 (.add 12 (.i 1)))))] [(.b 0,11)] [.p] (.au []) [(.b 0,13)]
(.ret (.au [7,9,.k 0]) [(.b 0,13)])))))))))))))))))
theorem Hb:tree Tryz.prog {aB:=[99999,99999],bz:=true,cx:=true} Tryz.f175 [.ptr 0 0,2,3] [(.b 0,1)] 4=Ha:=by kernel_rfl
def Ay:T:=
(.call 173 [.ptr 1 0,9,10] [(.b 1,2)] [.i,.p] 50 [(.b 1,51)]
(.br (.eq 50 (.i 0))
 (.ld 3 20 (.ptr 1 1) [(.b 1,51)] [.i] 52
 (.ld 3 27 (.ptr 1 0) [(.b 1,51)] [.i] 53
(.ret (.au []) [(.b 0,.cells [.ptr 1 0] 64),(.b 1,51),(.b 3,.cells [4,5,6,.bool 7,8,9,10,11,.s 12,16,17,.s 18,22,23,24,25] 48),(12,15),(18,21),(.b 26,.cells [.ptr 27 0] 205),(.b 27,.cells [28,29,30,.bool 31,32,33,34,35,.s 36,40,41,.s 42,50,52,48,53] 48),(36,39),(42,45)])))
 (.ld 3 27 (.ptr 1 0) [(.b 1,51)] [.i] 52
(.ret (.au []) [(.b 0,.cells [.ptr 1 0] 64),(.b 1,51),(.b 3,.cells [4,5,6,.bool 7,8,9,10,11,.s 12,16,17,.s 18,22,23,24,25] 48),(12,15),(18,21),(.b 26,.cells [.ptr 27 0] 205),(.b 27,.cells [28,29,30,.bool 31,32,33,34,35,.s 36,40,41,.s 42,50,47,48,52] 48),(36,39),(42,45)]))))
theorem Cw:tree Tryz.prog {aB:=[99999,99999]} Tryz.f172 [.ptr 0 0,.ptr 3 0,.ptr 26 0] [(.b 0,.cells [.ptr 1 0] 64),(.b 1,2),(.b 3,.cells [4,5,6,.bool 7,8,9,10,11,.s 12,16,17,.s 18,22,23,24,25] 48),(12,15),(18,21),(.b 26,.cells [.ptr 27 0] 205),(.b 27,.cells [28,29,30,.bool 31,32,33,34,35,.s 36,40,41,.s 42,46,47,48,49] 48),(36,39),(42,45)] 50=Ay:=by kernel_rfl
def Az:T:=
(.call 175 [.ptr 1 0,9,10] [(.b 1,2)] [.i,.i,.i,.p] (.au [50,51,52]) [(.b 1,53)]
(.ret (.au []) [(.b 0,.cells [.ptr 1 0] 64),(.b 1,53),(.b 3,.cells [4,5,6,.bool 7,8,9,10,11,.s 12,16,17,.s 18,22,23,24,25] 48),(12,15),(18,21),(.b 26,.cells [.ptr 27 0] 205),(.b 27,.cells [28,29,30,.bool 31,32,33,34,35,.s 36,40,41,.s 42,52,50,48,51] 48),(36,39),(42,45)]))
theorem Cx:tree Tryz.prog {aB:=[99999,99999]} Tryz.f174 [.ptr 0 0,.ptr 3 0,.ptr 26 0] [(.b 0,.cells [.ptr 1 0] 64),(.b 1,2),(.b 3,.cells [4,5,6,.bool 7,8,9,10,11,.s 12,16,17,.s 18,22,23,24,25] 48),(12,15),(18,21),(.b 26,.cells [.ptr 27 0] 205),(.b 27,.cells [28,29,30,.bool 31,32,33,34,35,.s 36,40,41,.s 42,46,47,48,49] 48),(36,39),(42,45)] 50=Az:=by kernel_rfl
def Hc:T:=
(.new
(.new
(.new
(.new
(.op (.insert 207 (.tmp 7) (.const (.int .i64 9)) (.tmp 8)) 0 [(7,.map 29),(8,.w (.a (.func 172 [(26,0),(27,0),(28,0)])))] [(.b 29,.kD),(.b 26,.cells [.ptr 0 0] 64),(.b 0,1),(.b 27,.cells [2,3,4,.bool 5,6,7,8,9,.s 10,14,15,.s 16,20,21,22,23] 48),(10,13),(16,19),(.b 28,.cells [.ptr 24 0] 205),(.b 24,25)] [.p] (.au []) [(.b 29,30)]
(.op (.insert 207 (.tmp 7) (.const (.int .i64 8)) (.tmp 9)) 0 [(7,.map 29),(9,.w (.a (.func 174 [(26,0),(27,0),(28,0)])))] [(.b 29,30)] [.p] (.au []) [(.b 29,31)]
(.ret (.map 29) [(.b 29,31)])))))))
theorem Hd:tree Tryz.prog {aB:=[99999,99999]} Tryz.f121 [.ptr 0 0,.agg [2,3,4,.bool 5,6,7,8,9,.s 10,14,15,.s 16,20,21,22,23],.ptr 24 0] [(.b 0,1),(10,13),(16,19),(.b 24,25)] 26=Hc:=by kernel_rfl
def AA:T:=
(.new
(.new
(.call 117 [.agg [2,3,4,.bool 5,6,7,8,9,.s 10,14,15,.s 16,20,21,22,23],.k 0] [(10,13),(16,19)] [.i,.i,.i,.c,.i,.i,.i,.i,.a,.n,.n,.p,.i,.i,.a,.n,.n,.p,.i,.i,.i,.i] (.agg [26,27,28,.bool 29,30,31,32,33,.s 34,38,39,.s 40,44,45,46,47]) [(34,37),(40,43),(10,13),(16,19)]
(.new
(.call 121 [.ptr 0 0,.agg [2,3,4,.bool 5,6,7,8,9,.s 10,14,15,.s 16,20,21,22,23],.ptr 48 0] [(.b 0,1),(10,13),(16,19),(.b 48,.cells [26,27,28,.bool 29,30,31,32,33,.s 34,38,39,.s 40,44,45,46,47] 48),(34,37),(40,43)] [.n,.p,.p,.p,.p,.i,.i,.i,.c,.i,.i,.i,.i,.a,.n,.n,.p,.i,.i,.a,.n,.n,.p,.i,.i,.i,.i] (.map 49) [(.b 49,50),(.b 0,51),(10,52),(16,53),(.b 48,.cells [54,55,56,.bool 57,58,59,60,61,.s 62,66,67,.s 68,72,73,74,75] 48),(62,65),(68,71)]
(.read (.lookup 207 (.tmp 14) (.tmp 16) true) 206 [(14,.map 49),(16,6)] [(.b 49,50)] [.v,.c] (.au [.val 76,.bool 77])
(.br 5
(.ret (.au [.agg [.k 0,.k 0,.k 0,.bool (.c false),.k 0,.k 0,.k 0,.k 0,.z,.k 0,.k 0,.z,.k 0,.k 0,.k 0,.k 0],.bool (.c false)]) [(.b 0,51),(10,52),(16,53)])
(.br (.not 77)
(.ret (.au [.agg [.k 0,.k 0,.k 0,.bool (.c false),.k 0,.k 0,.k 0,.k 0,.z,.k 0,.k 0,.z,.k 0,.k 0,.k 0,.k 0],.bool (.c false)]) [(.b 0,51),(10,52),(16,53)])
  (.jw 76 [] [(.b 49,50),(.b 0,51),(.b 48,.cells [54,55,56,.bool 57,58,59,60,61,.s 62,66,67,.s 68,72,73,74,75] 48),(62,65),(68,71)] [.p,.i,.i,.i,.c,.i,.i,.i,.i,.a,.n,.n,.p,.i,.i,.a,.n,.n,.p,.i,.i,.i,.i] (.au []) [(.b 0,78),(.b 48,.cells [79,80,81,.bool 82,83,84,85,86,.s 87,91,92,.s 93,97,98,99,100] 48),(87,90),(93,96),(.b 49,50),(62,65),(68,71)]
(.ret (.au [.agg [79,80,81,.bool 82,83,84,85,86,.s 87,91,92,.s 93,97,98,99,100],.bool (.c true)]) [(.b 0,78),(10,52),(16,53),(87,90),(93,96)]))))))))))
theorem Cy:tree Tryz.prog {aB:=[117,99999,99999],vt:=[.b 0,.b 48]} Tryz.f81 [.ptr 0 0,.agg [2,3,4,.bool 5,6,7,8,9,.s 10,14,15,.s 16,20,21,22,23]] [(.b 0,1),(10,13),(16,19)] 24=AA:=by kernel_rfl
end RX
section
open RX
def bl8(f:Nat->Int):List Value:=[.int .i64 (f 0),.int .i64 (f 1),.int .i64 (f 2),.int .i64 (f 3),.int .i64 (f 4),.int .i64 (f 5),.int .i64 (f 6),.int .i64 (f 7)]
def Qp(e n:Int)(f:Nat->Int):List Value:=[.int .i64 e,.int .i64 n]++bl8 f
def VU(b:Nat)(e n:Int)(f:Nat->Int):HP:=HP.one b (.cells (Qp e n f).toArray 95 (0,0))
theorem NL(f:Nat->Int){k:Nat}(h:k<8)(x:Int):(bl8 f).set k (.int .i64 x)=bl8 (λj=>if j=k then x else f j):=by
 have:k=0\/k=1\/k=2\/k=3\/k=4\/k=5\/k=6\/k=7:=by omega
 rcases this with rfl|rfl|rfl|rfl|rfl|rfl|rfl|rfl<;>rfl
section
variable {b:Nat}{e n:Int}{f:Nat->Int}
theorem uP{k:Nat}{x:Int}(hk:(Qp e n f)[k]? =some (.int .i64 x)):aH Tryz.prog (bG 3 (.pointer (some ⟨b,k,none⟩))) (VU b e n f) (.int .i64 x):=by
 have:=Sq pE A7 L7 (b:=b) (k:=k) (cs:=(Qp e n f).toArray) (e:=95) (v:=.int .i64 x) hk (Q:=HP.tt)
 exact aH.aV (.of λR h H=>HP.az H) this
theorem Qq{k:Nat}(hk:k<10){x:Int}{e' n':Int}{f':Nat->Int}(sB:(Qp e n f).set k (.int .i64 x)=Qp e' n' f'):
 aI Tryz.prog (bH 3 (.pointer (some ⟨b,k,none⟩)) (.int .i64 x)) (VU b e n f) (λv=>HP.and (v=.tuple #[]) (VU b e' n' f')):=by
 obtain⟨i,hi,_,hz,_⟩:=info_parts iG
 refine(Sr (e:=95) (b:=b) (k:=k) (cs:=(Qp e n f).toArray) (cs':=(Qp e' n' f').toArray) hi hz rfl rfl (by simp[Qp,bl8];omega) (by rw[<-sB];simp) HP.tt).ak (λR h H=>HP.az H) λv R h ⟨e,H⟩=>⟨e,HP.aj H⟩
end
theorem Vi:Tryz.prog.underlying 93=some (.array 8 3):=by kernel_rfl
theorem Vj:(Tryz.prog.info? 3).isSome=true:=by kernel_rfl
section
variable (b:Nat)(e n:Int)
end
theorem Za:Tryz.prog.underlying 207=some (.map 3 1):=by kernel_rfl
def gO(bu bm br:Nat):AL Int:=[(9,Ia 172 bu bm br,0),(8,Ia 174 bu bm br,1)]
abbrev r5(bu ub:Nat):HP:=HP.one bu (.cells #[.pointer (some ⟨ub,0,none⟩)] 64)
theorem NM{mp:Nat}{l:AL Int}{c:Nat}(k:Int)(v:Value)(K:HP):aI Tryz.prog (jL 207 (.map (some mp)) (.int .i64 k) v) (HP.an (HP.one mp (aJ iE l c)) K) (λx=>HP.and (x=.tuple #[]) (HP.an (HP.one mp (aJ iE (fy k v c l) (jW k l c))) K)):=
 ((qj (r:=mp) (l:=l) (c:=c) iK Za k v).frame K).ak (λ_ _ h=>h) (λx R h ⟨h1,h2,d,l1,l2,⟨e,H⟩,HK⟩=>⟨e,h1,h2,d,l1,l2,H,HK⟩)
theorem Qr(ub:Nat)(U:HP)(m:MR)(Dm Vm:HP)(rb:Nat)(Rc:HP):
 ax Tryz.prog 121 #[.pointer (some ⟨ub,0,none⟩),.agg m.aA,.pointer (some ⟨rb,0,none⟩)] (HP.an U (HP.an Dm (HP.an Vm Rc)))
 (λv=>HP.ex λmp=>HP.ex λbu=>HP.ex λbm=>HP.ex λbr=>HP.and (v=.map (some mp)) (HP.an (HP.one mp (aJ iE (gO bu bm br) 2)) (HP.an (r5 bu ub) (HP.an U (HP.an (cU bm m) (HP.an Dm (HP.an Vm (HP.an (iP br rb) Rc)))))))):=by
 refine ah (ρ:=[.n ub,.p U,.i m.fr,.i m.to,.i m.num,.c m.bf,.i m.kind,.i m.ep,.i m.at',.i m.what,.a m.ca,.n m.cn,.n m.cc,.p Dm,.i m.br,.i m.bw,.a m.va,.n m.vn,.n m.vc,.p Vm,.i m.bM,.i m.tail,.i m.low,.i m.back,.n rb,.p Rc]) mixed Tryz.func121 Hd ?_
 unfold Hc
 refine cY ?_
 intro bu bm br mp
 let K:HP:=HP.an (r5 bu ub) (HP.an U (HP.an (cU bm m) (HP.an Dm (HP.an Vm (HP.an (iP br rb) Rc)))))
 rw[dy (by decide)]
 refine cY ?_
 refine(NM (mp:=mp) (l:=[]) (c:=0) 9 _ K).ak (λ_ _ h=>h) ?_
 rintro v R h ⟨rfl,H⟩
 refine⟨_,rfl,?_,H⟩
 clear H
 rw[dy (by decide)]
 refine cY ?_
 refine(NM 8 _ K).ak (λ_ _ h=>h) ?_
 rintro v R h ⟨rfl,H⟩
 refine⟨_,rfl,.of λR h H=>⟨mp,bu,bm,br,rfl,?_⟩,H⟩
 exact H
section
variable (ub bu bm br rb:Nat)(e n:Int)(m:MS)(ca:Option Addr)(cc:Nat)(va:Option Addr)(vc:Nat)
end
theorem aa7:(Tryz.prog.info? 1).map (λi=>(i.zero,i.size,i.bytes))=some (some .nilFunc,1,8):=by kernel_rfl
theorem aeu:tD Tryz.prog 172:=⟨_,Tryz.func172,by kernel_rfl,by kernel_rfl⟩
structure Q1 where
 e:Int
 n:Int
 f:Nat->Int
abbrev mE(b:Nat)(s:Q1):HP:=VU b s.e s.n s.f
theorem uq(b:Nat)(e n:Int)(f:Nat->Int):ax Tryz.prog 36 #[.pointer (some ⟨b,0,none⟩)] (VU b e n f) (λv=>HP.and (v=.tuple #[]) (VU b e n λ_=> -1)):=by
 refine ah (ρ:=[.n b,.p (VU b e n f)]) mixed Tryz.func36 Cv ?_
 unfold Ax
 simp only[T.den,E.prop,E.den,RX.look,F1.app,F2.app,aP.dH,aP.dP,aP.cr,aP.eQ,aP.e9,aP.fw,aP.ju,bg,dB,V.den,W.den,A.den,BR.den,SA.den,FV.den,iX,nF,nK,fj,g5.app,List.map_cons,List.map_nil,List.cons_append,List.nil_append,List.drop_succ_cons,List.drop_zero,List.length_cons,List.length_nil,Nat.zero_add,Nat.reduceAdd,Int.neg_neg,Bool.not_not,List.append_nil,Nat.add_zero,List.getElem?_cons_zero,List.getElem?_cons_succ,Decidable.not_not,cu,dg,cJ,ne_eq,Nat.reduceEqDiff,not_false_eq_true,l9]
 refine⟨λi P=>∃k:Nat,i=k/\k<=8/\P=VU b e n (λj=>if j<k then -1 else f j),λi _=>8 - i.toNat,⟨0,rfl,by decide,by simp⟩,?_⟩
 rintro _ _ ⟨k,rfl,hk,rfl⟩
 refine⟨λhlt=>⟨.pointer (some ⟨b,2+k,none⟩),vY Vi Vj L7 rfl (by omega),?_⟩,λlN=>.of λR h H=>⟨trivial,?_⟩⟩
 ·refine(Qq (b:=b) (e:=e) (n:=n) (k:=2+k) (x:= -1) (e':=e) (n':=n) (f':=λj=>if j<k+1 then -1 else f j) (by omega) (by
   unfold Qp
   rw[List.set_append_right _ _ (by simp)]
   simp only[List.length_cons,List.length_nil,Nat.zero_add,Nat.add_sub_cancel_left]
   rw[NL _ (by omega)]
   congr 2
   funext j
   by_cases e1:j=k
   ·rw[if_pos e1,if_pos (by omega)]
   ·rw[if_neg e1]
    by_cases e2:j<k
    ·rw[if_pos e2,if_pos (by omega)]
    ·rw[if_neg e2,if_neg (by omega)])).ak (λ_ _ h=>h) ?_
  rintro v R h ⟨rfl,H⟩
  exact⟨_,rfl,⟨aK _ (by omega) (by omega),λ_=>⟨⟨k+1,by omega,by omega,rfl⟩,by dsimp only;omega⟩⟩,H⟩
 ·obtain rfl:k=8:=by omega
  have e1:VU b e n (λj=>if j<8 then -1 else f j)=VU b e n λ_=> -1:=rfl
  rw[<-e1];exact H
theorem Vk:ax Tryz.prog 16 #[] HP.tt (λv=>HP.ex λb=>HP.and (v=.pointer (some ⟨b,0,none⟩)) (mE b ⟨-1,0,λ_=> -1⟩)):=by
 refine ah (ρ:=[]) mixed Tryz.func16 Qo ?_
 unfold Vh
 refine cg ?_
 intro b
 refine(uq b (-1) 0 λ_=>0).ak (λR h H=>H) ?_
 rintro v R h ⟨rfl,H⟩
 exact⟨-1,0,-1,-1,-1,-1,-1,-1,-1,-1,rfl,.of λR h H=>⟨b,rfl,H⟩,H⟩
def eZ(s:Q1)(ep at':Int):Int×Q1:=
 if ep<s.e then(8,s)else if ep<0\/at'<0\/4294967296<at' then(1,s)else if s.e<ep then(0,⟨ep,at',λ_=> -1⟩)else(0,{s with n:=max s.n at'})
def fQ(s:Q1)(ep st:Int):(Int×Int×Int)×Q1:=
 if s.e<0\/ep≠s.e then((0,0,8),s)else if st<0\/8<=st then((0,0,1),s)else if 4294967296<s.n then((0,0,2),s)
 else((s.n,s.f st.toNat,0),{s with n:=s.n+1,f:=λj=>if j=st.toNat then s.n else s.f j})
section
variable (b:Nat)(s:Q1)
theorem K8(ep at':Int):ax Tryz.prog 173 #[.pointer (some ⟨b,0,none⟩),.int .i64 ep,.int .i64 at'] (mE b s) (λv=>HP.and (v=.int .i64 (eZ s ep at').1) (mE b (eZ s ep at').2)):=by
 refine ah (ρ:=[.n b,.p (mE b s),.i ep,.i at']) mixed Tryz.func173 G9 ?_
 unfold G8
 refine cg ?_
 refine⟨s.e,uP rfl,λh1=>.of λR h H=>?_,λh1=>?_⟩
 ·rw[show eZ s ep at'=(8,s)from if_pos h1];exact⟨rfl,H⟩
 have bad:(ep<0\/at'<0\/4294967296<at')->eZ s ep at'=(1,s):=λh=>by unfold eZ;rw[if_neg h1,if_pos h]
 refine⟨λh2=>.of λR h H=>?_,λh2=>⟨λh3=>.of λR h H=>?_,λh3=>⟨λh4=>.of λR h H=>?_,λh4=>⟨s.e,uP rfl,λh5=>?_,λh5=>?_⟩⟩⟩⟩
 ·rw[bad (.inl h2)];exact⟨rfl,H⟩
 ·rw[bad (.inr (.inl h3))];exact⟨rfl,H⟩
 ·rw[bad (.inr (.inr h4))];exact⟨rfl,H⟩
 ·rw[show eZ s ep at'=(0,⟨ep,at',λ_=> -1⟩)from by unfold eZ;rw[if_neg h1,if_neg (by omega),if_pos h5]]
  exact nC (Qq (b:=b) (e:=s.e) (n:=s.n) (f:=s.f) (k:=0) (e':=ep) (n':=s.n) (f':=s.f) (by omega) rfl) (nC (Qq (b:=b) (e:=ep) (n:=s.n) (f:=s.f) (k:=1) (e':=ep) (n':=at') (f':=s.f) (by omega) rfl) (cG (uq b ep at' s.f) (.of λR h H=>⟨rfl,H⟩)))
 ·rw[show eZ s ep at'=(0,{s with n:=max s.n at'})from by unfold eZ;rw[if_neg h1,if_neg (by omega),if_neg h5]]
  exact⟨s.n,uP rfl,nC (Qq (b:=b) (e:=s.e) (n:=s.n) (f:=s.f) (k:=1) (e':=s.e) (n':=max s.n at') (f':=s.f) (by omega) rfl) (.of λR h H=>⟨rfl,H⟩)⟩
theorem K9(ep st:Int)(hn:0<=s.n):ax Tryz.prog 175 #[.pointer (some ⟨b,0,none⟩),.int .i64 ep,.int .i64 st] (mE b s) (λv=>HP.and (v=.tuple #[.int .i64 (fQ s ep st).1.1,.int .i64 (fQ s ep st).1.2.1,.int .i64 (fQ s ep st).1.2.2]) (mE b (fQ s ep st).2)):=by
 refine ah (ρ:=[.n b,.p (mE b s),.i ep,.i st]) mixed Tryz.func175 Hb ?_
 unfold Ha
 simp only[T.den,E.prop,E.den,RX.look,F1.app,F2.app,aP.dH,aP.dP,aP.cr,aP.eQ,aP.e9,aP.fw,aP.ju,bg,dB,V.den,W.den,A.den,BR.den,SA.den,FV.den,iX,nF,nK,fj,g5.app,List.map_cons,List.map_nil,List.cons_append,List.nil_append,List.drop_succ_cons,List.drop_zero,List.length_cons,List.length_nil,Nat.zero_add,Nat.reduceAdd,Int.neg_neg,Bool.not_not,List.append_nil,Nat.add_zero,List.getElem?_cons_zero,List.getElem?_cons_succ,Decidable.not_not,cu,dg,cJ,ne_eq,Nat.reduceEqDiff,not_false_eq_true,l9]
 have un:∀ {x y},fQ s ep st=(x,y)->∀ {R h},(mE b y).p R h->(HP.and (Value.tuple #[.int .i64 x.1,.int .i64 x.2.1,.int .i64 x.2.2]=.tuple #[.int .i64 (fQ s ep st).1.1,.int .i64 (fQ s ep st).1.2.1,.int .i64 (fQ s ep st).1.2.2]) (mE b (fQ s ep st).2)).p R h:=λe R h H=>by rw[e];exact⟨rfl,H⟩
 refine⟨s.e,uP rfl,λh1=>.of λR h H=>un (if_pos (.inl h1)) H,λh1=>⟨s.e,uP rfl,λh2=>.of λR h H=>un (if_pos (.inr h2)) H,λh2=>?_⟩⟩
 have n1:¬(s.e<0\/ep≠s.e):=λh=>h.elim h1 (λh=>h h2)
 refine⟨λh3=>.of λR h H=>un ((if_neg n1).trans (if_pos (.inl h3))) H,λh3=>⟨λh4=>.of λR h H=>un ((if_neg n1).trans (if_pos (.inr h4))) H,λh4=>?_⟩⟩
 have n2:¬(st<0\/8<=st):=λh=>h.elim h3 h4
 refine⟨s.n,uP rfl,λh5=>.of λR h H=>un (((if_neg n1).trans (if_neg n2)).trans (if_pos h5)) H,λh5=>?_⟩
 obtain⟨k,rfl⟩:∃k:Nat,st=k:=⟨st.toNat,by omega⟩
 have hk:k<8:=by omega
 have hg:(Qp s.e s.n s.f)[2+k]? =some (.int .i64 (s.f k)):=by
  have:k=0\/k=1\/k=2\/k=3\/k=4\/k=5\/k=6\/k=7:=by omega
  rcases this with rfl|rfl|rfl|rfl|rfl|rfl|rfl|rfl<;>rfl
 have sB:(Qp s.e s.n s.f).set (2+k) (.int .i64 s.n)=Qp s.e s.n (λj=>if j=k then s.n else s.f j):=by
  unfold Qp
  rw[List.set_append_right _ _ (by simp)]
  simp only[List.length_cons,List.length_nil,Nat.zero_add,Nat.add_sub_cancel_left]
  rw[NL _ hk]
 refine⟨s.n,uP rfl,.pointer (some ⟨b,2+k,none⟩),vY Vi Vj L7 rfl hk,s.f k,uP hg,.pointer (some ⟨b,2+k,none⟩),vY Vi Vj L7 rfl hk,nC (Qq (by omega) sB) ⟨s.n,uP rfl,aK _ (by omega) (by omega),λ_=>nC (Qq (b:=b) (e:=s.e) (n:=s.n) (k:=1) (e':=s.e) (n':=s.n+1) (by omega) rfl) (.of λR h H=>un (((if_neg n1).trans (if_neg n2)).trans (if_neg h5)) H)⟩⟩
end
def gy(s:Q1)(m:MS):Option MS×Q1:=
 if m.bf=true then(none,s)else if m.kind=9 then(some {dL m with bM:=(eZ s m.ep m.at').1,tail:=if(eZ s m.ep m.at').1=0 then(eZ s m.ep m.at').2.n else 0,back:=(eZ s m.ep m.at').2.e},(eZ s m.ep m.at').2)
 else if m.kind=8 then(some {dL m with bM:=(fQ s m.ep m.at').1.2.2,tail:=(fQ s m.ep m.at').1.1,back:=(fQ s m.ep m.at').1.2.1},(fQ s m.ep m.at').2)else(none,s)
section
variable (ub bu bm br rb:Nat)(s:Q1)(m:MS)(ca:Option Addr)(cc:Nat)(va:Option Addr)(vc:Nat)
abbrev Qs(U:HP)(r:MS):HP:=HP.an (r5 bu ub) (HP.an U (HP.an (cU bm (m.cF ca cc va vc)) (HP.an (m.bB ca) (HP.an (m.bj va) (HP.an (iP br rb) (HP.an (cU rb (r.cF none 0 none 0)) (HP.an (r.bB none) (r.bj none))))))))
theorem La(hk:m.kind=9)(hr:m.bf=false):ax Tryz.prog 172 #[.pointer (some ⟨bu,0,none⟩),.pointer (some ⟨bm,0,none⟩),.pointer (some ⟨br,0,none⟩)] (Qs ub bu bm br rb m ca cc va vc (mE ub s) (dL m))
 (λv=>HP.and (v=.tuple #[]) (Qs ub bu bm br rb m ca cc va vc (mE ub (gy s m).2) ((gy s m).1.getD mC))):=by
 have e:gy s m=(some {dL m with bM:=(eZ s m.ep m.at').1,tail:=if(eZ s m.ep m.at').1=0 then(eZ s m.ep m.at').2.n else 0,back:=(eZ s m.ep m.at').2.e},(eZ s m.ep m.at').2):=by unfold gy;rw[if_neg (by rw[hr];decide),if_pos hk]
 rw[e]
 refine ah (ρ:=[.n bu,.n ub,.p (mE ub s),.n bm,.i m.fr,.i m.to,.i m.num,.c m.bf,.i m.kind,.i m.ep,.i m.at',.i m.cell.what,.a ca,.n m.cell.data.length,.n cc,.p (m.bB ca),.i m.br,.i m.bw,.a va,.n m.val.length,.n vc,.p (m.bj va),.i m.bM,.i m.tail,.i m.low,.i m.back,.n br,.n rb,
  .i m.to,.i m.fr,.i m.num,.c true,.i m.kind,.i m.ep,.i m.at',.i 0,.a none,.n 0,.n 0,.p ((dL m).bB none),.i 0,.i 0,.a none,.n 0,.n 0,.p ((dL m).bj none),.i 0,.i 0,.i 0,.i 0]) mixed Tryz.func172 Cw ?_
 unfold Ay
 refine cY ?_
 refine(K8 ub s m.ep m.at').ak (λ_ _ h=>h) ?_
 rintro v R h ⟨rfl,H⟩
 refine⟨_,mE ub (eZ s m.ep m.at').2,rfl,⟨λh0=>⟨_,uP rfl,_,uP rfl,.of λR h H=>⟨trivial,?_⟩⟩,λh0=>⟨_,uP rfl,.of λR h H=>⟨trivial,?_⟩⟩⟩,H⟩
 ·simp only[if_pos h0];exact H
 ·simp only[if_neg h0];exact H
theorem Lb(hk:m.kind=8)(hr:m.bf=false)(hn:0<=s.n):ax Tryz.prog 174 #[.pointer (some ⟨bu,0,none⟩),.pointer (some ⟨bm,0,none⟩),.pointer (some ⟨br,0,none⟩)] (Qs ub bu bm br rb m ca cc va vc (mE ub s) (dL m))
 (λv=>HP.and (v=.tuple #[]) (Qs ub bu bm br rb m ca cc va vc (mE ub (gy s m).2) ((gy s m).1.getD mC))):=by
 have e:gy s m=(some {dL m with bM:=(fQ s m.ep m.at').1.2.2,tail:=(fQ s m.ep m.at').1.1,back:=(fQ s m.ep m.at').1.2.1},(fQ s m.ep m.at').2):=by unfold gy;rw[if_neg (by rw[hr];decide),if_neg (by omega),if_pos hk]
 rw[e]
 refine ah (ρ:=[.n bu,.n ub,.p (mE ub s),.n bm,.i m.fr,.i m.to,.i m.num,.c m.bf,.i m.kind,.i m.ep,.i m.at',.i m.cell.what,.a ca,.n m.cell.data.length,.n cc,.p (m.bB ca),.i m.br,.i m.bw,.a va,.n m.val.length,.n vc,.p (m.bj va),.i m.bM,.i m.tail,.i m.low,.i m.back,.n br,.n rb,
  .i m.to,.i m.fr,.i m.num,.c true,.i m.kind,.i m.ep,.i m.at',.i 0,.a none,.n 0,.n 0,.p ((dL m).bB none),.i 0,.i 0,.a none,.n 0,.n 0,.p ((dL m).bj none),.i 0,.i 0,.i 0,.i 0]) mixed Tryz.func174 Cx ?_
 unfold Az
 refine cY ?_
 refine(K9 ub s m.ep m.at' hn).ak (λ_ _ h=>h) ?_
 rintro v R h ⟨rfl,H⟩
 exact⟨_,_,_,mE ub (fQ s m.ep m.at').2,rfl,.of λR h H=>⟨trivial,H⟩,H⟩
end
theorem aev:tD Tryz.prog 174:=⟨_,Tryz.func174,by kernel_rfl,by kernel_rfl⟩
set_option maxHeartbeats 1000000 in
theorem He(ub:Nat)(s:Q1)(m:MS)(ca:Option Addr)(cc:Nat)(va:Option Addr)(vc:Nat)(hr:m.bf=false)(g:FuncId)(fgo:tD Tryz.prog g)(hk:∀bu bm br,aG m.kind (gO bu bm br)=some (Ia g bu bm br))(sf:((gy s m).1.getD mC).cell.data=[]/\((gy s m).1.getD mC).val=[])
 (hg:∀bu bm br rb,ax Tryz.prog g #[.pointer (some ⟨bu,0,none⟩),.pointer (some ⟨bm,0,none⟩),.pointer (some ⟨br,0,none⟩)] (Qs ub bu bm br rb m ca cc va vc (mE ub s) (dL m)) (λv=>HP.and (v=.tuple #[]) (Qs ub bu bm br rb m ca cc va vc (mE ub (gy s m).2) ((gy s m).1.getD mC)))):
 ax Tryz.prog 81 #[.pointer (some ⟨ub,0,none⟩),.agg (m.cF ca cc va vc).aA] (HP.an (mE ub s) (HP.an (m.bB ca) (m.bj va)))
 (λv=>HP.and (v=.tuple #[.agg (((gy s m).1.getD mC).cF none 0 none 0).aA,.bool true]) (HP.an (mE ub (gy s m).2) (HP.an (m.bB ca) (m.bj va)))):=by
 refine ah (ρ:=[.n ub,.p (mE ub s),.i m.fr,.i m.to,.i m.num,.c m.bf,.i m.kind,.i m.ep,.i m.at',.i m.cell.what,.a ca,.n m.cell.data.length,.n cc,.p (m.bB ca),.i m.br,.i m.bw,.a va,.n m.val.length,.n vc,.p (m.bj va),.i m.bM,.i m.tail,.i m.low,.i m.back]) mixed Tryz.func81 Cy ?_
 unfold AA
 refine cY ?_
 intro x y
 refine(F4 (m.cF ca cc va vc) 0 (m.bB ca) (m.bj va)).ak (λ_ _ h=>h) ?_
 rintro v R h ⟨rfl,H⟩
 refine⟨m.to,m.fr,m.num,true,m.kind,m.ep,m.at',0,none,0,0,HP.tt,0,0,none,0,0,HP.tt,0,0,0,0,rfl,λrb=>?_,HP.aM (HP.aM H)⟩
 clear H
 refine(Qr ub (mE ub s) (m.cF ca cc va vc) (m.bB ca) (m.bj va) rb _).ak (λ_ _ h=>h) ?_
 rintro v R h ⟨mp,bu,bm,br,rfl,H⟩
 have hD:=HP.aj (HP.ai (HP.ai (HP.ai (HP.ai H))))
 have hV:=HP.aj (HP.ai (HP.ai (HP.ai (HP.ai (HP.ai H)))))
 let P0:HP:=aX [HP.one mp (aJ iE (gO bu bm br) 2),r5 bu ub,cU bm (m.cF ca cc va vc),m.bB ca,m.bj va,iP br rb]
 have hP0:∀y,(aX [HP.one mp (aJ iE (gO bu bm br) 2),r5 bu ub,cU bm (m.cF ca cc va vc),iP br rb]).p R y->P0.p R y:=λy hy=>
  HP.pick [m.bB ca,m.bj va,HP.one mp (aJ iE (gO bu bm br) 2),r5 bu ub,cU bm (m.cF ca cc va vc),iP br rb] [2,3,4,0,1,5] (by decide) rfl (bb.join hD (bb.join hV hy))
 have H2:=HP.pick [HP.one mp (aJ iE (gO bu bm br) 2),r5 bu ub,mE ub s,cU bm (m.cF ca cc va vc),m.bB ca,m.bj va,iP br rb,cU rb (w8 (m.cF ca cc va vc) 0),HP.tt,HP.tt] [0,1,3,6,2,4,5,7,8,9] (by decide) rfl H
 have H3:=HP.ae (eB (l:=[HP.one mp (aJ iE (gO bu bm br) 2),r5 bu ub,cU bm (m.cF ca cc va vc),iP br rb]) (m:=[mE ub s,m.bB ca,m.bj va,cU rb (w8 (m.cF ca cc va vc) 0),HP.tt,HP.tt]).1 H2) hP0 λ_ h=>h
 refine⟨mp,P0,mE ub s,m.bB ca,m.bj va,m.to,m.fr,m.num,true,m.kind,m.ep,m.at',0,none,0,0,HP.tt,0,0,none,0,0,HP.tt,0,0,0,0,rfl,?_,H3⟩
 clear H H2 H3 hP0 hD hV
 obtain⟨i,hi,z1,_⟩:=info_parts aa7
 have fR:=gX (r:=mp) (l:=gO bu bm br) (c:=2) iK Za hi z1 m.kind true (A:=P0) (λR h H=>HP.aj H)
 rw[if_pos rfl,show aG m.kind (gO bu bm br)=some (Ia g bu bm br)from by exact hk _ _ _]at fR
 simp only[Option.getD_some,Option.isSome_some]at fR
 refine⟨Ia g bu bm br,true,fR,λh=>(by rw[hr]at h;cases h),λ_=>⟨λh=>absurd rfl h,λ_=>?_⟩⟩
 have hv:iu Tryz.prog (Ia g bu bm br) #[] _ _:=.inl ⟨_,_,rfl,fgo,hg bu bm br rb⟩
 refine hv.be (K:=HP.one mp (aJ iE (gO bu bm br) 2)) (.of λR h H=>?_) λv=>.of λR h H=>?_
 ·have H1:=(eB (l:=[HP.one mp (aJ iE (gO bu bm br) 2),r5 bu ub,cU bm (m.cF ca cc va vc),m.bB ca,m.bj va,iP br rb]) (m:=[mE ub s,cU rb (w8 (m.cF ca cc va vc) 0),HP.tt,HP.tt])).2 H
  have H2:=bb.join (bb.nil 1 none R h:((dL m).bB none).p R h) (bb.join (bb.nil 1 none R h:((dL m).bj none).p R h) H1)
  have H3:=HP.pick [(dL m).bB none,(dL m).bj none,HP.one mp (aJ iE (gO bu bm br) 2),r5 bu ub,cU bm (m.cF ca cc va vc),m.bB ca,m.bj va,iP br rb,mE ub s,cU rb (w8 (m.cF ca cc va vc) 0),HP.tt,HP.tt] [3,8,4,5,6,7,9,0,1,2] (by decide) rfl H2
  exact(eB (l:=[r5 bu ub,mE ub s,cU bm (m.cF ca cc va vc),m.bB ca,m.bj va,iP br rb,cU rb (w8 (m.cF ca cc va vc) 0),(dL m).bB none,(dL m).bj none]) (m:=[HP.one mp (aJ iE (gO bu bm br) 2)])).1 H3
 ·obtain⟨h1,h2,dj,l1,l2,⟨rfl,HP1⟩,HM⟩:=H
  generalize hx:(gy s m).2=x at HP1
  generalize hs:(gy s m).1.getD mC=r' at HP1 sf
  have hd:=sf
  have H1:=(eB (l:=[r5 bu ub,mE ub x,cU bm (m.cF ca cc va vc),m.bB ca,m.bj va,iP br rb,cU rb (r'.cF none 0 none 0),r'.bB none,r'.bj none]) (m:=[HP.one mp (aJ iE (gO bu bm br) 2)])).2 ⟨h1,h2,dj,l1,l2,HP1,HM⟩
  have H2:=HP.pick [r5 bu ub,mE ub x,cU bm (m.cF ca cc va vc),m.bB ca,m.bj va,iP br rb,cU rb (r'.cF none 0 none 0),r'.bB none,r'.bj none,HP.one mp (aJ iE (gO bu bm br) 2)] [1,6,7,8,9,0,2,3,4,5] (by decide) rfl H1
  have H3:=(eB (l:=[mE ub x,cU rb (r'.cF none 0 none 0),r'.bB none,r'.bj none]) (m:=[P0,HP.tt,HP.tt])).2 (HP.ae ((eB (l:=[mE ub x,cU rb (r'.cF none 0 none 0),r'.bB none,r'.bj none]) (m:=[HP.one mp (aJ iE (gO bu bm br) 2),r5 bu ub,cU bm (m.cF ca cc va vc),m.bB ca,m.bj va,iP br rb])).1 H2) (λ_ h=>h) λ_ h=>HP.az (HP.ao (HP.aM h)|>HP.aj)|>λh=>HP.ae h (λ_ h=>h) λ_ _=>HP.az trivial)
  refine⟨mE ub x,r'.fr,r'.to,r'.num,r'.bf,r'.kind,r'.ep,r'.at',r'.cell.what,none,r'.cell.data.length,0,r'.bB none,r'.br,r'.bw,none,r'.val.length,0,r'.bj none,r'.bM,r'.tail,r'.low,r'.back,rfl,.of λR h H=>⟨rfl,?_⟩,H3⟩
  exact HP.ae H (λ_ h=>h) λy H=>HP.ae H (λ_ h=>h) λz H=>HP.aj H
theorem Vl(ub:Nat)(s:Q1)(m:MS)(ca:Option Addr)(cc:Nat)(va:Option Addr)(vc:Nat)(hr:m.bf=false)(hk:m.kind=8\/m.kind=9)(hn:0<=s.n):
 ax Tryz.prog 81 #[.pointer (some ⟨ub,0,none⟩),.agg (m.cF ca cc va vc).aA] (HP.an (mE ub s) (HP.an (m.bB ca) (m.bj va)))
 (λv=>HP.and (v=.tuple #[.agg (((gy s m).1.getD mC).cF none 0 none 0).aA,.bool true]) (HP.an (mE ub (gy s m).2) (HP.an (m.bB ca) (m.bj va)))):=by
 have hd:((gy s m).1.getD mC).cell.data=[]/\((gy s m).1.getD mC).val=[]:=by
  unfold gy
  rw[if_neg (by rw[hr];decide)]
  split
  ·exact⟨rfl,rfl⟩
  ·split<;>exact⟨rfl,rfl⟩
 rcases hk with hk|hk
 ·exact He ub s m ca cc va vc hr _ aev (λ_ _ _=>by rw[hk];rfl) hd λbu bm br rb=>Lb ub bu bm br rb s m ca cc va vc hk hr hn
 ·exact He ub s m ca cc va vc hr _ aeu (λ_ _ _=>by rw[hk];rfl) hd λbu bm br rb=>La ub bu bm br rb s m ca cc va vc hk hr
def Hf(L:List (Int×BA)):List qp:=L.filterMap λz=>cK L 0 z.1
theorem Qt{L:List (Int×BA)}{y:qp}:y∈Hf L↔∃k,cK L 0 k=some y:=by
 unfold Hf
 rw[List.mem_filterMap]
 refine⟨λ⟨z,_,h⟩=>⟨z.1,h⟩,λ⟨k,h⟩=>?_⟩
 have:k∈L.map (·.1):=Classical.byContradiction λhn=>by rw[j9.2 hn]at h;cases h
 obtain⟨z,hz,rfl⟩:=List.mem_map.1 this
 exact⟨z,hz,h⟩
def Hg(x:qp):Bool:=x.ok&& !(decide (x.r=0)&&decide (x.w=0))
def AB(x y:qp):Bool:=decide (x.r<y.r)||(decide (x.r=y.r)&&decide (x.w<y.w))
theorem Qu{x:qp}:Hg x=true↔kZ x:=by
 unfold Hg kZ
 simp only[Bool.and_eq_true,Bool.not_eq_true',Bool.and_eq_false_iff,decide_eq_false_iff_not,not_and]
 refine and_congr_right λ_=>⟨λh h1=>h.resolve_left λh2=>h2 h1,λh=>?_⟩
 by_cases h1:x.r=0
 ·exact .inr (h h1)
 ·exact .inl h1
theorem Qv{x y:qp}:AB x y=true↔nv x y:=by
 unfold AB nv
 simp only[Bool.or_eq_true,Bool.and_eq_true,decide_eq_true_eq]
def aa8(L:List (Int×BA))(v0:List UInt8):Option (List UInt8):=
 match(Hf L).filter Hg with
 |[]=>some v0
 |x::l=>match(x::l).filter λy=>(x::l).all λz=> !AB y z with
  |[]=>none
  |b::bs=>if bs.all (λy=>decide (y.val=b.val))=true then some b.val else none
theorem XM{L:List (Int×BA)}{v0 v v':List UInt8}(h:aa8 L v0=some v)(hc:n7 (cK L 0) v0 v'):v'=v:=by
 have hm:∀y,y∈(Hf L).filter Hg↔(∃k,cK L 0 k=some y)/\kZ y:=λy=>by rw[List.mem_filter,Qt,Qu]
 unfold aa8 at h
 generalize (Hf L).filter Hg=C at h hm
 rcases hc with⟨hno,rfl⟩|⟨k,x,hk,hx,rfl,Ja⟩
 ·cases C with
  |nil=>exact Option.some.inj h
  |cons y l=>
   obtain⟨⟨k,hk⟩,hy⟩:=(hm y).1 (by simp)
   exact absurd hy (hno k y hk)
 ·have hxC:=(hm x).2 ⟨⟨k,hk⟩,hx⟩
  cases C with
  |nil=>cases hxC
  |cons y l=>
   dsimp only at h
   have hb:x∈(y::l).filter λz=>(y::l).all λu=> !AB z u:=List.mem_filter.2 ⟨hxC,List.all_eq_true.2 λz hz=>by
    obtain⟨⟨k',A5⟩,hz'⟩:=(hm z).1 hz
    have:=Ja k' z A5 hz'
    cases hq:AB x z with
    |false=>rfl
    |true=>exact absurd (Qv.1 hq) this⟩
   generalize (y::l).filter (λz=>(y::l).all λu=> !AB z u)=B at h hb
   cases B with
   |nil=>cases hb
   |cons b bs=>
    dsimp only at h
    split at h
    ·rename_i ha
     obtain rfl:=Option.some.inj h
     rcases List.mem_cons.1 hb with rfl|hb
     ·rfl
     ·exact of_decide_eq_true (List.all_eq_true.1 ha x hb)
    ·cases h
def Vn(g:j8)(f r w:Int)(l:List UInt8)(e:Int):Option j8:=
 if g.bX=1/\jf g f=true then
  (if(cB g f (mg r w l e)).2=true then(aa8 (cB g f (mg r w l e)).1.aQ g.val).map λval=>{(cB g f (mg r w l e)).1 with val:=val,bX:=2,aQ:=[],cj:=0}else some (cB g f (mg r w l e)).1)
 else some g
theorem Vo{g g1 g':j8}{f r w:Int}{l:List UInt8}{e:Int}(h:Vn g f r w l e=some g1)(hp:nw g f r w l e g'):g'=g1:=by
 unfold Vn at h
 unfold nw at hp
 split at h
 ·rename_i hc
  rw[if_pos hc]at hp
  split at h
  ·rename_i ht
   rw[if_pos ht]at hp
   obtain⟨val,hv,rfl⟩:=hp
   obtain⟨v,hv2,rfl⟩:=Option.map_eq_some_iff.1 h
   rw[XM hv2 hv]
  ·rename_i ht
   rw[if_neg ht]at hp
   rw[hp];exact Option.some.inj h
 ·rename_i hc
  rw[if_neg hc]at hp
  rw[hp];exact Option.some.inj h
def Lc(g:bY)(m:MS):Option bY:=
 if m.bf=true/\Ky g m=true then
  (if g.st=1 then some (ui g m.fr.toNat m.bM)
  else if g.st=2 then(match g.prop with
   |none=>none
   |some s=>(if m.kind=6 then Vn s m.fr m.br m.bw m.val m.bM else some (Eu s m.fr m.bM)).map (rH g))
  else if g.st=3 then some (oB g m m.fr.toNat)
  else if g.st=4 then some {g with st:=if m.bM=0\/m.bM=8 then 5 else 6}
  else some g)
 else some g
theorem NN{g g1 g':bY}{m:MS}(h:Lc g m=some g1)(ht:mr g m g'):g'=g1:=by
 unfold Lc at h
 unfold mr at ht
 by_cases hc:m.bf=true/\Ky g m=true
 ·rw[if_pos hc]at h ht
  obtain⟨t1,t2,t3,t4,t5⟩:=ht
  by_cases h1:g.st=1
  ·rw[if_pos h1]at h;rw[t1 h1];exact Option.some.inj h
  rw[if_neg h1]at h
  by_cases h2:g.st=2
  ·rw[if_pos h2]at h
   obtain⟨s,s',hp,hs,rfl⟩:=t2 h2
   rw[hp]at h
   dsimp only at h
   obtain⟨s1,hs1,rfl⟩:=Option.map_eq_some_iff.1 h
   unfold pS at hs
   by_cases hk:m.kind=6
   ·rw[if_pos hk]at hs hs1;rw[Vo hs1 hs]
   ·rw[if_neg hk]at hs hs1;rw[hs,Option.some.inj hs1]
  rw[if_neg h2]at h
  by_cases h3:g.st=3
  ·rw[if_pos h3]at h;rw[t3 h3];exact Option.some.inj h
  rw[if_neg h3]at h
  by_cases h4:g.st=4
  ·rw[if_pos h4]at h;rw[t4 h4];exact Option.some.inj h
  rw[if_neg h4]at h
  rw[t5 h1 h2 h3 h4];exact Option.some.inj h
 ·rw[if_neg hc]at h ht
  rw[ht];exact Option.some.inj h
section
variable {b:Nat}{t:TS}
set_option maxHeartbeats 2000000 in
theorem XN{B:Nat}(wf:qw B t.cS)(c:uf)(S:HP)(d:List UInt8)(hk:c.kind=1):ax Tryz.prog 327 #[.pointer (some ⟨b,0,none⟩),c.val] (HP.an (b8 b t) S) (wS b (W5 t.cS c.kind c.path c.bh c.off c.n d) S):=by
 refine ah (ρ:=[.n b,.p (b8 b t),.i c.kind,.s c.path,.s c.bh,.i c.off,.i c.n,.a c.da,.n c.dl,.n c.dc,.p S]) mixed Tryz.func327 Tv ?_
 unfold YO
 refine cg ?_
 obtain⟨r,hr⟩:∃q,W5 t.cS c.kind c.path c.bh c.off c.n d=q:=⟨_,rfl⟩
 rw[hr]
 unfold W5 at hr
 intro x0 x00
 refine⟨λk=>?_,λk1=>absurd hk k1⟩
 rw[if_pos (.inl k)]at hr
 exact adP (TU wf c S) hr
end
section
variable {b:Nat}{s:Af}
theorem aew{B:Nat}{tb:Nat}{t:TS}(wf:qw B t.cS)(c:uf)(S:HP)(d:List UInt8)(hk:c.kind=1):ax Tryz.prog 327 #[.pointer (some ⟨tb,0,none⟩),c.val] (HP.an (b8 tb t) S)
 (λv=>HP.ex λt':TS=>HP.and (t'.cS=(nH t.cS c d).1) (HP.ex λda:Option Addr=>HP.ex λdc:Nat=>HP.ex λna:Option Addr=>HP.ex λnc:Nat=>HP.and (v=oJ (nH t.cS c d).2 da dc na nc) (HP.an (aO da (nH t.cS c d).2.data.length (nH t.cS c d).2.data) (HP.an (tY na (nH t.cS c d).2.aL.length (nH t.cS c d).2.aL) (HP.an (b8 tb t') S))))):=by
 refine(XN wf c S d hk).post λv=>λR h dd ⟨t',ht,da,dc,na,nc,e,H⟩=>?_
 obtain⟨R1,h1,q1,q2,q3,q4,H1⟩:=((cp.ez 5 1 da _ dc ((nH t.cS c d).2.data.map fH)).gZ ((cp.ez 9 1 na _ nc ((nH t.cS c d).2.aL.map sE)).gZ (HP.aV.refl (HP.an (b8 tb t') S)))) R h dd H
 exact⟨R1,h1,q1,q2,q3,q4,t',ht,da,dc,na,nc,e,H1⟩
set_option maxHeartbeats 1000000 in
theorem Vp{B:Nat}(wf:qw B s.t.cS)(k:lj)(c:uf)(S:HP)(d:List UInt8)(hk:c.kind=1):
 ax Tryz.prog 309 #[.pointer (some ⟨b,0,none⟩),uJ k,c.val] (Ib b s S) (λv=>HP.ex λs':Af=>HP.and (v=.tuple #[]/\s'.t.cS=(nH s.t.cS c d).1/\s'={s with t:=s'.t,f:=uk s.f k (nH s.t.cS c d).2}) (Ib b s' S)):=by
 refine ax.rpM (K:=S) (b:=b) (s:=s) λl cl=>?_
 refine ax.bV (φ:=UW s.f l k) (λR h H=>Nz k (VR.map H)) λhA=>?_
 refine ah (ρ:=[.n b,.i s.nx,.n s.tb,.p (b8 s.tb s.t),.n s.am,.p (aC pu uJ s.am s.f l cl),.i s.up,.i s.at',.i s.la,.a none,.n 0,.n 0,.p HP.tt,.i k.1,.i k.2.1,.i k.2.2,.i c.kind,.s c.path,.s c.bh,.i c.off,.i c.n,.a c.da,.n c.dl,.n c.dc,.p S]) mixed Tryz.func309 P6 ?_
 unfold UR
 refine cg ?_
 intro _ _
 refine⟨λm e kd sz lk da dl dc na nl nc P38 P39 P40=>∃t':TS,t'.cS=(nH s.t.cS c d).1/\e=(nH s.t.cS c d).2.bM/\kd=(nH s.t.cS c d).2.kind/\sz=(nH s.t.cS c d).2.size/\lk=(nH s.t.cS c d).2.d9/\dl=(nH s.t.cS c d).2.data.length/\nl=(nH s.t.cS c d).2.aL.length/\P38=aO da (nH s.t.cS c d).2.data.length (nH s.t.cS c d).2.data/\P39=tY na (nH s.t.cS c d).2.aL.length (nH s.t.cS c d).2.aL/\P40=b8 s.tb t',⟨?_,?_⟩,?_⟩
 ·refine(aew wf c S d hk).ak (λ_ _ h=>h) ?_
  rintro v R h ⟨t',ht,da,dc,na,nc,rfl,H⟩
  refine⟨_,_,_,_,da,_,dc,_,na,_,nc,_,_,rfl,λm=>⟨t',ht,rfl,rfl,rfl,rfl,rfl,rfl,rfl,rfl,rfl⟩,H⟩
 ·intro m
  refine(aew wf c S d hk).ak (λ_ _ h=>h) ?_
  rintro v R h ⟨t',ht,da,dc,na,nc,rfl,H⟩
  refine⟨_,_,_,_,da,_,dc,_,na,_,nc,_,_,rfl,⟨t',ht,rfl,rfl,rfl,rfl,rfl,rfl,rfl,rfl,rfl⟩,H⟩
 rintro m _ _ _ _ da _ dc na _ nc _ _ _ ⟨t',ht,rfl,rfl,rfl,rfl,rfl,rfl,rfl,rfl,rfl⟩
 have aex:(nH s.t.cS c d).2.data.length<=512/\(nH s.t.cS c d).2.aL.length<=0:=by
  unfold nH W5
  rw[if_pos (.inl hk)]
  exact⟨Nat.zero_le _,Nat.zero_le _⟩
 have np:=Y4 (m:=s.am) (f:=s.f) (l:=l) (c:=cl) k
 rcases hA with⟨hf,ha⟩|⟨x,iQ,kI,na',nc',hf,ha,Df,hn⟩
 ·rw[ha]at np
  refine⟨0,0,0,0,none,0,0,none,0,0,false,np,λ_=>⟨λ_=>?_,λh=>(by cases h)⟩⟩
  refine(aC.put idK Y2 pu.gf k (oJ (nH s.t.cS c d).2 da dc na nc) (nH s.t.cS c d).2 (A:=HP.an (aO da (nH s.t.cS c d).2.data.length (nH s.t.cS c d).2.data) (tY na (nH s.t.cS c d).2.aL.length (nH s.t.cS c d).2.aL)) λR h H=>⟨da,dc,na,nc,⟨rfl,?_,?_⟩,HP.aj H,HP.ai H⟩).ak (λ_ _ h=>h) ?_
  ·have:(nH s.t.cS c d).2.data.length<=512:=aex.1
   omega
  ·have:(nH s.t.cS c d).2.aL.length<=0:=aex.2
   omega
  rintro v R h ⟨rfl,H⟩
  refine⟨_,rfl,.of λR h H=>⟨{s with t:=t',f:=uk s.f k (nH s.t.cS c d).2},⟨trivial,ht,rfl⟩,?_⟩,H⟩
  have e:uk s.f k (nH s.t.cS c d).2=gU s.f k (some (nH s.t.cS c d).2):=by unfold uk;rw[hf]
  rw[e]
  exact H
 ·rw[ha]at np
  refine⟨x.bM,x.kind,x.size,x.d9,iQ,x.data.length,kI,na',x.aL.length,nc',true,np,λ_=>⟨λh=>absurd rfl h,λ_=>.of λR h H=>⟨{s with t:=t',f:=uk s.f k (nH s.t.cS c d).2},⟨trivial,ht,rfl⟩,?_⟩⟩⟩
  have e:uk s.f k (nH s.t.cS c d).2=s.f:=by unfold uk;rw[hf]
  rw[e]
  exact HP.ae H (λ_ h=>h) λx hx=>HP.ae hx (λ_ h=>h) λy hy=>HP.ae hy (λ_ h=>⟨l,cl,h⟩) λ_ h=>h
set_option maxHeartbeats 1000000 in
theorem xD{B:Nat}(wf:qw B s.t.cS)(at':Int)(x:yv)(a:Option Addr)(c:Nat)(S:HP)(hr:bR S a x.pl.length (x.pl.map fH))(hc:x.pl.length<=c)(ha:x.pl.length≠0->a.isSome=true)(hb:x.pl.length<=1000000)(hk:∀q,lg x.pl=some q->q.kind=1):
 ax Tryz.prog 272 #[.pointer (some ⟨b,0,none⟩),.int .i64 at',x.val a c] (Ib b s S) (KN b (match lg x.pl with|none=>s.cS|some q=>NA s.cS (x.cl,x.bi,x.nu) q) S):=by
 refine ah (ρ:=[.n b,.i s.nx,.n s.tb,.p (b8 s.tb s.t),.n s.am,.p (oL s.am s.f),.i s.up,.i s.at',.i s.la,.a none,.n 0,.n 0,.p HP.tt,.i at',.i x.kind,.i x.cl,.i x.bi,.i x.nu,.i x.st,.i x.bk,.a a,.n x.pl.length,.n c,.p S]) mixed Tryz.func272 uL ?_
 unfold rS
 refine cg ?_
 intro _
 refine(xg a x.pl.length c x.pl S hr rfl hc ha (by omega)).ak (λ_ _ h=>h) ?_
 intro v R h H
 unfold mw at H
 cases hq:lg x.pl with
 |none=>
  rw[hq]at H
  obtain⟨rfl,H⟩:=H
  refine⟨0,[],[],0,0,none,0,0,HP.tt,3,rfl,λ_=>⟨λ_=>.of λR h H=>⟨s,⟨rfl,rfl⟩,H⟩,λh=>absurd h (by decide)⟩,HP.aM H⟩
 |some q=>
  rw[hq]at H
  obtain⟨da,dc,rfl,H⟩:=H
  have hda:q.data.length≠0->da.isSome=true:=λhn=>cp.some (HP.aj H) (by omega)
  refine⟨q.kind,q.path,q.bh,q.off,q.n,da,q.data.length,dc,du da q.data.length dc q.data,0,rfl,λ_=>⟨λh=>absurd rfl h,λ_=>?_⟩,H⟩
  clear H
  refine Ag.ak (λ_ _ h=>h) ?_
  rintro v R h ⟨rfl,H⟩
  refine⟨false,rfl,⟨λh=>(by cases h),λ_=>?_⟩,H⟩
  clear H
  refine(Vp wf (x.cl,x.bi,x.nu) (q.m da dc) (du da q.data.length dc q.data) q.data (hk q hq)).ak (λ_ _ h=>h) ?_
  rintro v R h ⟨s',⟨rfl,h1,h2⟩,H⟩
  refine⟨s'.nx,s'.tb,b8 s'.tb s'.t,s'.am,oL s'.am s'.f,s'.up,s'.at',s'.la,none,0,0,HP.tt,_,rfl,.of λR h H=>⟨s',⟨rfl,?_⟩,H⟩,H⟩
  unfold NA Af.cS
  rw[h1,h2]
  rfl
def jQ(p:mD)(x:eS):mD:=if x.what≠1 then{p with nx:=p.nx+1}else match tg x.data with
 |none=>{p with nx:=p.nx+1}
 |some l=>if l.kind=1 then(match lg l.pl with|none=>{p with nx:=p.nx+1}|some c=>NA {p with nx:=p.nx+1} (l.cl,l.bi,l.nu) c)else{p with nx:=p.nx+1}
set_option maxHeartbeats 1000000 in
theorem Ld{B:Nat}(wf:qw B s.t.cS)(what:Int)(a:Option Addr)(n c:Nat)(l:List UInt8)(S:HP)(hr:bR S a n (l.map fH))(hl:l.length=n)(hc:n<=c)(ha:n≠0->a.isSome=true)(hk:what=1->∀x,tg l=some x->x.kind=1/\∀q,lg x.pl=some q->q.kind=1)(hnx: -9223372036854775808<=s.nx+1/\s.nx+1<=9223372036854775807):
 ax Tryz.prog 205 #[.pointer (some ⟨b,0,none⟩),.agg #[.int .i64 what,.slice a n c]] (Ib b s S) (KN b (jQ s.cS ⟨what,l⟩) S):=by
 refine ah (ρ:=[.n b,.i s.nx,.n s.tb,.p (b8 s.tb s.t),.n s.am,.p (oL s.am s.f),.i s.up,.i s.at',.i s.la,.a none,.n 0,.n 0,.p HP.tt,.i what,.a a,.n n,.n c,.p S]) mixed Tryz.func205 GC ?_
 unfold GB
 refine cg ?_
 intro _
 refine⟨aK _ hnx.1 hnx.2,λ_=>?_⟩
 have up:jQ s.cS ⟨what,l⟩=Af.cS {s with nx:=s.nx+1}->HP.aV (Ib b {s with nx:=s.nx+1} S) (KN b (jQ s.cS ⟨what,l⟩) S (.tuple #[])):=λe=>.of λR h H=>⟨{s with nx:=s.nx+1},⟨rfl,e.symm⟩,H⟩
 refine⟨λh=>up ?_,λh=>?_⟩
 ·unfold jQ;exact(if_pos h).trans rfl
 have hw:¬what≠1:=λq=>q h
 refine(KF a n c l S hr hl hc ha).ak (λ_ _ h=>h) ?_
 intro v R h H
 unfold rJ at H
 cases hq:tg l with
 |none=>
  rw[hq]at H
  obtain⟨rfl,H⟩:=H
  refine⟨0,0,0,0,0,0,none,0,0,HP.tt,3,rfl,λ_=>⟨λ_=>up ?_,λh=>absurd h (by decide)⟩,HP.aM H⟩
  unfold jQ;rw[if_neg hw]
  show(match tg l with|none=>_|some l=>_)=_
  rw[hq];rfl
 |some x=>
  rw[hq]at H
  obtain⟨pa,pc,rfl,H⟩:=H
  have hpa:x.pl.length≠0->pa.isSome=true:=λhn=>cp.some (HP.aj H) (by omega)
  have hpc:=cp.le (HP.aj H)
  have RW:x.pl.length<=1000000:=by
   have:dU x=true:=by
    unfold tg at hq
    split at hq
    ·cases hq
    ·split at hq
     ·cases hq
     ·split at hq
      ·cases hq
      ·split at hq
       ·rename_i h;cases hq;exact h
       ·cases hq
   unfold dU at this
   simp only[Bool.and_eq_true,decide_eq_true_eq]at this
   have:=this.2
   omega
  have hx:=hk (Decidable.not_not.1 hw) x hq
  have e:jQ s.cS ⟨what,l⟩=(match lg x.pl with|none=>Af.cS {s with nx:=s.nx+1}|some c=>NA (Af.cS {s with nx:=s.nx+1}) (x.cl,x.bi,x.nu) c):=by
   unfold jQ;rw[if_neg hw]
   show(match tg l with|none=>_|some l=>_)=_
   rw[hq];exact if_pos hx.1
  refine⟨x.kind,x.cl,x.bi,x.nu,x.st,x.bk,pa,x.pl.length,pc,du pa x.pl.length pc x.pl,0,rfl,λ_=>⟨λh=>absurd rfl h,λ_=>⟨λh1=>?_,λh1=>absurd hx.1 h1⟩⟩,H⟩
  clear H
  refine(xD (b:=b) (s:={s with nx:=s.nx+1}) wf s.nx x pa pc (du pa x.pl.length pc x.pl) (bR.ow _ _ _ _ _ _) hpc hpa RW hx.2).ak (λ_ _ h=>h) ?_
  rintro v R h ⟨s',⟨rfl,h2⟩,H⟩
  refine⟨s'.nx,s'.tb,b8 s'.tb s'.t,s'.am,oL s'.am s'.f,s'.up,s'.at',s'.la,none,0,0,HP.tt,_,rfl,.of λR h H=>⟨s',⟨rfl,?_⟩,H⟩,H⟩
  rw[e,h2]
end
structure DeS where
 id:lj
 call:fh
 aey:Int
 ended:Int
 aQ:eV
structure gE(α:Type) where
 first:rf
 us:List (eW×List Pg)
 sq:Q1
 cls:List (cE α)
 ng:List Int
 gp:List Int
 fK:List MS
 ft:Int
 cq:List DeS
 bz:List Nat
def ur(l:List MS)(ms:List MS):List MS:=ms.foldl (λl m=>(oz l m).1) l
section
variable {α:Type}(F:RF α)
def qD(room:Int)(w:gE α)(m:MS):Option (gE α×Option MS):=
 match(if m.to<0 then none else w.us[m.to.toNat]?)with
 |some u=>let a:=cN room u.1 u.2 m
  some ({w with us:=w.us.set m.to.toNat (a.2.2.1,a.2.2.2)},if a.1=true then some a.2.1 else none)
 |none=>if m.to=7 then(let a:=gy w.sq m;some ({w with sq:=a.2},a.1))
  else match(if m.to<8 then none else w.cls[(m.to - 8).toNat]?)with
   |none=>some (w,none)
   |some g=>match g.gx with
    |none=>some ({w with cls:=w.cls.set (m.to - 8).toNat (jU F g m (g9 g.bt g.cv 0))},none)
    |some a=>(Lc a m).map λa'=>({w with cls:=w.cls.set (m.to - 8).toNat (jU F g m a')},none)
def AC(w:gE α)(id:lj)(a:eV)(ft:Int):gE α:=
 match w.bz.findIdx? λk=>match w.cq[k]? with|some d=>decide (d.id=id)|none=>false with
 |none=>w
 |some i=>match w.bz[i]? with
  |none=>w
  |some k=>{w with cq:=w.cq.modify k λd=>{d with ended:=ft,aQ:=a},bz:=w.bz.eraseIdx i}
def Hh(w:gE α)(k:Nat):gE α:=match w.cls[k]? with
 |none=>w
 |some g=>{w with fK:=ur w.fK g.out,cls:=w.cls.set k (KL g)}
def Qw(w:gE α)(r:Option MS):gE α:=match r with
 |none=>w
 |some m=>{w with fK:=(oz w.fK m).1}
def Qx(ft:Int)(w:gE α)(k:Nat):gE α:=match w.cls[k]? with
 |none=>w
 |some g=>if g.waits=true then AC {w with cls:=w.cls.set k (fJ g)} g.id g.aQ ft else{w with cls:=w.cls.set k (fJ g)}
def Cz(w:gE α)(r:Option MS)(ft:Int):gE α:=(List.range w.cls.length).foldl (Qx ft) (Qw ((List.range w.cls.length).foldl Hh w) r)
def jr(w:gE α)(dQ:Int)(x:fh):gE α×Int:=
 match(if dQ<8 then none else w.cls[(dQ - 8).toNat]?)with
 |none=>(w,2)
 |some g=>let d:=qB F g x
  if d.2≠0 then({w with cls:=w.cls.set (dQ - 8).toNat d.1},d.2)else
  let i:=(dQ - 8).toNat
  let n:=(w.gp[i]?).getD 0+1
  ({w with cls:=w.cls.set i d.1,gp:=w.gp.set i n,bz:=w.bz++[w.cq.length],cq:=w.cq++[⟨(dQ,(w.ng[i]?).getD 0,n),x,w.ft - 1,-1,{}⟩]},0)
def NO(w:gE α)(dQ:Int)(x:fh):gE α×Int:=let r:=jr F {w with ft:=w.ft+1} dQ x
 (Cz r.1 none w.ft,r.2)
end
def F1:RF mD:=⟨mD.nx,λ_=>false,jQ,λp _=>p,λp k=>p.f k⟩
def uQ:mD:=⟨0,FC,λ_=>none,-1,-1⟩
def oS:gE mD:=⟨⟨0,[[0]]⟩,[(s0,[])],⟨-1,0,λ_=> -1⟩,[uK 8 0 1 ⟨0,[[0]]⟩ uQ],[0],[0],[],0,[],[]⟩
def xE:fh:=⟨1,[47,97],[],0,0,[]⟩
def XO(p:mD):Prop:=(0<=p.nx/\p.nx<=1000000)/\qw (p.nx.toNat+1) p.T
def RpR(b:Nat)(p:mD):HP:=HP.ex λs:Af=>HP.and (s.cS=p/\XO p) (lr b s)
def aa9(p:mD)(x:eS):Prop:=p.nx<1000000/\(x.what=1->∀l,tg x.data=some l->l.kind=1/\∀q,lg l.pl=some q->q.kind=1)
theorem AD(p:mD)(x:eS):(jQ p x).nx=p.nx+1:=by
 unfold jQ
 split
 ·rfl
 ·split
  ·rfl
  ·split
   ·split<;>rfl
   ·rfl
theorem Qy{p:mD}{x:eS}(h:XO p)(ht:aa9 p x):XO (jQ p x):=by
 obtain⟨⟨h0,h1⟩,wf⟩:=h
 refine⟨by rw[AD];have:=ht.1;omega,?_⟩
 rw[AD,show(p.nx+1).toNat=p.nx.toNat+1 by omega]
 have up:=wf.le (Nat.le_succ (p.nx.toNat+1))
 unfold jQ
 split
 ·exact up
 ·rename_i hw
  split
  ·exact up
  ·rename_i l hl
   have hk:=ht.2 (Decidable.not_not.1 hw) l hl
   split
   ·split
    ·exact up
    ·rename_i q hq
     show qw _ (W5 p.T q.kind q.path q.bh q.off q.n q.data).1
     unfold W5
     rw[if_pos (.inl (hk.2 q hq))]
     exact wf.make q.kind (by omega) q.path
   ·exact up
def lO:tq where
 α:=mD
 F:=F1
 R:=RpR
 qI:=aa9
 CX:=λ_ _=>False
 q8 b p:=ax.ex λs=>ax.pure λh=>P7.ak (λ_ _ h=>h) λv R y ⟨e,H⟩=>⟨by rw[e,<-h.1];rfl,s,h,H⟩
 NF b p:=ax.ex λs=>ax.pure λh=>Ag.ak (λ_ _ h=>h) λv R y ⟨e,H⟩=>⟨e,s,h,H⟩
 NG b p x a c S ht hr hc ha:=by
  refine(ax.ex (A:=λs:Af=>HP.and (s.cS=p/\XO p) (HP.an (lr b s) S)) λs=>ax.pure λh=>?_).ak (λR h ⟨h1,h2,d,l1,l2,⟨s,e,H⟩,HS⟩=>⟨s,e,h1,h2,d,l1,l2,H,HS⟩) λ_ _ _ h=>h
  obtain⟨rfl,hk⟩:=h
  have hn:=hk.1
  have ht1:=ht.1
  refine(Ld (b:=b) (s:=s) hk.2 x.what a x.data.length c x.data S hr rfl hc ha (λe=>ht.2 e) ⟨by show _<=s.nx+1;have:s.cS.nx=s.nx:=rfl;omega,by have:s.cS.nx=s.nx:=rfl;omega⟩).ak (λR h H=>Ib.of H) ?_
  rintro v R h ⟨s',⟨rfl,e⟩,H⟩
  exact⟨rfl,HP.ae (Ib.to H) (λ_ h=>⟨s',⟨e,Qy hk ht⟩,h⟩) λ_ h=>h⟩
 NH b p low h:=h.elim
 U4 b p k:=by
  refine ax.ex λs=>ax.pure λh=>?_
  obtain⟨rfl,hk⟩:=h
  refine(GG k).post λv=>λR h d ⟨da,dc,na,nc,e,H⟩=>?_
  obtain⟨R1,h1,q1,q2,q3,q4,H1⟩:=((cp.ez 5 1 da _ dc ((oM s.f k).data.map fH)).gZ ((cp.ez 9 1 na _ nc ((oM s.f k).aL.map sE)).gZ (HP.aV.refl (lr b s)))) R h d H
  exact⟨R1,h1,q1,q2,q3,q4,da,dc,na,nc,e,HP.ae H1 (λ_ h=>h) λ_ h=>HP.ae h (λ_ h=>h) λ_ h=>⟨s,⟨rfl,hk⟩,h⟩⟩
theorem Qz:ax Tryz.prog 41 #[] HP.tt (λv=>HP.ex λrb=>HP.and (v=.pointer (some ⟨rb,0,none⟩)) (lO.R rb uQ)):=
 UV.ak (λ_ _ h=>h) λv R h ⟨b,s,⟨e,h1,h2,h3,h4,h5,h6⟩,H⟩=>⟨b,e,s,⟨by
  unfold Af.cS
  rw[h1,h2,h3,h5,h6];rfl,⟨by decide,W6⟩⟩,H⟩
end
namespace RX
def fU:=(({fx:=[109,116,113,37,39,74,66,64]}:gA).fx)
def fV:=(({aB:=[33,35,10,11,34,7,24,23,25,50]}:gA).aB)
def fW:=(({cf:=[109,116,113,37,39,74,66,64]}:gA).cf)
def Vq:T:=
(.ld 3 5 (.ptr 0 9) [(.b 0,1)] [.i] 2
(.ret 2 [(.b 0,1)]))
theorem QA:tree Tryz.prog {fx:=fU,aB:=fV,iB:=[(10,0),(11,0)],bz:=true,cx:=true,cf:=fW} Tryz.f7 [.ptr 0 0] [(.b 0,1)] 2=Vq:=by kernel_rfl
def AE:T:=
(.br (.lt 2 (.i 8))
(.ret (.w (.a .fZ)) [(.b 0,1)])
 (.ld 70 11 (.ptr 0 5) [(.b 0,1)] [.a,.n,.n] (.s 3)
 (.rg (.add (.i 8) (.of 4))
(.br (.le (.add (.i 8) (.of 4)) 2)
(.ret (.w (.a .fZ)) [(.b 0,1)])
  (.ld 70 19 (.ptr 0 5) [(.b 0,1)] [.a,.n,.n] (.s 6)
  (.rg (.sub 2 (.i 8))
(.need (.le (.i 0) (.sub 2 (.i 8)))
(.need (.lt (.sub 2 (.i 8)) (.of 7))
(.need (.is 6)
(.read (.load 37 (.tmp 23)) 37 [(23,.aW 6 (.sub 2 (.i 8)) 1 0)] [(.b 0,1)] [.v] (.val 9)
(.ret (.val 9) [(.b 0,1)])))))))))))
theorem CA:tree Tryz.prog {fx:=fU,aB:=fV,iB:=[(10,0),(11,0)],bz:=true,cx:=true,cf:=fW} Tryz.f10 [.ptr 0 0,2] [(.b 0,1)] 3=AE:=by kernel_rfl
def NP:T:=
(.br (.lt 2 (.i 0))
(.ret (.w (.a .fZ)) [(.b 0,1)])
 (.ld 69 11 (.ptr 0 3) [(.b 0,1)] [.a,.n,.n] (.s 3)
(.br (.le (.of 4) 2)
(.ret (.w (.a .fZ)) [(.b 0,1)])
  (.ld 69 18 (.ptr 0 3) [(.b 0,1)] [.a,.n,.n] (.s 6)
(.need (.le (.i 0) 2)
(.need (.lt 2 (.of 7))
(.need (.is 6)
  (.ld 39 21 (.aW 6 2 1 0) [(.b 0,1)] [.v] (.val 9)
(.ret (.val 9) [(.b 0,1)])))))))))
theorem Le:tree Tryz.prog {fx:=fU,aB:=fV,iB:=[(10,0),(11,0)],bz:=true,cx:=true,cf:=fW} Tryz.f11 [.ptr 0 0,2] [(.b 0,1)] 3=NP:=by kernel_rfl
def Hi:T:=
(.ld 66 5 (.ptr 0 8) [(.b 0,1)] [.v] (.val 2)
(.call 21 [.val 2] [(.b 0,1)] [.a,.n,.n,.p,.p] (.s 3) [(3,6),(.b 0,7)]
(.ret (.s 3) [(.b 0,7),(3,6)])))
theorem Hj:tree Tryz.prog {fx:=fU,aB:=fV,iB:=[(10,0),(11,0)],bz:=true,cx:=true,cf:=fW} Tryz.f8 [.ptr 0 0] [(.b 0,1)] 2=Hi:=by kernel_rfl
def NQ:T:=
(.ld 70 5 (.ptr 0 5) [(.b 0,1)] [.a,.n,.n] (.s 2)
(.call 53 [.s 2,.a (.func 33 [])] [(.b 0,1)] [.c,.p] (.bool 5) [(.b 0,6)]
(.ret (.bool 5) [(.b 0,6)])))
theorem Lf:tree Tryz.prog {fx:=fU,aB:=fV,iB:=[(10,0),(11,0)],bz:=true,cx:=true,cf:=fW} Tryz.f34 [.ptr 0 0] [(.b 0,1)] 2=NQ:=by kernel_rfl
def AF:T:=
(.loop [.i,.p] [.z (.i 0),.p [(.b 0,1)]]
(.br (.lt 2 (.i 2000))
(.call 34 [.ptr 0 0] [(.b 0,3)] [.c] (.bool 4) [(.b 0,3)]
(.br 4
(.loop [.i,.p] [.z (.i 0),.p [(.b 0,3)]]
(.br (.lt 5 (.i 200))
  (.ld 66 20 (.ptr 0 8) [(.b 0,6)] [.v] (.val 7)
(.call 35 [.val 7] [(.b 0,6)] [.i] 8 [(.b 0,6)]
(.br (.lt (.i 0) 8)
(.call 13 [.ptr 0 0,.agg [.k 6,.k 0,.k 0,.bool (.c false),.k 0,.str (.s []),.str (.s []),.k 0,.k 0,.z,.z]] [(.b 0,6)] [.i,.p] 9 [(.b 0,10)]
  (.rg (.add 5 (.i 1))
(.again 0 [.z (.add 5 (.i 1)),.p [(.b 0,10)]])))
  (.ld 70 32 (.ptr 0 5) [(.b 0,6)] [.a,.n,.n] (.s 9)
(.loop [.i,.p] [.z (.i 0),.p [(.b 0,6)]]
(.br (.lt 12 (.of 10))
       (.ld 70 41 (.ptr 0 5) [(.b 0,13)] [.a,.n,.n] (.s 14)
(.need (.le (.i 0) 12)
(.need (.lt 12 (.of 15))
(.need (.is 14)
        (.ld 37 44 (.aW 14 12 1 0) [(.b 0,13)] [.v] (.val 17)
(.call 33 [.val 17] [(.b 0,13)] [.c] (.bool 18) [(.b 0,13)]
(.br 18
  (.rg (.add (.i 8) 12)
(.call 13 [.ptr 0 0,.agg [.k 5,.int .i64 (.add (.i 8) 12),.k 0,.bool (.c false),.k 0,.str (.s []),.str (.s []),.k 0,.k 0,.z,.z]] [(.b 0,13)] [.i,.p] 19 [(.b 0,20)]
  (.rg (.add 12 (.i 1))
(.again 0 [.z (.add 12 (.i 1)),.p [(.b 0,20)]]))))
  (.rg (.add 12 (.i 1))
(.again 0 [.z (.add 12 (.i 1)),.p [(.b 0,13)]])))))))))
  (.rg (.add 2 (.i 1))
(.again 2 [.z (.add 2 (.i 1)),.p [(.b 0,13)]]))))))))
  (.ld 70 32 (.ptr 0 5) [(.b 0,6)] [.a,.n,.n] (.s 7)
(.loop [.i,.p] [.z (.i 0),.p [(.b 0,6)]]
(.br (.lt 10 (.of 8))
       (.ld 70 41 (.ptr 0 5) [(.b 0,11)] [.a,.n,.n] (.s 12)
(.need (.le (.i 0) 10)
(.need (.lt 10 (.of 13))
(.need (.is 12)
  (.ld 37 44 (.aW 12 10 1 0) [(.b 0,11)] [.v] (.val 15)
(.call 33 [.val 15] [(.b 0,11)] [.c] (.bool 16) [(.b 0,11)]
(.br 16
  (.rg (.add (.i 8) 10)
(.call 13 [.ptr 0 0,.agg [.k 5,.int .i64 (.add (.i 8) 10),.k 0,.bool (.c false),.k 0,.str (.s []),.str (.s []),.k 0,.k 0,.z,.z]] [(.b 0,11)] [.i,.p] 17 [(.b 0,18)]
  (.rg (.add 10 (.i 1))
(.again 0 [.z (.add 10 (.i 1)),.p [(.b 0,18)]]))))
  (.rg (.add 10 (.i 1))
(.again 0 [.z (.add 10 (.i 1)),.p [(.b 0,11)]])))))))))
  (.rg (.add 2 (.i 1))
(.again 2 [.z (.add 2 (.i 1)),.p [(.b 0,11)]])))))))
(.call 34 [.ptr 0 0] [(.b 0,3)] [.c] (.bool 5) [(.b 0,3)]
(.ret (.bool (.not 5)) [(.b 0,3)]))))
(.call 34 [.ptr 0 0] [(.b 0,3)] [.c] (.bool 4) [(.b 0,3)]
(.ret (.bool (.not 4)) [(.b 0,3)]))))
theorem CB:tree Tryz.prog {fx:=fU,hv:=[(0,[.b 0]),(2,[.b 0]),(4,[.b 0])],aB:=fV,iB:=[(10,0),(11,0)],bz:=true,cx:=true,cf:=fW} Tryz.f14 [.ptr 0 0] [(.b 0,1)] 2=AF:=by kernel_rfl
def xF:T:=
(.new
(.new
(.call 11 [.ptr 0 0,3] [(.b 0,1)] [.v,.p] (.val 26) [(26,27),(.b 0,1)]
(.read (.binOp .neq 39 (.tmp 12) (.const (.pointer none)) 39) 4 [(12,.val 26)] [(26,27),(.b 0,1)] [.c] (.bool 28)
(.br 28
(.call 80 [.val 26,.agg [2,3,4,.bool 5,6,7,8,9,.s 10,14,15,.s 16,20,21,22,23]] [(26,27),(.b 0,1),(10,13),(16,19)] [.i,.i,.i,.c,.i,.i,.i,.i,.a,.n,.n,.p,.i,.i,.a,.n,.n,.p,.i,.i,.i,.i,.c,.p,.p,.p,.p] (.au [.agg [29,30,31,.bool 32,33,34,35,36,.s 37,41,42,.s 43,47,48,49,50],.bool 51]) [(37,40),(43,46),(26,52),(.b 0,53),(10,54),(16,55)]
(.ret (.au [.agg [29,30,31,.bool 32,33,34,35,36,.s 37,41,42,.s 43,47,48,49,50],.bool 51]) [(.b 0,53),(10,54),(16,55),(37,40),(43,46)]))
(.br (.eq 3 (.i 7))
  (.ld 64 24 (.ptr 0 4) [(.b 0,1)] [.v] (.val 29)
(.call 81 [.val 29,.agg [2,3,4,.bool 5,6,7,8,9,.s 10,14,15,.s 16,20,21,22,23]] [(.b 0,1),(10,13),(16,19)] [.i,.i,.i,.c,.i,.i,.i,.i,.a,.n,.n,.p,.i,.i,.a,.n,.n,.p,.i,.i,.i,.i,.c,.p,.p,.p] (.au [.agg [30,31,32,.bool 33,34,35,36,37,.s 38,42,43,.s 44,48,49,50,51],.bool 52]) [(38,41),(44,47),(.b 0,53),(10,54),(16,55)]
(.ret (.au [.agg [30,31,32,.bool 33,34,35,36,37,.s 38,42,43,.s 44,48,49,50,51],.bool 52]) [(.b 0,53),(10,54),(16,55),(38,41),(44,47)])))
(.call 10 [.ptr 0 0,3] [(.b 0,1)] [.v,.p] (.val 29) [(29,30),(.b 0,1)]
(.read (.binOp .neq 37 (.tmp 34) (.const (.pointer none)) 37) 4 [(34,.val 29)] [(29,30),(.b 0,1)] [.c] (.bool 31)
(.br 31
(.call 82 [.val 29,.agg [2,3,4,.bool 5,6,7,8,9,.s 10,14,15,.s 16,20,21,22,23]] [(29,30),(.b 0,1),(10,13),(16,19)] [.p,.p,.p,.p] (.au []) [(29,32),(.b 0,33),(10,34),(16,35)]
(.ret (.au [.agg [.k 0,.k 0,.k 0,.bool (.c false),.k 0,.k 0,.k 0,.k 0,.z,.k 0,.k 0,.z,.k 0,.k 0,.k 0,.k 0],.bool (.c false)]) [(.b 0,33),(10,34),(16,35)]))
(.ret (.au [.agg [.k 0,.k 0,.k 0,.bool (.c false),.k 0,.k 0,.k 0,.k 0,.z,.k 0,.k 0,.z,.k 0,.k 0,.k 0,.k 0],.bool (.c false)]) [(.b 0,1),(10,13),(16,19)]))))))))))
theorem yF:tree Tryz.prog {fx:=fU,aB:=fV,iB:=[(10,0),(11,0)],bz:=true,cx:=true,cf:=fW} Tryz.f45 [.ptr 0 0,.agg [2,3,4,.bool 5,6,7,8,9,.s 10,14,15,.s 16,20,21,22,23]] [(.b 0,1),(10,13),(16,19)] 24=xF:=by kernel_rfl
def Vr:T:=
(.new
(.call 10 [.ptr 0 0,3] [(.b 0,1)] [.v,.p] (.val 21) [(21,22),(.b 0,1)]
(.read (.binOp .eql 37 (.tmp 15) (.const (.pointer none)) 37) 4 [(15,.val 21)] [(21,22),(.b 0,1)] [.c] (.bool 23)
(.br 23
(.ret (.k 2) [(.b 0,1),(11,14),(15,18)])
(.br (.eq 2 (.i 1))
(.call 73 [.val 21,.agg [6,.str 7,.str 8,9,10,.s 11]] [(21,22),(.b 0,1),(11,14)] [.i,.p,.p,.p] 24 [(21,25),(.b 0,26),(11,27)]
(.br (.not (.eq 24 (.i 0)))
(.ret 24 [(.b 0,26),(11,27),(15,18)])
  (.rg (.sub 3 (.i 8))
  (.ld 71 49 (.ptr 0 7) [(.b 0,26)] [.a,.n,.n] (.s 28)
(.need (.le (.i 0) (.sub 3 (.i 8)))
(.need (.lt (.sub 3 (.i 8)) (.of 29))
(.need (.is 28)
(.read (.load 3 (.tmp 52)) 3 [(52,.aW 28 (.sub 3 (.i 8)) 1 0)] [(.b 0,26)] [.i] 31
  (.rg (.add 31 (.i 1))
(.op (.store 3 (.tmp 55) (.tmp 54)) 0 [(55,.aW 28 (.sub 3 (.i 8)) 1 0),(54,.w (.a (.int .i64 (.add 31 (.i 1)))))] [(.b 0,26)] [.p] (.au []) [(.b 0,32)]
(.join [.n,.i,.i,.i]
  (.ld 71 63 (.ptr 0 6) [(.b 0,32)] [.a,.n,.n] (.s 33)
(.need (.lt (.sub 3 (.i 8)) (.of 34))
(.need (.is 33)
(.read (.load 3 (.tmp 66)) 3 [(66,.aW 33 (.sub 3 (.i 8)) 1 0)] [(.b 0,32)] [.i] 36
  (.ld 71 70 (.ptr 0 7) [(.b 0,32)] [.a,.n,.n] (.s 37)
(.need (.lt (.sub 3 (.i 8)) (.of 38))
(.need (.is 37)
(.read (.load 3 (.tmp 73)) 3 [(73,.aW 37 (.sub 3 (.i 8)) 1 0)] [(.b 0,32)] [.i] 40
  (.all
(.new
(.again 0 [.n 41,.z 3,.z 36,.z 40]))
(.new
(.again 0 [.n 41,.z 3,.z 36,.z 40])))))))))))
  (.ld 71 79 (.ptr 0 11) [(.b 0,32)] [.a,.n,.n] (.s 37)
  (.ld 35 83 (.ptr 0 10) [(.b 0,32)] [.a,.n,.n] (.s 40)
(.new
(.op (.call ⟨.builtin .append,#[.tmp 80,.tmp 86],#[71,71]⟩) 71 [(80,.s 37),(86,.sl (.b 43 0) (.n 1) (.n 1))] [(.b 0,32),(.b 43,.cells [.int .i64 (.of 41)] 3)] [.a,.n,.n,.p,.p] (.s 44) [(44,47),(.b 0,48),(.b 43,.cells [.int .i64 (.of 41)] 3)]
(.op (.store 71 (.tmp 89) (.tmp 87)) 0 [(89,.ptr 0 11),(87,.s 44)] [(.b 0,48),(44,47)] [.p] (.au []) [(.b 0,49)]
  (.ld 35 93 (.ptr 0 10) [(.b 0,49)] [.a,.n,.n] (.s 50)
(.call 23 [.agg [6,.str 7,.str 8,9,10,.s 11]] [(11,27)] [.i,.s,.s,.i,.i,.a,.n,.n,.p] (.agg [53,.str 54,.str 55,56,57,.s 58]) [(58,61),(11,27)]
(.new
(.op (.call ⟨.builtin .append,#[.tmp 94,.tmp 101],#[35,35]⟩) 35 [(94,.s 50),(101,.sl (.b 62 0) (.n 1) (.n 1))] [(.b 0,49),(.b 62,.cells [34,35,36,53,.str 54,.str 55,56,57,.s 58,19,.k (-1),.k 0,.k 0,.k 0,.k 0,.z,.z] 61),(58,61)] [.a,.n,.n,.p,.p] (.s 63) [(63,66),(.b 0,67),(.b 62,.cells [34,35,36,53,.str 54,.str 55,56,57,.s 58,19,.k (-1),.k 0,.k 0,.k 0,.k 0,.z,.z] 61),(58,61)]
(.op (.store 35 (.tmp 104) (.tmp 102)) 0 [(104,.ptr 0 10),(102,.s 63)] [(.b 0,67),(63,66)] [.p] (.au []) [(.b 0,68)]
(.ret (.k 0) [(.b 0,68),(11,27),(15,18)]))))))))))))))))))))))
(.br (.eq 2 (.i 2))
(.call 74 [.val 21] [(21,22),(.b 0,1)] [.i,.p,.p] 24 [(21,25),(.b 0,26)]
(.br (.not (.eq 24 (.i 0)))
(.ret 24 [(.b 0,26),(11,14),(15,18)])
  (.rg (.sub 3 (.i 8))
  (.ld 71 49 (.ptr 0 7) [(.b 0,26)] [.a,.n,.n] (.s 27)
(.need (.le (.i 0) (.sub 3 (.i 8)))
(.need (.lt (.sub 3 (.i 8)) (.of 28))
(.need (.is 27)
(.read (.load 3 (.tmp 52)) 3 [(52,.aW 27 (.sub 3 (.i 8)) 1 0)] [(.b 0,26)] [.i] 30
  (.rg (.add 30 (.i 1))
(.op (.store 3 (.tmp 55) (.tmp 54)) 0 [(55,.aW 27 (.sub 3 (.i 8)) 1 0),(54,.w (.a (.int .i64 (.add 30 (.i 1)))))] [(.b 0,26)] [.p] (.au []) [(.b 0,31)]
(.ret (.k 0) [(.b 0,31),(11,14),(15,18)])))))))))))
(.br (.eq 2 (.i 3))
(.call 75 [.val 21] [(21,22),(.b 0,1)] [.i,.p,.p] 24 [(21,25),(.b 0,26)]
(.br (.not (.eq 24 (.i 0)))
(.ret 24 [(.b 0,26),(11,14),(15,18)])
  (.rg (.sub 3 (.i 8))
  (.ld 71 49 (.ptr 0 7) [(.b 0,26)] [.a,.n,.n] (.s 27)
(.need (.le (.i 0) (.sub 3 (.i 8)))
(.need (.lt (.sub 3 (.i 8)) (.of 28))
(.need (.is 27)
(.read (.load 3 (.tmp 52)) 3 [(52,.aW 27 (.sub 3 (.i 8)) 1 0)] [(.b 0,26)] [.i] 30
  (.rg (.add 30 (.i 1))
(.op (.store 3 (.tmp 55) (.tmp 54)) 0 [(55,.aW 27 (.sub 3 (.i 8)) 1 0),(54,.w (.a (.int .i64 (.add 30 (.i 1)))))] [(.b 0,26)] [.p] (.au []) [(.b 0,31)]
(.ret (.k 0) [(.b 0,31),(11,14),(15,18)])))))))))))
(.br (.eq 2 (.i 4))
(.call 76 [.val 21] [(21,22),(.b 0,1)] [.p,.p] (.au []) [(21,24),(.b 0,25)]
(.ret (.k 0) [(.b 0,25),(11,14),(15,18)]))
(.br (.eq 2 (.i 5))
(.call 77 [.val 21] [(21,22),(.b 0,1)] [.p,.p] (.au []) [(21,24),(.b 0,25)]
(.ret (.k 0) [(.b 0,25),(11,14),(15,18)]))
  (.rg (.sub 3 (.i 8))
  (.ld 71 49 (.ptr 0 7) [(.b 0,1)] [.a,.n,.n] (.s 24)
(.need (.le (.i 0) (.sub 3 (.i 8)))
(.need (.lt (.sub 3 (.i 8)) (.of 25))
(.need (.is 24)
(.read (.load 3 (.tmp 52)) 3 [(52,.aW 24 (.sub 3 (.i 8)) 1 0)] [(.b 0,1)] [.i] 27
  (.rg (.add 27 (.i 1))
(.op (.store 3 (.tmp 55) (.tmp 54)) 0 [(55,.aW 24 (.sub 3 (.i 8)) 1 0),(54,.w (.a (.int .i64 (.add 27 (.i 1)))))] [(.b 0,1)] [.p] (.au []) [(.b 0,28)]
(.ret (.k 0) [(.b 0,28),(11,14),(15,18)]))))))))))))))))))
theorem QB:tree Tryz.prog {fx:=fU,aB:=fV,iB:=[(10,0),(11,0)],bz:=true,cx:=true,cf:=fW,jn:=[((59,33),some {ss:=[.n,.i,.i,.i],n:=37,tv:=[(59,none),(60,none),(61,none),(62,none),(63,none),(64,none),(65,none),(66,none),(67,none),(68,none),(69,none),(70,none),(71,none),(72,none),(73,none),(74,none),(75,none),(10,some (.ptr 33 0))],h:=[(.b 33,.cells [34,35,36] 56),(.b 0,32),(21,25),(11,27),(.b 20,.cells [2,3,4,.bool 5,6,.str 7,.str 8,9,10,.s 11,.s 15] 54),(15,18)],lk:=[]})]} Tryz.f43 [.ptr 0 0,.agg [2,3,4,.bool 5,6,.str 7,.str 8,9,10,.s 11,.s 15],19] [(.b 0,1),(11,14),(15,18)] 20=Vr:=by kernel_rfl
def tA:T:=
(.new
(.new
(.br (.eq 2 (.i 1))
(.join [.i,.p,.p,.p]
(.call 43 [.ptr 0 0,.agg [2,3,4,.bool 5,6,.str 7,.str 8,9,10,.s 11,.s 15],19] [(.b 0,1),(11,14),(15,18)] [.i,.p,.p,.p] 22 [(.b 0,23),(11,24),(15,25)]
(.again 0 [.z 22,.p [(.b 0,23)],.p [(11,24)],.p [(15,25)]]))
(.ret (.au [.agg [.k 0,.k 0,.k 0,.bool (.c false),.k 0,.k 0,.k 0,.k 0,.z,.k 0,.k 0,.z,.k 0,.k 0,.k 0,.k 0],.bool (.c false),22]) [(.b 0,23),(11,24),(15,25)]))
(.br (.eq 2 (.i 2))
(.join [.i,.p,.p,.p]
(.call 43 [.ptr 0 0,.agg [2,3,4,.bool 5,6,.str 7,.str 8,9,10,.s 11,.s 15],19] [(.b 0,1),(11,14),(15,18)] [.i,.p,.p,.p] 22 [(.b 0,23),(11,24),(15,25)]
(.again 0 [.z 22,.p [(.b 0,23)],.p [(11,24)],.p [(15,25)]]))
(.ret (.au [.agg [.k 0,.k 0,.k 0,.bool (.c false),.k 0,.k 0,.k 0,.k 0,.z,.k 0,.k 0,.z,.k 0,.k 0,.k 0,.k 0],.bool (.c false),22]) [(.b 0,23),(11,24),(15,25)]))
(.br (.eq 2 (.i 3))
(.join [.i,.p,.p,.p]
(.call 43 [.ptr 0 0,.agg [2,3,4,.bool 5,6,.str 7,.str 8,9,10,.s 11,.s 15],19] [(.b 0,1),(11,14),(15,18)] [.i,.p,.p,.p] 22 [(.b 0,23),(11,24),(15,25)]
(.again 0 [.z 22,.p [(.b 0,23)],.p [(11,24)],.p [(15,25)]]))
(.ret (.au [.agg [.k 0,.k 0,.k 0,.bool (.c false),.k 0,.k 0,.k 0,.k 0,.z,.k 0,.k 0,.z,.k 0,.k 0,.k 0,.k 0],.bool (.c false),22]) [(.b 0,23),(11,24),(15,25)]))
(.br (.eq 2 (.i 4))
(.join [.i,.p,.p,.p]
(.call 43 [.ptr 0 0,.agg [2,3,4,.bool 5,6,.str 7,.str 8,9,10,.s 11,.s 15],19] [(.b 0,1),(11,14),(15,18)] [.i,.p,.p,.p] 22 [(.b 0,23),(11,24),(15,25)]
(.again 0 [.z 22,.p [(.b 0,23)],.p [(11,24)],.p [(15,25)]]))
(.ret (.au [.agg [.k 0,.k 0,.k 0,.bool (.c false),.k 0,.k 0,.k 0,.k 0,.z,.k 0,.k 0,.z,.k 0,.k 0,.k 0,.k 0],.bool (.c false),22]) [(.b 0,23),(11,24),(15,25)]))
(.br (.eq 2 (.i 5))
(.join [.i,.p,.p,.p]
(.call 43 [.ptr 0 0,.agg [2,3,4,.bool 5,6,.str 7,.str 8,9,10,.s 11,.s 15],19] [(.b 0,1),(11,14),(15,18)] [.i,.p,.p,.p] 22 [(.b 0,23),(11,24),(15,25)]
(.again 0 [.z 22,.p [(.b 0,23)],.p [(11,24)],.p [(15,25)]]))
(.ret (.au [.agg [.k 0,.k 0,.k 0,.bool (.c false),.k 0,.k 0,.k 0,.k 0,.z,.k 0,.k 0,.z,.k 0,.k 0,.k 0,.k 0],.bool (.c false),22]) [(.b 0,23),(11,24),(15,25)]))
(.br (.eq 2 (.i 6))
(.join [.n,.i,.i,.i,.i,.c,.i,.i,.i,.i,.a,.n,.n,.i,.i,.a,.n,.n,.i,.i,.i,.i,.p,.p,.p]
  (.ld 66 29 (.ptr 0 8) [(.b 0,1)] [.v] (.val 22)
  (.all
(.call 44 [.val 22,4,.bool 5] [(.b 0,1)] [.i,.i,.i,.c,.i,.i,.i,.i,.a,.n,.n,.p,.i,.i,.a,.n,.n,.p,.i,.i,.i,.i,.i,.p] (.au [.agg [23,24,25,.bool 26,27,28,29,30,.s 31,35,36,.s 37,41,42,43,44],45]) [(31,34),(37,40),(.b 0,46)]
(.new
(.again 0 [.n 47,.z 45,.z 23,.z 24,.z 25,.e (.not (.not 26)),.z 27,.z 28,.z 29,.z 30,.a 31,.e (.cQ 32 (.n 0)),.e (.cQ 33 (.n 0)),.z 35,.z 36,.a 37,.e (.cQ 38 (.n 0)),.e (.cQ 39 (.n 0)),.z 41,.z 42,.z 43,.z 44,.p [(31,34)],.p [(37,40)],.p [(.b 0,46)]])))
(.new
(.call 44 [.val 22,4,.bool 5] [(.b 0,1)] [.i,.i,.i,.c,.i,.i,.i,.i,.a,.n,.n,.p,.i,.i,.a,.n,.n,.p,.i,.i,.i,.i,.i,.p] (.au [.agg [24,25,26,.bool 27,28,29,30,31,.s 32,36,37,.s 38,42,43,44,45],46]) [(32,35),(38,41),(.b 0,47)]
(.again 0 [.n 23,.z 46,.z 24,.z 25,.z 26,.e (.not (.not 27)),.z 28,.z 29,.z 30,.z 31,.a 32,.e (.cQ 33 (.n 0)),.e (.cQ 34 (.n 0)),.z 36,.z 37,.a 38,.e (.cQ 39 (.n 0)),.e (.cQ 40 (.n 0)),.z 42,.z 43,.z 44,.z 45,.p [(32,35)],.p [(38,41)],.p [(.b 0,47)]])))))
(.br (.not (.eq 23 (.i 0)))
(.ret (.au [.agg [.k 0,.k 0,.k 0,.bool (.c false),.k 0,.k 0,.k 0,.k 0,.z,.k 0,.k 0,.z,.k 0,.k 0,.k 0,.k 0],.bool (.c false),23]) [(.b 0,46),(11,14),(15,18)])
(.call 45 [.ptr 0 0,.agg [24,25,26,.bool 27,28,29,30,31,.s 32,35,36,.s 37,40,41,42,43]] [(.b 0,46),(32,44),(37,45)] [.i,.i,.i,.c,.i,.i,.i,.i,.a,.n,.n,.p,.i,.i,.a,.n,.n,.p,.i,.i,.i,.i,.c,.p,.p,.p] (.au [.agg [47,48,49,.bool 50,51,52,53,54,.s 55,59,60,.s 61,65,66,67,68],.bool 69]) [(55,58),(61,64),(.b 0,70),(32,71),(37,72)]
(.ret (.au [.agg [47,48,49,.bool 50,51,52,53,54,.s 55,59,60,.s 61,65,66,67,68],.bool 69,.k 0]) [(.b 0,70),(11,14),(15,18),(55,58),(61,64)]))))
(.br (.eq 2 (.i 7))
       (.ld 66 55 (.ptr 0 8) [(.b 0,1)] [.v] (.val 22)
(.call 46 [.val 22,4] [(.b 0,1)] [.i,.p] 23 [(.b 0,24)]
(.ret (.au [.agg [.k 0,.k 0,.k 0,.bool (.c false),.k 0,.k 0,.k 0,.k 0,.z,.k 0,.k 0,.z,.k 0,.k 0,.k 0,.k 0],.bool (.c false),23]) [(.b 0,24),(11,14),(15,18)])))
(.br (.eq 2 (.i 8))
(.call 47 [.ptr 0 0,3,.s 15] [(.b 0,1),(15,18)] [.i,.p,.p] 22 [(.b 0,23),(15,24)]
(.ret (.au [.agg [.k 0,.k 0,.k 0,.bool (.c false),.k 0,.k 0,.k 0,.k 0,.z,.k 0,.k 0,.z,.k 0,.k 0,.k 0,.k 0],.bool (.c false),22]) [(.b 0,23),(11,14),(15,24)]))
(.ret (.au [.agg [.k 0,.k 0,.k 0,.bool (.c false),.k 0,.k 0,.k 0,.k 0,.z,.k 0,.k 0,.z,.k 0,.k 0,.k 0,.k 0],.bool (.c false),.k 1]) [(.b 0,1),(11,14),(15,18)])))))))))))
theorem r6:tree Tryz.prog {fx:=fU,aB:=fV,iB:=[(10,0),(11,0)],bz:=true,cx:=true,cf:=fW,jn:=[((19,22),some {ss:=[.i,.p,.p,.p],n:=26,tv:=[(19,none),(20,none),(21,none),(22,none),(23,none),(7,some (.bool (.c false))),(8,some 22)],h:=[(.b 21,.cells [.k 0,.k 0,.k 0,.bool (.c false),.k 0,.k 0,.k 0,.k 0,.z,.k 0,.k 0,.z,.k 0,.k 0,.k 0,.k 0] 48),(.b 0,23),(11,24),(15,25),(.b 20,.cells [2,3,4,.bool 5,6,.str 7,.str 8,9,10,.s 11,.s 15] 54)],lk:=[]}),((27,22),some {ss:=[.n,.i,.i,.i,.i,.c,.i,.i,.i,.i,.a,.n,.n,.i,.i,.a,.n,.n,.i,.i,.i,.i,.p,.p,.p],n:=47,tv:=[(27,none),(28,none),(29,none),(30,none),(31,none),(32,none),(33,none),(34,none),(35,none),(26,none),(36,none),(37,none),(9,some (.ptr 22 0)),(10,some 23)],h:=[(.b 22,.cells [24,25,26,.bool 27,28,29,30,31,.s 32,35,36,.s 37,40,41,42,43] 48),(32,44),(37,45),(.b 0,46),(.b 21,.cells [.k 0,.k 0,.k 0,.bool (.c false),.k 0,.k 0,.k 0,.k 0,.z,.k 0,.k 0,.z,.k 0,.k 0,.k 0,.k 0] 48),(.b 20,.cells [2,3,4,.bool 5,6,.str 7,.str 8,9,10,.s 11,.s 15] 54),(11,14),(15,18)],lk:=[]})]} Tryz.f28 [.ptr 0 0,.agg [2,3,4,.bool 5,6,.str 7,.str 8,9,10,.s 11,.s 15],19] [(.b 0,1),(11,14),(15,18)] 20=tA:=by kernel_rfl
def Zb:T:=
(.new
(.ld 3 20 (.ptr 0 9) [(.b 0,1)] [.i] 20
(.ld 3 24 (.ptr 0 9) [(.b 0,1)] [.i] 21
(.rg (.add 21 (.i 1))
(.op (.store 3 (.tmp 28) (.tmp 26)) 0 [(28,.ptr 0 9),(26,.w (.a (.int .i64 (.add 21 (.i 1)))))] [(.b 0,1)] [.p] (.au []) [(.b 0,22)]
(.call 28 [.ptr 0 0,.agg [2,3,4,.bool 5,6,.str 7,.str 8,9,10,.s 11,.s 15],20] [(.b 0,22),(11,14),(15,18)] [.i,.i,.i,.c,.i,.i,.i,.i,.a,.n,.n,.p,.i,.i,.a,.n,.n,.p,.i,.i,.i,.i,.c,.i,.p,.p,.p] (.au [.agg [23,24,25,.bool 26,27,28,29,30,.s 31,35,36,.s 37,41,42,43,44],.bool 45,46]) [(31,34),(37,40),(.b 0,47),(11,48),(15,49)]
(.new
(.ld 70 39 (.ptr 0 5) [(.b 0,47)] [.a,.n,.n] (.s 51)
(.loop [.i,.p] [.z (.i 0),.p [(.b 0,47)]]
(.br (.lt 54 (.of 52))
(.need (.le (.i 0) 54)
(.need (.is 51)
  (.ld 37 44 (.aW 51 54 1 0) [(.b 0,55)] [.v] (.val 56)
(.call 29 [.val 56] [(.b 0,55)] [.a,.n,.n,.p,.p] (.s 57) [(57,60),(.b 0,61)]
(.loop [.i,.p,.p] [.z (.i 0),.p [(57,60)],.p [(.b 0,61)]]
(.br (.lt 62 (.of 58))
(.need (.le (.i 0) 62)
(.need (.is 57)
  (.ld 48 51 (.aW 57 62 16 0) [(57,63)] [.i,.i,.i,.c,.i,.i,.i,.i,.a,.n,.n,.i,.i,.a,.n,.n,.i,.i,.i,.i] (.agg [65,66,67,.bool 68,69,70,71,72,.s 73,76,77,.s 78,81,82,83,84])
(.new
  (.ld 66 55 (.ptr 0 8) [(.b 0,64)] [.v] (.val 86)
(.call 30 [.val 86,.agg [65,66,67,.bool 68,69,70,71,72,.s 73,76,77,.s 78,81,82,83,84]] [(.b 0,64),(57,63)] [.i,.p,.p] 87 [(.b 0,88),(57,89)]
  (.rg (.add 62 (.i 1))
(.again 0 [.z (.add 62 (.i 1)),.p [(57,89)],.p [(.b 0,88)]]))))))))
  (.rg (.add 54 (.i 1))
(.again 1 [.z (.add 54 (.i 1)),.p [(.b 0,64)]]))))))))
(.br 45
  (.ld 66 64 (.ptr 0 8) [(.b 0,55)] [.v] (.val 56)
(.call 30 [.val 56,.agg [23,24,25,.bool 26,27,28,29,30,.s 31,35,36,.s 37,41,42,43,44]] [(.b 0,55),(31,34),(37,40)] [.i,.p,.p,.p] 57 [(.b 0,58),(31,59),(37,60)]
  (.ld 70 70 (.ptr 0 5) [(.b 0,58)] [.a,.n,.n] (.s 61)
(.loop [.i,.p] [.z (.i 0),.p [(.b 0,58)]]
(.br (.lt 64 (.of 62))
(.need (.le (.i 0) 64)
(.need (.is 61)
  (.ld 37 75 (.aW 61 64 1 0) [(.b 0,65)] [.v] (.val 66)
(.call 31 [.val 66] [(.b 0,65)] [.i,.i,.i,.i,.i,.i,.i,.a,.n,.n,.p,.a,.n,.n,.p,.c,.p] (.au [.agg [67,68,69],.agg [70,71,72,73,.s 74,.s 78],.bool 82]) [(74,77),(78,81),(.b 0,83)]
(.new
(.new
(.br 82
(.call 32 [.ptr 0 0,.agg [67,68,69],.agg [70,71,72,73,.s 74,.s 78],20] [(.b 0,83),(74,77),(78,81)] [.p,.p,.p] (.au []) [(.b 0,86),(74,87),(78,88)]
  (.rg (.add 64 (.i 1))
(.again 0 [.z (.add 64 (.i 1)),.p [(.b 0,86)]])))
  (.rg (.add 64 (.i 1))
(.again 0 [.z (.add 64 (.i 1)),.p [(.b 0,83)]])))))))))
(.ret 46 [(.b 0,65),(11,48),(15,49)]))))))
  (.ld 70 70 (.ptr 0 5) [(.b 0,55)] [.a,.n,.n] (.s 56)
(.loop [.i,.p] [.z (.i 0),.p [(.b 0,55)]]
(.br (.lt 59 (.of 57))
(.need (.le (.i 0) 59)
(.need (.is 56)
  (.ld 37 75 (.aW 56 59 1 0) [(.b 0,60)] [.v] (.val 61)
(.call 31 [.val 61] [(.b 0,60)] [.i,.i,.i,.i,.i,.i,.i,.a,.n,.n,.p,.a,.n,.n,.p,.c,.p] (.au [.agg [62,63,64],.agg [65,66,67,68,.s 69,.s 73],.bool 77]) [(69,72),(73,76),(.b 0,78)]
(.new
(.new
(.br 77
(.call 32 [.ptr 0 0,.agg [62,63,64],.agg [65,66,67,68,.s 69,.s 73],20] [(.b 0,78),(69,72),(73,76)] [.p,.p,.p] (.au []) [(.b 0,81),(69,82),(73,83)]
  (.rg (.add 59 (.i 1))
(.again 0 [.z (.add 59 (.i 1)),.p [(.b 0,81)]])))
  (.rg (.add 59 (.i 1))
(.again 0 [.z (.add 59 (.i 1)),.p [(.b 0,78)]])))))))))
(.ret 46 [(.b 0,60),(11,48),(15,49)])))))))))))))))
theorem Vs:tree Tryz.prog {fx:=fU,hv:=[(0,[.b 0]),(2,[.a 57,.b 0]),(4,[.b 0])],aB:=fV,iB:=[(10,0),(11,0)],bz:=true,cx:=true,cf:=fW} Tryz.f13 [.ptr 0 0,.agg [2,3,4,.bool 5,6,.str 7,.str 8,9,10,.s 11,.s 15]] [(.b 0,1),(11,14),(15,18)] 19=Zb:=by kernel_rfl
def ut:T:=
(.new
(.new
(.new
(.ld 71 12 (.ptr 0 11) [(.b 0,1)] [.a,.n,.n] (.s 21)
(.call 50 [.s 21,.a (.func 51 [(18,0),(19,0)])] [(.b 0,1),(.b 18,.cells [.ptr 0 0] 23),(.b 19,.cells [2,3,4] 56)] [.i] 24 [(.b 0,1),(.b 18,.cells [.ptr 0 0] 23),(.b 19,.cells [2,3,4] 56)]
(.br (.lt 24 (.i 0))
(.ret (.au []) [(.b 0,1),(9,12),(13,16)])
 (.ld 35 20 (.ptr 0 10) [(.b 0,1)] [.a,.n,.n] (.s 25)
 (.ld 71 24 (.ptr 0 11) [(.b 0,1)] [.a,.n,.n] (.s 28)
(.need (.le (.i 0) 24)
(.need (.lt 24 (.of 29))
(.need (.is 28)
 (.ld 3 27 (.aW 28 24 1 0) [(.b 0,1)] [.i] 31
(.need (.le (.i 0) 31)
(.need (.lt 31 (.of 26))
(.need (.is 25)
(.op (.store 3 (.tmp 35) (.tmp 32)) 0 [(35,.aW 25 31 17 10),(32,17)] [(.b 0,1)] [.p] (.au []) [(.b 0,32)]
(.op (.store 59 (.tmp 37) (.tmp 33)) 0 [(37,.aW 25 31 17 11),(33,.agg [5,6,7,8,.s 9,.s 13])] [(.b 0,32),(9,12),(13,16)] [.p] (.au []) [(.b 0,33),(9,12),(13,16)]
 (.ld 71 41 (.ptr 0 11) [(.b 0,33)] [.a,.n,.n] (.s 34)
 (.rg (.add 24 (.i 1))
(.call 52 [.s 34,24,.a (.int .i64 (.add 24 (.i 1)))] [(.b 0,33)] [.a,.n,.n,.p,.p] (.s 37) [(37,40),(.b 0,41)]
(.op (.store 71 (.tmp 48) (.tmp 46)) 0 [(48,.ptr 0 11),(46,.s 37)] [(.b 0,41),(37,40)] [.p] (.au []) [(.b 0,42)]
(.ret (.au []) [(.b 0,42),(9,12),(13,16)]))))))))))))))))))))))
theorem xG:tree Tryz.prog {fx:=fU,aB:=fV,iB:=[(10,0),(11,0)],bz:=true,cx:=true,cf:=fW} Tryz.f32 [.ptr 0 0,.agg [2,3,4],.agg [5,6,7,8,.s 9,.s 13],17] [(.b 0,1),(9,12),(13,16)] 18=ut:=by kernel_rfl
def Hk:T:=
(.ld 35 7 (.ptr 0 10) [(.b 0,1)] [.a,.n,.n] (.s 2)
(.call 22 [.s 2] [(.b 0,1)] [.a,.n,.n,.p,.p] (.s 5) [(5,8),(.b 0,9)]
(.loop [.i,.p] [.z (.i 0),.p [(5,8)]]
(.br (.lt 10 (.of 6))
(.need (.le (.i 0) 10)
(.need (.is 5)
  (.ld 52 20 (.aW 5 10 17 3) [(5,11)] [.i,.s,.s,.i,.i,.a,.n,.n] (.agg [12,.str 13,.str 14,15,16,.s 17])
(.call 23 [.agg [12,.str 13,.str 14,15,16,.s 17]] [(5,11)] [.i,.s,.s,.i,.i,.a,.n,.n,.p] (.agg [20,.str 21,.str 22,23,24,.s 25]) [(25,28),(5,11)]
(.op (.store 52 (.tmp 24) (.tmp 22)) 0 [(24,.aW 5 10 17 3),(22,.agg [20,.str 21,.str 22,23,24,.s 25])] [(5,11),(25,28)] [.p] (.au []) [(5,29),(25,28)]
  (.ld 42 31 (.aW 5 10 17 15) [(5,29)] [.a,.n,.n] (.s 30)
(.call 24 [.s 30] [(5,29)] [.a,.n,.n,.p] (.s 33) [(33,36),(5,29)]
(.op (.store 42 (.tmp 36) (.tmp 33)) 0 [(36,.aW 5 10 17 15),(33,.s 33)] [(5,29),(33,36)] [.p] (.au []) [(5,37)]
  (.ld 57 43 (.aW 5 10 17 16) [(5,37)] [.a,.n,.n] (.s 38)
(.call 25 [.s 38] [(5,37)] [.a,.n,.n,.p] (.s 41) [(41,44),(5,37)]
(.op (.store 57 (.tmp 48) (.tmp 45)) 0 [(48,.aW 5 10 17 16),(45,.s 41)] [(5,37),(41,44)] [.p] (.au []) [(5,45)]
  (.rg (.add 10 (.i 1))
(.again 0 [.z (.add 10 (.i 1)),.p [(5,45)]])))))))))))))
(.ret (.s 5) [(.b 0,9),(5,11)])))))
theorem Hl:tree Tryz.prog {fx:=fU,hv:=[(0,[.a 5])],aB:=fV,iB:=[(10,0),(11,0)],bz:=true,cx:=true,cf:=fW} Tryz.f9 [.ptr 0 0] [(.b 0,1)] 2=Hk:=by kernel_rfl
def r7:T:=
(.ld 35 7 (.ptr 2 10) [(.b 2,3)] [.a,.n,.n] (.s 8)
(.need (.le (.i 0) 0)
(.need (.lt 0 (.of 9))
(.need (.is 8)
(.ld 56 11 (.aW 8 0 17 0) [(.b 2,3)] [.i,.i,.i] (.agg [11,12,13])
(.read (.binOp .eql 56 (.tmp 12) (.tmp 13) 56) 4 [(12,.agg [11,12,13]),(13,.agg [5,6,7])] [] [.c] (.bool 14)
(.ret (.bool 14) [(.b 1,.cells [.ptr 2 0] 23),(.b 2,3),(.b 4,.cells [5,6,7] 56)])))))))
theorem uR:tree Tryz.prog {fx:=fU,aB:=fV,iB:=[(10,0),(11,0)],bz:=true,cx:=true,cf:=fW} Tryz.f51 [0,.ptr 1 0,.ptr 4 0] [(.b 1,.cells [.ptr 2 0] 23),(.b 2,3),(.b 4,.cells [5,6,7] 56)] 8=r7:=by kernel_rfl
def Vt:T:=
(.read (.slice 71 (.tmp 8) (some (.tmp 9)) (some (.tmp 10)) (some (.tmp 12))) 71 [(8,.s 0),(9,4),(10,5),(12,.w (.a (.int .i64 (.of 1))))] [(0,3)] [.a,.n,.n] (.s 6)
(.br (.eq 4 5)
(.ret (.s 0) [(0,3)])
(.read (.slice 71 (.tmp 20) none (some (.tmp 21)) none) 71 [(20,.s 0),(21,4)] [(0,3)] [.a,.n,.n] (.s 9)
(.read (.slice 71 (.tmp 23) (some (.tmp 24)) none none) 71 [(23,.s 0),(24,5)] [(0,3)] [.a,.n,.n] (.s 12)
(.op (.call ⟨.builtin .append,#[.tmp 22,.tmp 25],#[71,71]⟩) 71 [(22,.s 9),(25,.s 12)] [(0,3)] [.a,.n,.n,.p,.p] (.s 15) [(15,18),(0,19)]
(.read (.slice 71 (.tmp 27) (some (.tmp 29)) (some (.tmp 30)) none) 71 [(27,.s 15),(29,.w (.a (.int .i64 (.of 16)))),(30,.w (.a (.int .i64 (.of 1))))] [(15,18)] [.a,.n,.n] (.s 20)
(.op (.call ⟨.builtin .clear,#[.tmp 31],#[71]⟩) 0 [(31,.s 20)] [(15,18)] [.p] (.au []) [(15,23)]
(.ret (.s 15) [(0,19),(15,23)]))))))))
theorem QC:tree Tryz.prog {bz:=true,cx:=true} Tryz.f52 [.s 0,4,5] [(0,3)] 6=Vt:=by kernel_rfl
def uu:T:=
(.new
(.new
(.call 24 [.s 5] [(5,8)] [.a,.n,.n,.p] (.s 11) [(11,14),(5,8)]
(.ret (.agg [0,.str 1,.str 2,3,4,.s 11]) [(5,8),(11,14)]))))
theorem xH:tree Tryz.prog {fx:=fU,aB:=fV,iB:=[(10,0),(11,0)],bz:=true,cx:=true,cf:=fW} Tryz.f23 [.agg [0,.str 1,.str 2,3,4,.s 5]] [(5,8)] 9=uu:=by kernel_rfl
end RX
end Go.Proofs.YtbkifafpjnjaiaaGreatDoor
