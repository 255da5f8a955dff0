/- Texts of this claim, joined. No condition. -/
import Derived.Test.YtdieogcemmnaaaaGreatDoorJRJ1
import Derived.Test.YtdieogcemmnaaaaGreatDoorJRJ4
import Derived.Test.YtdieogcemmnaaaaGreatDoorJRJ5
import Derived.KernelRfl
set_option linter.unusedSimpArgs false
set_option linter.unusedVariables false
namespace Go.Proofs.YtdieogcemmnaaaaGreatDoor
set_option linter.unusedSimpArgs false
set_option linter.unusedVariables false
open Go.Proofs.YtdieogcemmnaaaaGreatDoor RX
set_option maxRecDepth 100000
theorem append_any {t e:TypeId} {i:TypeInfo} {z:Value} (ht:Tryz.prog.underlying t=some (.slice e)) (hi:Tryz.prog.info? e=some i) (hz:i.zero=some z) (hzs:z.cells.size=i.size) (hsz:0 < i.size)
  (a:Option Addr) (n c:Nat) (xs:List Value) (S:HP) (b:Option Addr) (m c2:Nat) (news:List Value) (hr:RdL S b m news) (hl:news.length=m * i.size) (hb0:m ≠ 0 → b.isSome=true) (h1 : ∀ u ∈ news,u.oneCell'=true)
  (h63:n + m ≤ maxLen) (hb:(n + m) * i.bytes ≤ 140737488355328) :
  OTri Tryz.prog (appS t t (.slice a n c) (.slice b m c2)) (HP.sep (OwC e i.size a n c xs) S)
   (fun v=>HP.ex fun a'=>HP.ex fun c'=>HP.and (v = .slice a' (n + m) c') (HP.sep (OwC e i.size a' (n + m) c' (xs ++ news)) S)):=by
 cases b with
 | some ad=>exact append_ok t t e i z ht hi hz hzs hsz a n c xs S ad m c2 news hr.rd hl h1 h63 hb
 | none =>
  have hm0:m=0:=Classical.byContradiction fun h=>by have:=hb0 h; cases this
  subst hm0
  obtain rfl:news=[]:=List.eq_nil_of_length_eq_zero (by rw [hl]; omega)
  rintro w R h F s ⟨x1,x2,d,l1,l2,H,hS⟩
  have H0:=H
  obtain ⟨hxl,hx⟩:=H
  have hnc:n ≤ c:=by
   rcases hx with ⟨_,rfl,rfl⟩ | ⟨g,cur,_,_,hnc,_⟩
   ·exact Nat.le_refl _
   ·exact hnc
  refine ⟨.value (.slice a n c),_,w,?_,rfl,Same.refl w,R,h,PH.le.refl _,s,a,c,rfl,x1,x2,d,l1,l2,by rw [List.append_nil]; exact H0,hS⟩
  cases a <;> simp [appS,Builtin.append_,run_underlying ht,sizeOf,typeInfo,hi,Builtin.lenOf,Builtin.firstCells,hnc,storeCells]
abbrev OwEr (a:Option Addr) (n c:Nat) (l:List (Nm × Nat)):HP:=OwC 140 2 a n c (l.flatMap entV)
theorem entV_one : ∀ (l:List (Nm × Nat)),∀ u ∈ l.flatMap entV,u.oneCell'=true:=fun l u hu=>by
 obtain ⟨e,_,he⟩:=List.mem_flatMap.1 hu
 simp only [entV,List.mem_cons,List.not_mem_nil,or_false] at he
 rcases he with rfl | rfl <;> rfl
theorem entV_len (l:List (Nm × Nat)):(l.flatMap entV).length=l.length * 2:=flat_lenL entV 2 (fun _=>rfl) l
theorem appEr {a:Option Addr} {n c:Nat} {l:List (Nm × Nat)} {S:HP} {b:Option Addr} {m c2:Nat} {q:List (Nm × Nat)} (hr:RdL S b m (q.flatMap entV)) (hm:q.length=m) (hb0:m ≠ 0 → b.isSome=true) (hb:n + m ≤ 1000000000) {P:HP} (hP:HP.ent P (OwEr a n c l)) {C:Value → HP}
  (post : ∀ a' c' R h,(HP.sep (OwEr a' (n + m) c' (l ++ q)) S).p R h → (C (.slice a' (n + m) c')).p R h) :
  OTri Tryz.prog (appS 41 41 (.slice a n c) (.slice b m c2)) (HP.sep P S) C:=by
 obtain ⟨i,z,hi,h1,h2,h3,h4⟩:=info_pz infoEnt
 have:=append_any undEs hi h1 (by rw [h2,h3]) (by omega) a n c (l.flatMap entV) S b m c2 (q.flatMap entV) hr (by rw [entV_len,hm,h3]) hb0 (entV_one q) (by unfold maxLen; omega) (by rw [h4]; omega)
 rw [h3] at this
 refine OTri.pre3 (this.weak (fun _ _ h=>h) ?_) (HP.ent.sep hP _)
 rintro v R h ⟨a',c',rfl,H⟩
 refine post a' c' R h ?_
 show (HP.sep (OwC 140 2 a' (n + m) c' ((l ++ q).flatMap entV)) S).p R h
 rw [List.flatMap_append]
 exact H
theorem oneE (q:Nat) (x:Nm × Nat):RdL (HP.one q (.cells #[sE x.1,.int .i64 x.2] 140 (0,0))) (some ⟨q,0,none⟩) 1 (([x]:List (Nm × Nat)).flatMap entV) :=
 ⟨one_rd q #[sE x.1,.int .i64 x.2] 140,fun _ _ _ e=>by cases e⟩
theorem shareEr (a:Option Addr) (n c:Nat) (l:List (Nm × Nat)):HP.ent (OwEr a n c l) (Ls kEnt a n l):=fun R h d H=>by
 have hn:=OwC.len H
 rw [entV_len] at hn
 obtain ⟨R1,h1,q1,q2,q3,q4,H1⟩:=OwC.share _ _ _ _ _ _ R h d H
 exact ⟨R1,h1,q1,q2,q3,q4,by omega,H1,fun _ _=>trivial⟩
theorem emptyE (q:Nat) {R h:PH} (H:(HP.one q (.cells #[] 140 (0,0))).p R h):(OwEr (some ⟨q,0,none⟩) 0 0 []).p R h:=⟨by simp,.inr ⟨q,#[],rfl,H,Nat.le_refl _,by unfold maxLen; omega,by simp,by simp⟩⟩
theorem infoES : ∃ i,Tryz.prog.info? 41=some i ∧ i.size=1:=by
 obtain ⟨i,hi⟩:=Option.isSome_iff_exists.1 (show (Tryz.prog.info? 41).isSome=true by kernel_rfl)
 have:(Tryz.prog.info? 41).map (·.size)=some 1:=by kernel_rfl
 rw [hi] at this
 exact ⟨i,hi,Option.some.inj this⟩
theorem infoBS : ∃ i,Tryz.prog.info? 28=some i ∧ i.size=1:=by
 obtain ⟨i,hi⟩:=Option.isSome_iff_exists.1 (show (Tryz.prog.info? 28).isSome=true by kernel_rfl)
 have:(Tryz.prog.info? 28).map (·.size)=some 1:=by kernel_rfl
 rw [hi] at this
 exact ⟨i,hi,Option.some.inj this⟩
theorem infoND : ∃ i,Tryz.prog.info? 43=some i ∧ i.size=5:=by
 obtain ⟨i,z,hi,h1,h2,h3,h4⟩:=info_pz infoNd
 exact ⟨i,hi,h3⟩
def withE (x:NodeE) (l:List (Nm × Nat)) (a:Option Addr) (c:Nat):NodeE:={ x with nd:={ x.nd with ents:=l },ea:=a,ec:=c }
theorem storeE {b i:Nat} {g:Nat → NodeE} (hi:i < 64) {a:Option Addr} {n c:Nat} {l:List (Nm × Nat)} {C:Value → HP} {P:HP} (hP:HP.ent P (OwEr a n c l))
  (post : ∀ R h,(RT b (upd g i (withE (g i) l a c))).p R h → (C (.tuple #[])).p R h) :
  OTri Tryz.prog (storeS 41 (.pointer (some ⟨b,i * 5 + 4,none⟩)) (.slice a n c)) (HP.sep (RT b g) P) C:=by
 obtain ⟨ti,hti,hz⟩:=infoES
 refine OTri.pre3 (A:=HP.sep (RT b g) (OwEr a n c l)) ?_ (HP.ent2 (.of fun _ _ h=>h) hP)
 refine OTri.fact (φ:=n ≤ c ∧ l.length=n) (fun R h H=>⟨OwC.le (HP.sep_right H),by have:=OwC.len (HP.sep_right H); rw [entV_len] at this; omega⟩) fun ⟨hnc,hln⟩ => ?_
 subst hln
 refine OTri.pre3 (A:=HP.sep (RT b g) (Ls kEnt a l.length l)) ?_ (HP.ent2 (.of fun _ _ h=>h) (shareEr _ _ _ _))
 refine (rtStore hti hi (off:=4) (v := .slice a l.length c) (vs:=[.slice a l.length c]) rfl hz (by simp) (by simp [Value.oneCell']) (withE (g i) l a c) (by simp) rfl (Q:=Ls kEnt a l.length l) fun R h H=>⟨⟨((HP.sep_left H).2 i hi).1.1,HP.sep_right H⟩,hnc⟩).weak (fun _ _ h=>h) ?_
 rintro v R h ⟨rfl,H⟩
 exact post R h H
theorem storeInt {b i off:Nat} {g:Nat → NodeE} (hi:i < 64) (ho:off=1 ∨ off=2) {v:Int} {C:Value → HP}
  (post : ∀ R h,(RT b (upd g i { g i with nd:=if off=1 then { (g i).nd with kind:=v } else { (g i).nd with links:=v } })).p R h → (C (.tuple #[])).p R h) :
  OTri Tryz.prog (storeS 3 (.pointer (some ⟨b,i * 5 + off,none⟩)) (.int .i64 v)) (RT b g) C:=by
 obtain ⟨ti,hti,hz⟩:=infoInt'
 refine OTri.pre3 (A:=HP.sep (RT b g) HP.tt) ?_ (.of fun _ _ h=>HP.sep_tt h)
 refine (rtStore hti hi (off:=off) (v := .int .i64 v) (vs:=[.int .i64 v]) rfl hz (by simp) (by simp [Value.oneCell']) { g i with nd:=if off=1 then { (g i).nd with kind:=v } else { (g i).nd with links:=v } } (by rcases ho with rfl | rfl <;> simp) (by rcases ho with rfl | rfl <;> rfl) (Q:=HP.tt) fun R h H => ?_).weak (fun _ _ h=>h) ?_
 ·have:=(HP.sep_left H).2 i hi
  rcases ho with rfl | rfl <;> exact this
 ·rintro v R h ⟨rfl,H⟩
  exact post R h H
theorem storeNd {b i:Nat} {g:Nat → NodeE} (hi:i < 64) (m k lks:Int) (mn:Nat) (hm:m=mn) {C:Value → HP}
  (post : ∀ R h,(RT b (upd g i ⟨⟨mn,k,lks,[],[]⟩,none,0,none,0⟩)).p R h → (C (.tuple #[])).p R h) :
  OTri Tryz.prog (storeS 43 (.pointer (some ⟨b,i * 5,none⟩)) (.agg #[.int .i64 m,.int .i64 k,.int .i64 lks,.slice none 0 0,.slice none 0 0])) (RT b g) C:=by
 obtain ⟨ti,hti,hz⟩:=infoND
 subst hm
 refine OTri.pre3 (A:=HP.sep (RT b g) HP.tt) ?_ (.of fun _ _ h=>HP.sep_tt h)
 have:=rtStore (b:=b) (g:=g) hti hi (off:=0) (v := .agg #[.int .i64 (mn:Int),.int .i64 k,.int .i64 lks,.slice none 0 0,.slice none 0 0]) (vs:=nodeVs ⟨⟨mn,k,lks,[],[]⟩,none,0,none,0⟩) rfl (by rw [hz]; rfl) (by rw [nodeVs_len]; omega) (fun u hu=>kNodeP.one _ u hu) ⟨⟨mn,k,lks,[],[]⟩,none,0,none,0⟩ (by rw [nodeVs_len]; omega) (by simp [nodeVs]) (Q:=HP.tt) fun R h H=>⟨⟨RoC.nil _ _ _ _,rfl,RoC.nil _ _ _ _,fun x hx=>by cases hx⟩,Nat.le_refl _⟩
 refine this.weak (fun _ _ h=>h) ?_
 rintro v R h ⟨rfl,H⟩
 exact post R h H
theorem shareB (a:Option Addr) (n c:Nat) (l:List UInt8):HP.ent (OwB a n c l) (RoB a n l):=OwC.share _ _ _ _ _ _
def withD (x:NodeE) (l:List UInt8) (a:Option Addr) (c:Nat):NodeE:={ x with nd:={ x.nd with data:=l },da:=a,dc:=c }
theorem storeD {b i:Nat} {g:Nat → NodeE} (hi:i < 64) {a:Option Addr} {n c:Nat} {l:List UInt8} (hl:l.length=n) {C:Value → HP} {P:HP} (hP:HP.ent P (OwB a n c l))
  (post : ∀ R h,(RT b (upd g i (withD (g i) l a c))).p R h → (C (.tuple #[])).p R h) :
  OTri Tryz.prog (storeS 28 (.pointer (some ⟨b,i * 5 + 3,none⟩)) (.slice a n c)) (HP.sep (RT b g) P) C:=by
 obtain ⟨ti,hti,hz⟩:=infoBS
 subst hl
 refine OTri.pre3 (A:=HP.sep (RT b g) (RoB a l.length l)) ?_ (HP.ent2 (.of fun _ _ h=>h) (hP.trans (shareB _ _ _ _)))
 refine (rtStore hti hi (off:=3) (v := .slice a l.length c) (vs:=[.slice a l.length c]) rfl hz (by simp) (by simp [Value.oneCell']) (withD (g i) l a c) (by simp) rfl (Q:=RoB a l.length l) fun R h H=>⟨⟨HP.sep_right H,((HP.sep_left H).2 i hi).1.2⟩,((HP.sep_left H).2 i hi).2⟩).weak (fun _ _ h=>h) ?_
 rintro v R h ⟨rfl,H⟩
 exact post R h H
theorem putE_split {nm:Nm} {k:Nat} : ∀ {l:List (Nm × Nat)} {i:Nat},i ≤ l.length → (∀ j e,j < i → l[j]? = some e → e.1 < nm) → (∀ e,l[i]? = some e → ¬ e.1 < nm) → putE nm k l=l.take i ++ [(nm,k)] ++ l.drop i
 | [],i,h,_,_=>by
  obtain rfl:i=0:=by simpa using h
  rfl
 | y :: r,0,_,_,h=>by
  have:=h y rfl
  simp [putE,this]
 | y :: r,i + 1,hi,h1,h2=>by
  have hy:=h1 0 y (by omega) rfl
  have ih:=putE_split (nm:=nm) (k:=k) (l:=r) (i:=i) (by simpa using hi) (fun j e hj he=>h1 (j + 1) e (by omega) (by simpa using he)) (fun e he=>h2 e (by simpa using he))
  simp [putE,hy,ih]
theorem slt_iff {x y:Nm}:(Op.bytesLess x y=true) ↔ x < y:=by rw [bytesLess_eq]; simp
set_option maxHeartbeats 2000000 in
theorem rPut_ok {b:Nat} {g:Nat → NodeE} {i:Nat} (hi:i < 64) (nm:Nm) (k:Nat) (hl:(g i).nd.ents.length ≤ 100000):Tri Tryz.prog 140 #[.pointer (some ⟨b,0,none⟩),.int .i64 i,sE nm,.int .i64 k] (RT b g)
  (fun v=>HP.ex fun a=>HP.ex fun c=>HP.and (v = .tuple #[]) (RT b (upd g i (withE (g i) (putE nm k (g i).nd.ents) a c)))):=by
 refine Tri.fact (φ:=((g i).nd.ents.length ≠ 0 → (g i).ea.isSome=true) ∧ (g i).nd.ents.length ≤ (g i).ec) (fun R h H=>⟨RT.ea H i hi,(H.2 i hi).2⟩) fun ⟨hea,hcap⟩ => ?_
 refine tri_of_tree (ρ:=[.n b,.p (RT b g),.i i,.s nm,.i k]) mixed Tryz.func140 tree_rPut ?_
 unfold t_rPut
 simp only [T.den,E.prop,E.den,RX.look,F1.app,F2.app,Uni.int_i,Uni.nat_n,Uni.bool_c,Uni.str_s,Uni.adr_a,Uni.val_v,Uni.hp_p,hden,cden,V.den,W.den,A.den,BR.den,SA.den,FV.den,capV,exs,exP,allP,Cur.app,List.map_cons,List.map_nil,List.cons_append,List.nil_append,List.drop_succ_cons,List.drop_zero,List.length_cons,List.length_nil,Nat.zero_add,Nat.reduceAdd,Int.neg_neg,Bool.not_not,List.append_nil,Nat.add_zero,List.getElem?_cons_zero,List.getElem?_cons_succ,Decidable.not_not,semW_eq,semW_load,semW_store,semW_storeC,semW_append,ne_eq,Nat.reduceEqDiff,not_false_eq_true,semW_ix,semW_fld,semW_sllo]
 refine ⟨.pointer (some ⟨b,i * 5,none⟩),ixN rfl hi,.pointer (some ⟨b,i * 5 + 4,none⟩),fldN (by omega),(g i).ea,(g i).nd.ents.length,(g i).ec,rtEnts hi,fun q0 => ?_⟩
 refine ⟨fun a n c j P => ∃ m:Nat,j=m ∧ m ≤ (g i).nd.ents.length ∧ n=m ∧ HP.ent P (OwEr a m c ((g i).nd.ents.take m)) ∧ ∀ u e,u < m → (g i).nd.ents[u]? = some e → e.1 < nm,fun _ _ _ j _=>(g i).nd.ents.length - j.toNat,
  ⟨0,rfl,Nat.zero_le _,rfl,.of fun R h H=>emptyE q0 H,fun u e hu=>by omega⟩,?_⟩
 rintro a m c _ P ⟨_,rfl,hm,rfl,hP,hbef⟩
 -- what is done at the place
 have fin : ∀ (q:Nat),(∀ e,(g i).nd.ents[m]? = some e → ¬ e.1 < nm) → OTri Tryz.prog (appS 41 41 (.slice a m c) (.slice (some ⟨q,0,none⟩) 1 1)) (HP.sep P (HP.one q (.cells #[sE nm,.int .i64 k] 140 (0,0))))
   (fun v=>HP.ex fun a1:Option Addr=>HP.ex fun n1:Nat=>HP.ex fun c1:Nat=>HP.ex fun P1:HP=>HP.and (v = .slice a1 n1 c1) (HP.and (∃ (a2:Option Addr) (n2 c2:Nat),ORead Tryz.prog (sliceS 41 (.slice (g i).ea (g i).nd.ents.length (g i).ec) (some (.int .i64 m)) none none) (RT b g) (.slice a2 n2 c2) ∧
    OTri Tryz.prog (appS 41 41 (.slice a1 n1 c1) (.slice a2 n2 c2)) (HP.sep P1 (RT b g)) (fun v=>HP.ex fun a3:Option Addr=>HP.ex fun n3:Nat=>HP.ex fun c3:Nat=>HP.ex fun P3:HP=>HP.and (v = .slice a3 n3 c3) (HP.and (∃ x1:Value,ORead Tryz.prog (idxS 142 (.pointer (some ⟨b,0,none⟩)) (.int .i64 i)) (RT b g) (oneC x1) ∧ ∃ x2:Value,ORead Tryz.prog (fldS 43 (oneC x1) 4) (RT b g) (oneC x2) ∧
     OTri Tryz.prog (storeS 41 (oneC x2) (.slice a3 n3 c3)) (HP.sep (RT b g) P3) (fun v=>HP.ex fun P4:HP=>HP.and (v = .tuple #[]) (HP.and (HP.ent P4 (HP.ex fun a=>HP.ex fun c=>HP.and True (RT b (upd g i (withE (g i) (putE nm k (g i).nd.ents) a c))))) P4))) (HP.sep P3 (RT b g))))) (HP.sep P1 (HP.one q (.cells #[sE nm,.int .i64 k] 140 (0,0)))))):=fun q hge=>by
  refine appEr (oneE q (nm,k)) rfl (fun _=>rfl) (by omega) hP fun a1 c1 R h H => ?_
  refine ⟨a1,m + 1,c1,_,rfl,?_,H⟩
  clear H
  obtain ⟨ti,_,hti,_,_,h3,_⟩:=info_pz infoEnt
  have sl:=slice_ok undEs hti (RT b g) (g i).ea (g i).nd.ents.length (g i).ec (some m) none none (by simpa using hm) (by simpa using hcap) (Nat.le_refl _) (fun h=>by simp at h)
  simp only [iv,Option.getD_some,Option.getD_none] at sl
  refine ⟨_,_,_,sl,?_⟩
  have rd:RdL (RT b g) (if (g i).ec=m then (g i).ea else (g i).ea.map (·.add (m * szT Tryz.prog 140))) ((g i).nd.ents.length - m) (((g i).nd.ents.drop m).flatMap entV):=by
   refine ⟨fun w R h F s H j u hj => ?_,fun R h H e => ?_⟩
   ·by_cases ec:(g i).ec=m
    ·have:(g i).nd.ents.drop m=[]:=List.drop_eq_nil_of_le (by omega)
     rw [this] at hj; simp at hj
    ·rw [if_neg ec,szEnt]
     have hj':(((g i).nd.ents).flatMap entV)[m * 2 + j]? = some u:=by
      have hlt:=(List.getElem?_eq_some_iff.1 hj).1
      rw [entV_len,List.length_drop] at hlt
      have e2:j=(j / 2) * 2 + j % 2:=by omega
      obtain ⟨e,he⟩:=getN (l:=(g i).nd.ents) (k:=m + j / 2) (by omega)
      have h1:=flat_getL entV 2 (fun _=>rfl) ((g i).nd.ents.drop m) (j / 2) (j % 2) e (by rw [List.getElem?_drop]; exact he) (by omega)
      have h2:=flat_getL entV 2 (fun _=>rfl) (g i).nd.ents (m + j / 2) (j % 2) e he (by omega)
      rw [← e2] at h1
      rw [show m * 2 + j=(m + j / 2) * 2 + j % 2 by omega,h2,← h1]
      exact hj
     obtain ⟨gg,off,e1,e2⟩:=(Ls.rd (K:=kEnt) (a:=(g i).ea) (n:=(g i).nd.ents.length) (l:=(g i).nd.ents)) w R h F s (H.2 i hi).1.2 (m * 2 + j) u hj'
     refine ⟨gg,off + m * 2,?_,?_⟩
     ·rw [e1]; simp [addr_add]
     ·rw [show off + m * 2 + j=off + (m * 2 + j) by omega]; exact e2
   ·by_cases hz:(g i).nd.ents.length - m=0
    ·exact hz
    ·exfalso
     have:=RT.ea H i hi (by omega)
     by_cases ec:(g i).ec=m
     ·omega
     ·rw [if_neg ec] at e
      cases hq:(g i).ea with
      | none=>rw [hq] at this; cases this
      | some y=>rw [hq] at e; cases e
  refine appEr rd (by simp) (fun h => ?_) (by omega) (.of fun _ _ h=>h) fun a3 c3 R h H => ?_
  ·have h1:=hea (by omega)
   by_cases ec:(g i).ec=m
   ·omega
   ·rw [if_neg ec]
    cases hq:(g i).ea with
    | none=>rw [hq] at h1; cases h1
    | some y=>rfl
  refine ⟨a3,_,c3,_,rfl,⟨.pointer (some ⟨b,i * 5,none⟩),ixN rfl hi,.pointer (some ⟨b,i * 5 + 4,none⟩),fldN (by omega),?_⟩,H⟩
  clear H
  refine storeE hi (.of fun _ _ h=>h) fun R h H=>⟨_,rfl,?_,H⟩
  refine .of fun R h H=>⟨a3,c3,trivial,?_⟩
  rw [putE_split hm hbef hge]
  exact H
 refine ⟨fun hlt=>⟨by omega,fun _=>⟨hea (by omega),fun _ => ?_⟩⟩,fun hge q => ?_⟩
 ·obtain ⟨e,he⟩:=getN (l:=(g i).nd.ents) (k:=m) (by omega)
  refine ⟨e.1,rtEnt1 hi he undStr (by kernel_rfl) (by kernel_rfl) rfl,fun hs => ?_,fun hs q=>fin q fun e' he' => ?_⟩
  ·refine ⟨e.1,e.2,rtEnt hi he,fun q => ?_⟩
   refine appEr (oneE q e) rfl (fun _=>rfl) (by omega) hP fun a1 c1 R h H => ?_
   refine ⟨a1,m + 1,c1,_,rfl,⟨inI64' _ (by omega) (by omega),fun _=>⟨⟨m + 1,by omega,by omega,rfl,?_,fun u e' hu he' => ?_⟩,by dsimp only; omega⟩⟩,H⟩
   ·rw [List.take_add_one,he]
    exact .of fun _ _ h=>h
   ·rcases Nat.lt_or_eq_of_le (Nat.le_of_lt_succ hu) with h | h
    ·exact hbef u e' h he'
    ·subst h; rw [he] at he'; cases he'; exact slt_iff.1 hs
  ·rw [he] at he'; cases he'
   exact fun h=>hs (slt_iff.2 h)
 ·refine fin q fun e he => ?_
  have:=(List.getElem?_eq_some_iff.1 he).1
  omega
theorem filter_step {l:List (Nm × Nat)} {nm:Nm} {m:Nat} {e:Nm × Nat} (he:l[m]? = some e):dropE nm (l.take (m + 1))=dropE nm (l.take m) ++ (if e.1 ≠ nm then [e] else []):=by
 unfold dropE
 rw [List.take_add_one,he,List.filter_append]
 by_cases h:e.1 ≠ nm <;> simp [h]
set_option maxHeartbeats 2000000 in
theorem rDrop_ok {b:Nat} {g:Nat → NodeE} {i:Nat} (hi:i < 64) (nm:Nm) (hl:(g i).nd.ents.length ≤ 100000):Tri Tryz.prog 143 #[.pointer (some ⟨b,0,none⟩),.int .i64 i,sE nm] (RT b g)
  (fun v=>HP.ex fun a=>HP.ex fun c=>HP.and (v = .tuple #[]) (RT b (upd g i (withE (g i) (dropE nm (g i).nd.ents) a c)))):=by
 refine Tri.fact (φ:=((g i).nd.ents.length ≠ 0 → (g i).ea.isSome=true) ∧ (g i).nd.ents.length ≤ (g i).ec) (fun R h H=>⟨RT.ea H i hi,(H.2 i hi).2⟩) fun ⟨hea,hcap⟩ => ?_
 refine tri_of_tree (ρ:=[.n b,.p (RT b g),.i i,.s nm]) mixed Tryz.func143 tree_rDrop ?_
 unfold t_rDrop
 simp only [T.den,E.prop,E.den,RX.look,F1.app,F2.app,Uni.int_i,Uni.nat_n,Uni.bool_c,Uni.str_s,Uni.adr_a,Uni.val_v,Uni.hp_p,hden,cden,V.den,W.den,A.den,BR.den,SA.den,FV.den,capV,exs,exP,allP,Cur.app,List.map_cons,List.map_nil,List.cons_append,List.nil_append,List.drop_succ_cons,List.drop_zero,List.length_cons,List.length_nil,Nat.zero_add,Nat.reduceAdd,Int.neg_neg,Bool.not_not,List.append_nil,Nat.add_zero,List.getElem?_cons_zero,List.getElem?_cons_succ,Decidable.not_not,semW_eq,semW_load,semW_store,semW_storeC,semW_append,ne_eq,Nat.reduceEqDiff,not_false_eq_true,semW_ix,semW_fld,semW_sllo]
 refine ⟨.pointer (some ⟨b,i * 5,none⟩),ixN rfl hi,.pointer (some ⟨b,i * 5 + 4,none⟩),fldN (by omega),(g i).ea,(g i).nd.ents.length,(g i).ec,rtEnts hi,fun q0 => ?_⟩
 refine ⟨fun a n c j P => ∃ m:Nat,j=m ∧ m ≤ (g i).nd.ents.length ∧ n=(dropE nm ((g i).nd.ents.take m)).length ∧ HP.ent P (OwEr a n c (dropE nm ((g i).nd.ents.take m))),fun _ _ _ j _=>(g i).nd.ents.length - j.toNat,
  ⟨0,rfl,Nat.zero_le _,rfl,.of fun R h H=>emptyE q0 H⟩,?_⟩
 rintro a _ c _ P ⟨m,rfl,hm,rfl,hP⟩
 have hdl:(dropE nm ((g i).nd.ents.take m)).length ≤ m:=by
  unfold dropE
  have:=List.length_filter_le (fun y:Nm × Nat=>decide (y.1 ≠ nm)) ((g i).nd.ents.take m)
  rw [List.length_take] at this
  omega
 refine ⟨fun hlt=>⟨by omega,fun _=>⟨hea (by omega),fun _ => ?_⟩⟩,fun hge => ?_⟩
 ·obtain ⟨e,he⟩:=getN (l:=(g i).nd.ents) (k:=m) (by omega)
  have st:=filter_step (nm:=nm) he
  refine ⟨e.1,rtEnt1 hi he undStr (by kernel_rfl) (by kernel_rfl) rfl,fun hs => ?_,fun hs => ?_⟩
  ·rw [if_pos hs] at st
   refine ⟨e.1,e.2,rtEnt hi he,fun q => ?_⟩
   refine appEr (oneE q e) rfl (fun _=>rfl) (by omega) hP fun a1 c1 R h H => ?_
   refine ⟨a1,_,c1,_,rfl,⟨inI64' _ (by omega) (by omega),fun _=>⟨⟨m + 1,by omega,by omega,by rw [st]; simp,?_⟩,by dsimp only; omega⟩⟩,H⟩
   rw [st]
   exact .of fun _ _ h=>h
  ·rw [if_neg (by simpa using hs),List.append_nil] at st
   exact ⟨inI64' _ (by omega) (by omega),fun _=>⟨⟨m + 1,by omega,by omega,by rw [st],by rw [st]; exact hP⟩,by dsimp only; omega⟩⟩
 ·have hmm:(g i).nd.ents.take m=(g i).nd.ents:=List.take_of_length_le (by omega)
  rw [hmm] at hP ⊢
  refine ⟨.pointer (some ⟨b,i * 5,none⟩),ixN rfl hi,.pointer (some ⟨b,i * 5 + 4,none⟩),fldN (by omega),?_⟩
  refine storeE hi hP fun R h H=>⟨_,rfl,?_,H⟩
  exact .of fun R h H=>⟨a,c,trivial,H⟩
theorem sizeD_step (l:List UInt8) (k:Nat):sizeD l (k + 1)=sizeD l k ++ [l.getD k 0]:=by
 refine List.ext_getElem? fun i => ?_
 have get : ∀ (n i:Nat),(sizeD l n)[i]? = if i < n then some (l.getD i 0) else none:=fun n i=>by
  unfold sizeD
  rw [List.getElem?_append]
  simp only [List.length_take,List.getElem?_take,List.getElem?_replicate,List.getD_eq_getElem?_getD]
  by_cases h1:i < n
  ·by_cases h2:i < l.length
   ·rw [if_pos (by omega),if_pos h1,if_pos h1,List.getElem?_eq_getElem h2]; rfl
   ·rw [if_neg (by omega),if_pos (by omega),if_pos h1,List.getElem?_eq_none (by omega)]; rfl
  ·rw [if_neg (by omega),if_neg (by omega),if_neg h1]
 rw [get,List.getElem?_append,get,sizeD_len]
 by_cases h:i < k
 ·rw [if_pos (by omega),if_pos h,if_pos h]
 ·rw [if_neg h]
  by_cases e:i=k
  ·subst e; simp
  ·rw [if_neg (by omega),List.getElem?_eq_none (by simp; omega)]
set_option maxHeartbeats 1000000 in
theorem rSize_ok (a:Option Addr) (m c:Nat) (l:List UInt8) (S:HP) (hr:RdL S a m (l.map u8v)) (hl:l.length=m) (n:Nat) (hn:n ≤ 100000):Tri Tryz.prog 145 #[.slice a m c,.int .i64 n] S
  (fun v=>HP.ex fun a'=>HP.ex fun c'=>HP.and (v = .slice a' n c') (HP.sep (OwB a' n c' (sizeD l n)) S)):=by
 refine Tri.fact (φ:=m ≠ 0 → a.isSome=true) (fun R h H=>hr.isSome H) fun ha => ?_
 refine tri_of_tree (ρ:=[.a a,.n m,.n c,.p S,.i n]) mixed Tryz.func145 tree_rSize ?_
 unfold t_rSize
 simp only [T.den,E.prop,E.den,RX.look,F1.app,F2.app,Uni.int_i,Uni.nat_n,Uni.bool_c,Uni.str_s,Uni.adr_a,Uni.val_v,Uni.hp_p,hden,cden,V.den,W.den,A.den,BR.den,SA.den,FV.den,capV,exs,exP,allP,Cur.app,List.map_cons,List.map_nil,List.cons_append,List.nil_append,List.drop_succ_cons,List.drop_zero,List.length_cons,List.length_nil,Nat.zero_add,Nat.reduceAdd,Int.neg_neg,Bool.not_not,List.append_nil,Nat.add_zero,List.getElem?_cons_zero,List.getElem?_cons_succ,Decidable.not_not,semW_eq,semW_load,semW_append,ne_eq,Nat.reduceEqDiff,not_false_eq_true]
 intro q0
 refine ⟨fun a1 n1 c1 j P => ∃ k:Nat,j=k ∧ k ≤ n ∧ n1=k ∧ HP.ent P (OwB a1 k c1 (sizeD l k)),fun _ _ _ j _=>n - j.toNat,
  ⟨0,rfl,Nat.zero_le _,rfl,.of fun R h H=>(show (OwB (some ⟨q0,0,none⟩) 0 0 (sizeD l 0)).p R h from ⟨by simp [sizeD],.inr ⟨q0,#[],rfl,H,Nat.le_refl _,by unfold maxLen; omega,rfl,by simp [sizeD]⟩⟩)⟩,?_⟩
 rintro a1 k c1 _ P ⟨_,rfl,hk,rfl,hP⟩
 have app : ∀ (x:UInt8) (q:Nat),l.getD k 0=x → OTri Tryz.prog (appS 28 28 (.slice a1 k c1) (.slice (some ⟨q,0,none⟩) 1 1)) (HP.sep P (HP.one q (.cells #[.int .u8 x.toNat] 5 (0,0)))) (fun v=>HP.ex fun a'=>HP.ex fun c'=>HP.and (v = .slice a' (k + 1) c') (HP.sep (OwB a' (k + 1) c' (sizeD l (k + 1))) (HP.one q (.cells #[.int .u8 x.toNat] 5 (0,0))))):=fun x q hx=>by
  have ap:=append8 a1 k c1 (sizeD l k) (HP.one q (.cells #[.int .u8 x.toNat] 5 (0,0))) (some ⟨q,0,none⟩) 1 1 [x] ⟨one_rd q #[.int .u8 x.toNat] 5,fun _ _ _ e=>by cases e⟩ rfl (fun _=>rfl) (by omega)
  refine OTri.pre3 (ap.weak (fun _ _ h=>h) ?_) (HP.ent.sep hP _)
  rintro v R h ⟨a',c',rfl,H⟩
  rw [← hx,← sizeD_step] at H
  exact ⟨a',c',rfl,by rw [hx] at H; exact H⟩
 refine ⟨fun hlt=>⟨fun hlt2=>⟨by omega,fun _=>⟨ha (by omega),fun _ => ?_⟩⟩,fun hge2 q => ?_⟩,fun hge => ?_⟩
 ·obtain ⟨x,hx⟩:=getN (l:=l) (k:=k) (by omega)
  refine ⟨x.toNat,load1_ok und8b agg8 sz8 hr.rd (k:=(k:Int).toNat * 1) (off:=0) (by rw [Int.toNat_natCast,Nat.mul_one,Nat.add_zero,List.getElem?_map,hx]; rfl),fun q => ?_⟩
  refine (app x q (by rw [List.getD_eq_getElem?_getD,hx]; rfl)).weak (fun _ _ h=>h) ?_
  rintro v R h ⟨a',c',rfl,H⟩
  exact ⟨a',_,c',_,rfl,⟨inI64' _ (by omega) (by omega),fun _=>⟨⟨k + 1,by omega,by omega,rfl,.of fun _ _ h=>h⟩,by dsimp only; omega⟩⟩,H⟩
 ·refine (app 0 q (by rw [List.getD_eq_getElem?_getD,List.getElem?_eq_none (by omega)]; rfl)).weak (fun _ _ h=>h) ?_
  rintro v R h ⟨a',c',rfl,H⟩
  exact ⟨a',_,c',_,rfl,⟨inI64' _ (by omega) (by omega),fun _=>⟨⟨k + 1,by omega,by omega,rfl,.of fun _ _ h=>h⟩,by dsimp only; omega⟩⟩,H⟩
 ·obtain rfl:k=n:=by omega
  exact (HP.ent2 (.of fun _ _ h=>h) hP).trans (.of fun R h H=>⟨a1,c1,rfl,HP.sep_comm H⟩)
end Go.Proofs.YtdieogcemmnaaaaGreatDoor

namespace Go.Proofs.YtdieogcemmnaaaaGreatDoor
set_option linter.unusedSimpArgs false
set_option linter.unusedVariables false
open Go.Proofs.YtdieogcemmnaaaaGreatDoor RX
set_option maxRecDepth 100000
theorem Rp.set {g:Nat → NodeE} {T:List Nd} {a:Nat} {x:Nd} {y:NodeE} {f:Nd → Nd} (h:Rp g T) (hf : ∀ n,(f n).num=n.num) (hx:nodeAt T a=some x) (hy:y.nd=f x):Rp (upd g a y) (setP T a f):=fun i hi=>by
 unfold upd
 by_cases e:i=a
 ·subst e
  rw [if_pos rfl,hy]
  exact (ndF_some (by rw [nodeAt_set hf,if_pos rfl,hx]; rfl)).symm
 ·rw [if_neg e,h i hi]
  unfold ndF
  rw [nodeAt_set hf,if_neg e]
theorem Rp.ins {g:Nat → NodeE} {T:List Nd} {y:NodeE} (h:Rp g T) (z:Nd) (hy:y.nd=z):Rp (upd g z.num y) (insP z T):=fun i hi=>by
 unfold upd
 by_cases e:i=z.num
 ·rw [if_pos e,hy]
  exact (ndF_some (by rw [nodeAt_ins,if_pos e])).symm
 ·rw [if_neg e,h i hi]
  unfold ndF
  rw [nodeAt_ins,if_neg e]
theorem Rp.del {g:Nat → NodeE} {T:List Nd} {a:Nat} {y:NodeE} (h:Rp g T) (hy:y.nd=nd0):Rp (upd g a y) (delP T a):=fun i hi=>by
 unfold upd
 by_cases e:i=a
 ·rw [if_pos e,hy]
  exact (ndF_none (by rw [nodeAt_del,if_pos e])).symm
 ·rw [if_neg e,h i hi]
  unfold ndF
  rw [nodeAt_del,if_neg e]
theorem Rp.at' {g:Nat → NodeE} {T:List Nd} (h:Rp g T) {i:Nat} {n:Nd} (hi:i < 64) (hn:nodeAt T i=some n):(g i).nd=n:=by rw [h i hi,ndF_some hn]
theorem filter_lt {T:List Nd} (hs:(T.map (·.num)).Pairwise (· < ·)) (k:Nat):T.filter (fun n=>decide (n.num < k + 1))=T.filter (fun n=>decide (n.num < k)) ++ T.filter (fun n=>decide (n.num=k)):=by
 induction T with
 | nil=>rfl
 | cons z r ih =>
  rw [List.map_cons,List.pairwise_cons] at hs
  have ih:=ih hs.2
  rw [List.filter_cons,List.filter_cons,List.filter_cons]
  have hz : ∀ n ∈ r,z.num < n.num:=fun n hn=>hs.1 _ (List.mem_map.2 ⟨n,hn,rfl⟩)
  by_cases h1:z.num < k
  ·have : ¬ z.num=k:=by omega
   simp [h1,this,ih,show z.num < k + 1 by omega]
  ·by_cases h2:z.num=k
   ·have e1:r.filter (fun n=>decide (n.num < k))=[]:=List.filter_eq_nil_iff.2 fun n hn=>by have:=hz n hn; simp; omega
    simp only [h2,show k < k + 1 by omega,decide_true,if_true,show ¬ k < k by omega,decide_false,Bool.false_eq_true,if_false]
    rw [ih,e1]; simp
   ·have e1:r.filter (fun n=>decide (n.num < k))=[]:=List.filter_eq_nil_iff.2 fun n hn=>by have:=hz n hn; simp; omega
    have e2:r.filter (fun n=>decide (n.num=k))=[]:=List.filter_eq_nil_iff.2 fun n hn=>by have:=hz n hn; simp; omega
    have e3 : ¬ z.num < k + 1:=by omega
    simp only [h1,h2,e3,decide_false,Bool.false_eq_true,if_false]
    rw [ih,e1,e2]
theorem filter_eq {T:List Nd} (hn:(T.map (·.num)).Nodup) (k:Nat):T.filter (fun n=>decide (n.num=k))=(nodeAt T k).toList:=by
 induction T with
 | nil=>rfl
 | cons z r ih =>
  rw [List.map_cons,List.nodup_cons] at hn
  have ih:=ih hn.2
  unfold nodeAt at ih ⊢
  rw [List.filter_cons,List.find?_cons]
  by_cases h:z.num=k
  ·have e:r.filter (fun n=>decide (n.num=k))=[]:=List.filter_eq_nil_iff.2 fun n hm=>by
    simp only [decide_eq_true_eq]
    intro e
    exact hn.1 (List.mem_map.2 ⟨n,hm,e.trans h.symm⟩)
   simp [h,e]
  ·simp [h,ih]
theorem filterMap_step (f:Nat → Option Nd) (k:Nat):(List.range (k + 1)).filterMap f=(List.range k).filterMap f ++ (f k).toList:=by
 rw [List.range_succ,List.filterMap_append]
 cases h:f k <;> simp [h]
theorem all_nodes {B:Nat} {T:List Nd} (wf:TWf B T):(List.range 64).filterMap (nodeAt T)=T:=by
 have : ∀ k,(List.range k).filterMap (nodeAt T)=T.filter fun n=>decide (n.num < k):=fun k=>by
  induction k with
  | zero=>simp
  | succ k ih=>rw [filterMap_step,ih,filter_lt wf.sorted,filter_eq wf.nd]
 rw [this 64,List.filter_eq_self]
 intro n hn
 simpa using (wf.good n hn).num
set_option maxHeartbeats 2000000 in
theorem rAll_ok {b B:Nat} {g:Nat → NodeE} {NS:List Nd} (wf:TWf B NS) (hg:Rp g NS):Tri Tryz.prog 24 #[.pointer (some ⟨b,0,none⟩)] (RT b g)
  (fun v=>HP.ex fun a=>HP.ex fun c=>HP.ex fun es:List NodeE=>HP.and (v = .slice a NS.length c ∧ es.map (·.nd)=NS) (HP.sep (Ls kNode a NS.length es) (RT b g))):=by
 refine tri_of_tree (ρ:=[.n b,.p (RT b g)]) mixed Tryz.func24 tree_rAll ?_
 unfold t_rAll
 simp only [T.den,E.prop,E.den,RX.look,F1.app,F2.app,Uni.int_i,Uni.nat_n,Uni.bool_c,Uni.str_s,Uni.adr_a,Uni.val_v,Uni.hp_p,hden,cden,V.den,W.den,A.den,BR.den,SA.den,FV.den,capV,exs,exP,allP,Cur.app,List.map_cons,List.map_nil,List.cons_append,List.nil_append,List.drop_succ_cons,List.drop_zero,List.length_cons,List.length_nil,Nat.zero_add,Nat.reduceAdd,Int.neg_neg,Bool.not_not,List.append_nil,Nat.add_zero,List.getElem?_cons_zero,List.getElem?_cons_succ,Decidable.not_not,semW_eq,semW_load,semW_append,ne_eq,Nat.reduceEqDiff,not_false_eq_true,semW_ix,semW_fld]
 intro q0
 obtain ⟨ti,z,hti,t1,t2,t3,t4⟩:=info_pz infoNd
 refine ⟨fun a n c j P => ∃ (k:Nat) (es:List NodeE),j=k ∧ k ≤ 64 ∧ n=es.length ∧ es.length ≤ k ∧ es.map (·.nd)=(List.range k).filterMap (nodeAt NS) ∧ (∀ x ∈ es,∃ i,i < 64 ∧ x=g i) ∧ HP.ent P (OwC 43 5 a n c (es.flatMap nodeVs)),fun _ _ _ j _=>64 - j.toNat,
  ⟨0,[],rfl,by omega,rfl,by simp,rfl,fun x hx=>(by cases hx),.of fun R h H=>⟨by simp,.inr ⟨q0,#[],rfl,H,Nat.le_refl _,by unfold maxLen; omega,by simp,by simp⟩⟩⟩,?_⟩
 rintro a _ c _ P ⟨k,es,rfl,hk,rfl,hesl,hes,hmem,hP⟩
 refine ⟨fun hlt => ?_,fun hge => ?_⟩
 ·have hk64:k < 64:=by omega
  refine ⟨.pointer (some ⟨b,k * 5,none⟩),ixN rfl hk64,.pointer (some ⟨b,k * 5 + 1,none⟩),fldN (by omega),(g k).nd.kind,rtKind hk64,fun hne => ?_,fun he => ?_⟩
  ·obtain ⟨n,hn⟩ : ∃ n,nodeAt NS k=some n:=by
    cases hq:nodeAt NS k with
    | some n=>exact ⟨n,rfl⟩
    | none=>rw [hg k hk64,ndF_none hq] at hne; exact absurd rfl hne
   have hgn:=hg.at' hk64 hn
   refine ⟨.pointer (some ⟨b,k * 5,none⟩),ixN rfl hk64,(g k).nd.num,(g k).nd.kind,(g k).nd.links,(g k).da,(g k).nd.data.length,(g k).dc,(g k).ea,(g k).nd.ents.length,(g k).ec,rtLdN hk64,fun q => ?_⟩
   have ap:=append_any undNs hti t1 (by rw [t2,t3]) (by omega) a es.length c (es.flatMap nodeVs) (HP.sep (HP.one q (.cells (nodeVs (g k)).toArray 43 (0,0))) (RT b g)) (some ⟨q,0,none⟩) 1 1 (nodeVs (g k)) ⟨Rd.left (one_rd q (nodeVs (g k)).toArray 43),fun _ _ _ e=>by cases e⟩ (by rw [t3]; rfl) (fun _=>rfl) (fun u hu=>kNodeP.one (g k) u hu) (by unfold maxLen; omega) (by rw [t4]; omega)
   rw [t3] at ap
   refine OTri.pre3 (ap.weak (fun _ _ h=>h) ?_) (HP.ent.sep hP _)
   rintro v R h ⟨a',c',rfl,H⟩
   refine ⟨a',es.length + 1,c',_,rfl,⟨inI64' _ (by omega) (by omega),fun _=>⟨⟨k + 1,es ++ [g k],by omega,by omega,by simp,by simp; omega,?_,fun x hx => ?_,?_⟩,by dsimp only; omega⟩⟩,H⟩
   ·rw [filterMap_step,hn,List.map_append,hes]
    simp [hgn]
   ·rcases List.mem_append.1 hx with hx | hx
    ·exact hmem x hx
    ·simp at hx; exact ⟨k,hk64,hx⟩
   ·rw [List.flatMap_append]
    simp only [List.flatMap_cons,List.flatMap_nil,List.append_nil]
    exact .of fun _ _ h=>h
  ·have hn:nodeAt NS k=none:=by
    cases hq:nodeAt NS k with
    | none=>rfl
    | some n =>
     exfalso
     rw [hg.at' hk64 hq] at he
     rcases (wf.at' hq).1.kind with ⟨h,_⟩ | ⟨h,_⟩ <;> omega
   refine ⟨inI64' _ (by omega) (by omega),fun _=>⟨⟨k + 1,es,by omega,by omega,rfl,by omega,?_,hmem,hP⟩,by dsimp only; omega⟩⟩
   rw [filterMap_step,hn,hes]; simp
 ·obtain rfl:k=64:=by omega
  rw [all_nodes wf] at hes
  have hlen:es.length=NS.length:=by rw [← hes,List.length_map]
  refine (HP.ent2 (.of fun _ _ h=>h) (hP.trans (OwC.share _ _ _ _ _ _))).trans (.of fun R h H => ?_)
  refine ⟨a,c,es,⟨by rw [hlen],hes⟩,?_⟩
  have hn:=fun i (hi:i < 64)=>((HP.sep_left H).2 i hi).1
  refine HP.sep_comm ?_
  obtain ⟨h1,h2,d,l1,l2,H1,H2⟩:=H
  refine ⟨h1,h2,d,l1,l2,H1,hlen,by rw [← hlen]; exact H2,fun x hx => ?_⟩
  obtain ⟨i,hi,rfl⟩:=hmem x hx
  exact nodeHp_pers _ _ _ _ (hn i hi)
def g0 (i:Nat):NodeE:=if i=0 then ⟨⟨0,1,1,[],[]⟩,none,0,none,0⟩ else ne0
theorem g0_rp:Rp g0 newT:=fun i hi=>by
 unfold g0
 by_cases e:i=0
 ·subst e; rfl
 ·rw [if_neg e]
  refine (ndF_none ?_).symm
  unfold nodeAt newT
  rw [List.find?_cons]
  have : ¬ (newNd 0 1).num=i:=fun h=>e h.symm
  simp [this]
theorem rNew_ok:Tri Tryz.prog 22 #[] HP.tt (fun v=>HP.ex fun b=>HP.and (v = .pointer (some ⟨b,0,none⟩)) (RT b g0)):=by
 refine tri_of_tree (ρ:=[]) mixed Tryz.func22 tree_rNew ?_
 unfold t_rNew
 simp only [T.den,E.prop,E.den,RX.look,F1.app,F2.app,Uni.int_i,Uni.nat_n,Uni.bool_c,Uni.str_s,Uni.adr_a,Uni.val_v,Uni.hp_p,hden,cden,V.den,W.den,A.den,BR.den,SA.den,FV.den,capV,exs,exP,allP,Cur.app,List.map_cons,List.map_nil,List.cons_append,List.nil_append,List.drop_succ_cons,List.drop_zero,List.length_cons,List.length_nil,Nat.zero_add,Nat.reduceAdd,Int.neg_neg,Bool.not_not,List.append_nil,Nat.add_zero,List.getElem?_cons_zero,List.getElem?_cons_succ,Decidable.not_not,semW_eq,ne_eq,Nat.reduceEqDiff,not_false_eq_true]
 intro b
 refine .of fun R h H=>⟨b,rfl,H,fun i hi => ?_⟩
 unfold g0
 split
 ·exact ⟨⟨RoC.nil _ _ _ _,rfl,RoC.nil _ _ _ _,fun x hx=>by cases hx⟩,Nat.le_refl _⟩
 ·exact ⟨ne0_hp _ _,Nat.le_refl _⟩
def DoR (b:Nat) (NS:List Nd) (r:AnsM) (S:HP) (v:Value):HP:=HP.ex fun r0:AnsM=>HP.ex fun da=>HP.ex fun dc=>HP.ex fun na=>HP.ex fun nc=>HP.ex fun g'=>HP.and (v = .tuple #[r0.at da dc na nc,.int .i64 r.err] ∧ (r.err=0 → r0=r) ∧ Rp g' NS)
 (HP.sep (OwB da r0.data.length dc r0.data) (HP.sep (OwS na r0.names.length nc r0.names) (HP.sep (RT b g') S)))
theorem DoR.code {b:Nat} {NS:List Nd} {r:AnsM} {S:HP} {g':Nat → NodeE} {e:Int} (hg:Rp g' NS) (hr:r={ err:=e }) :
  HP.ent (HP.sep (RT b g') S) (DoR b NS r S (.tuple #[.agg #[.int .i64 0,.int .i64 0,.int .i64 0,.int .i64 0,.slice none 0 0,.slice none 0 0],.int .i64 e])) := .of fun R h H=>by
 subst hr
 exact ⟨{},none,0,none,0,g',⟨rfl,fun h=>by rw [show e=0 from h],hg⟩,AnsR.nil rfl rfl H⟩
theorem DoR.code0 {b:Nat} {NS:List Nd} {r:AnsM} {S:HP} {g':Nat → NodeE} (hg:Rp g' NS) (hr:r={}) :
  HP.ent (HP.sep (RT b g') S) (DoR b NS r S (.tuple #[.agg #[.int .i64 0,.int .i64 0,.int .i64 0,.int .i64 0,.slice none 0 0,.slice none 0 0],.int .i64 0])):=DoR.code hg hr
end Go.Proofs.YtdieogcemmnaaaaGreatDoor

namespace Go.Proofs.YtdieogcemmnaaaaGreatDoor.RX
set_option maxRecDepth 100000
-- (*tideline/tidelineref04.Tree).do: ρ:=[.n t,.p tP,.i c_Kind,.s c_Path,.s c_Other,.i c_Off,.i c_N,.a c_Dataa,.n c_Datal,.n c_Datac,.p c_DataP]
def t_rdo0:T :=
(.new
(.new
(.new
(.br (.o2 .lt (.v 2) (.i 1))
(.ret (.tup [.agg [.int .i64 (.i 0),.int .i64 (.i 0),.int .i64 (.i 0),.int .i64 (.i 0),.sl .nil (.n 0) (.n 0),.sl .nil (.n 0) (.n 0)],.a (.int .i64 (.i 1))]) [(.b (.v 0),.prop 1),(.a 7,.prop 10)])
(.br (.o2 .lt (.i 12) (.v 2))
(.ret (.tup [.agg [.int .i64 (.i 0),.int .i64 (.i 0),.int .i64 (.i 0),.int .i64 (.i 0),.sl .nil (.n 0) (.n 0),.sl .nil (.n 0) (.n 0)],.a (.int .i64 (.i 1))]) [(.b (.v 0),.prop 1),(.a 7,.prop 10)])
(.br (.o2 .eq (.v 2) (.i 12))
(.ret (.tup [.agg [.int .i64 (.i 0),.int .i64 (.i 0),.int .i64 (.i 0),.int .i64 (.i 0),.sl .nil (.n 0) (.n 0),.sl .nil (.n 0) (.n 0)],.a (.int .i64 (.i 0))]) [(.b (.v 0),.prop 1),(.a 7,.prop 10)])
(.br (.o2 .eq (.v 2) (.i 1))
(.fail 29)
(.br (.o2 .eq (.v 2) (.i 3))
(.fail 29)
(.fail 29)))))))))
theorem tree_rdo0:tree Tryz.prog { absT:=[142,144],keep:=[30,76,78,144,198,196,142,139,24,145],turn:=[(140,[0]),(143,[0])],opn:=true,rdf:=true,cut:=[141,139] } Tryz.f77 [.a (.ptr (.v 0) 0),.agg [.int .i64 (.v 2),.str (.v 3),.str (.v 4),.int .i64 (.v 5),.int .i64 (.v 6),.sl (.v 7) (.v 8) (.v 9)]] [(.b (.v 0),.prop 1),(.a 7,.prop 10)] 11=t_rdo0:=by kernel_rfl
def t_rdo1:T :=
(.new
(.new
(.new
(.call 139 [.a (.ptr (.v 0) 0),.a (.str (.v 3))] [(.b (.v 0),.prop 1)] [.i,.s,.i] (.tup [.a (.int .i64 (.v 14)),.a (.str (.v 15)),.a (.int .i64 (.v 16))]) [(.b (.v 0),.prop 1)]
(.br (.o1 .not (.o2 .eq (.v 16) (.i 0)))
(.ret (.tup [.agg [.int .i64 (.i 0),.int .i64 (.i 0),.int .i64 (.i 0),.int .i64 (.i 0),.sl .nil (.n 0) (.n 0),.sl .nil (.n 0) (.n 0)],.a (.int .i64 (.v 16))]) [(.b (.v 0),.prop 1),(.a 7,.prop 10)])
(.loop [.i] [.e (.o1 .neg (.o1 .neg (.i 0)))]
(.br (.o2 .lt (.v 17) (.i 64))
(.read (.indexAddr 142 (.tmp 70) (.tmp 68)) 0 [(70,.w (.a (.ptr (.v 0) 0))),(68,.w (.a (.int .i64 (.v 17))))] [(.b (.v 0),.prop 1)] [.v] (.w (.a (.val 18)))
(.read (.fieldAddr 43 (.tmp 71) 1) 0 [(71,.w (.a (.val 18)))] [(.b (.v 0),.prop 1)] [.v] (.w (.a (.val 19)))
(.read (.load 3 (.tmp 72)) 3 [(72,.w (.a (.val 19)))] [(.b (.v 0),.prop 1)] [.i] (.w (.a (.int .i64 (.v 20))))
(.br (.o1 .not (.o2 .eq (.v 20) (.i 0)))
(.need (.o1 (.inr .i64) (.o2 .add (.v 17) (.i 1)))
(.again 0 [.e (.o1 .neg (.o1 .neg (.o2 .add (.v 17) (.i 1))))]))
(.br (.o2 .eq (.v 17) (.i 64))
(.ret (.tup [.agg [.int .i64 (.i 0),.int .i64 (.i 0),.int .i64 (.i 0),.int .i64 (.i 0),.sl .nil (.n 0) (.n 0),.sl .nil (.n 0) (.n 0)],.a (.int .i64 (.i 27))]) [(.b (.v 0),.prop 1),(.a 7,.prop 10)])
(.read (.indexAddr 142 (.tmp 86) (.tmp 82)) 0 [(86,.w (.a (.ptr (.v 0) 0))),(82,.w (.a (.int .i64 (.v 17))))] [(.b (.v 0),.prop 1)] [.v] (.w (.a (.val 21)))
(.op (.store 43 (.tmp 87) (.tmp 84)) 0 [(87,.w (.a (.val 21))),(84,.w (.agg [.int .i64 (.v 17),.int .i64 (.i 1),.int .i64 (.i 1),.sl .nil (.n 0) (.n 0),.sl .nil (.n 0) (.n 0)]))] [(.b (.v 0),.prop 1)] [.p] (.tup []) [(.b (.v 0),.prop 22)]
(.call 140 [.a (.ptr (.v 0) 0),.a (.int .i64 (.v 14)),.a (.str (.v 15)),.a (.int .i64 (.v 17))] [(.b (.v 0),.prop 22)] [.p] (.tup []) [(.b (.v 0),.prop 23)]
(.ret (.tup [.agg [.int .i64 (.i 0),.int .i64 (.i 0),.int .i64 (.i 0),.int .i64 (.i 0),.sl .nil (.n 0) (.n 0),.sl .nil (.n 0) (.n 0)],.a (.int .i64 (.i 0))]) [(.b (.v 0),.prop 23),(.a 7,.prop 10)])))))))))
(.br (.o2 .eq (.v 17) (.i 64))
(.ret (.tup [.agg [.int .i64 (.i 0),.int .i64 (.i 0),.int .i64 (.i 0),.int .i64 (.i 0),.sl .nil (.n 0) (.n 0),.sl .nil (.n 0) (.n 0)],.a (.int .i64 (.i 27))]) [(.b (.v 0),.prop 1),(.a 7,.prop 10)])
(.read (.indexAddr 142 (.tmp 86) (.tmp 82)) 0 [(86,.w (.a (.ptr (.v 0) 0))),(82,.w (.a (.int .i64 (.v 17))))] [(.b (.v 0),.prop 1)] [.v] (.w (.a (.val 18)))
(.op (.store 43 (.tmp 87) (.tmp 84)) 0 [(87,.w (.a (.val 18))),(84,.w (.agg [.int .i64 (.v 17),.int .i64 (.i 1),.int .i64 (.i 1),.sl .nil (.n 0) (.n 0),.sl .nil (.n 0) (.n 0)]))] [(.b (.v 0),.prop 1)] [.p] (.tup []) [(.b (.v 0),.prop 19)]
(.call 140 [.a (.ptr (.v 0) 0),.a (.int .i64 (.v 14)),.a (.str (.v 15)),.a (.int .i64 (.v 17))] [(.b (.v 0),.prop 19)] [.p] (.tup []) [(.b (.v 0),.prop 20)]
(.ret (.tup [.agg [.int .i64 (.i 0),.int .i64 (.i 0),.int .i64 (.i 0),.int .i64 (.i 0),.sl .nil (.n 0) (.n 0),.sl .nil (.n 0) (.n 0)],.a (.int .i64 (.i 0))]) [(.b (.v 0),.prop 20),(.a 7,.prop 10)]))))))))))))
theorem tree_rdo1:tree Tryz.prog { absT:=[142,144],keep:=[30,76,78,144,198,196,142,139,24,145],turn:=[(140,[0]),(143,[0])],opn:=true,rdf:=true } Tryz.f77 [.a (.ptr (.v 0) 0),.agg [.int .i64 (.i 1),.str (.v 3),.str (.v 4),.int .i64 (.v 5),.int .i64 (.v 6),.sl (.v 7) (.v 8) (.v 9)]] [(.b (.v 0),.prop 1),(.a 7,.prop 10)] 11=t_rdo1:=by kernel_rfl
def t_rdo2:T :=
(.new
(.new
(.new
(.call 141 [.a (.str (.v 3))] [] [.s,.s,.i] (.tup [.a (.str (.v 14)),.a (.str (.v 15)),.a (.int .i64 (.v 16))]) []
(.br (.o1 .not (.o2 .eq (.v 16) (.i 0)))
(.ret (.tup [.agg [.int .i64 (.i 0),.int .i64 (.i 0),.int .i64 (.i 0),.int .i64 (.i 0),.sl .nil (.n 0) (.n 0),.sl .nil (.n 0) (.n 0)],.a (.int .i64 (.v 16))]) [(.b (.v 0),.prop 1),(.a 7,.prop 10)])
(.call 142 [.a (.ptr (.v 0) 0),.a (.str (.v 3))] [(.b (.v 0),.prop 1)] [.i,.i] (.tup [.a (.int .i64 (.v 17)),.a (.int .i64 (.v 18))]) [(.b (.v 0),.prop 1)]
(.br (.o1 .not (.o2 .eq (.v 18) (.i 0)))
(.ret (.tup [.agg [.int .i64 (.i 0),.int .i64 (.i 0),.int .i64 (.i 0),.int .i64 (.i 0),.sl .nil (.n 0) (.n 0),.sl .nil (.n 0) (.n 0)],.a (.int .i64 (.v 18))]) [(.b (.v 0),.prop 1),(.a 7,.prop 10)])
(.call 142 [.a (.ptr (.v 0) 0),.a (.str (.v 14))] [(.b (.v 0),.prop 1)] [.i,.i] (.tup [.a (.int .i64 (.v 19)),.a (.int .i64 (.v 20))]) [(.b (.v 0),.prop 1)]
(.read (.indexAddr 142 (.tmp 149) (.tmp 147)) 0 [(149,.w (.a (.ptr (.v 0) 0))),(147,.w (.a (.int .i64 (.v 17))))] [(.b (.v 0),.prop 1)] [.v] (.w (.a (.val 21)))
(.read (.fieldAddr 43 (.tmp 150) 1) 0 [(150,.w (.a (.val 21)))] [(.b (.v 0),.prop 1)] [.v] (.w (.a (.val 22)))
(.read (.load 3 (.tmp 151)) 3 [(151,.w (.a (.val 22)))] [(.b (.v 0),.prop 1)] [.i] (.w (.a (.int .i64 (.v 23))))
(.br (.o1 .not (.o2 .eq (.v 23) (.i 1)))
(.ret (.tup [.agg [.int .i64 (.i 0),.int .i64 (.i 0),.int .i64 (.i 0),.int .i64 (.i 0),.sl .nil (.n 0) (.n 0),.sl .nil (.n 0) (.n 0)],.a (.int .i64 (.i 23))]) [(.b (.v 0),.prop 1),(.a 7,.prop 10)])
(.read (.indexAddr 142 (.tmp 177) (.tmp 175)) 0 [(177,.w (.a (.ptr (.v 0) 0))),(175,.w (.a (.int .i64 (.v 17))))] [(.b (.v 0),.prop 1)] [.v] (.w (.a (.val 24)))
(.read (.fieldAddr 43 (.tmp 178) 4) 0 [(178,.w (.a (.val 24)))] [(.b (.v 0),.prop 1)] [.v] (.w (.a (.val 25)))
(.read (.load 41 (.tmp 179)) 41 [(179,.w (.a (.val 25)))] [(.b (.v 0),.prop 1)] [.a,.n,.n] (.w (.a (.sl (.v 26) (.v 27) (.v 28))))
(.br (.o2 .lt (.i 0) (.o1 .ofNat (.v 27)))
(.ret (.tup [.agg [.int .i64 (.i 0),.int .i64 (.i 0),.int .i64 (.i 0),.int .i64 (.i 0),.sl .nil (.n 0) (.n 0),.sl .nil (.n 0) (.n 0)],.a (.int .i64 (.i 25))]) [(.b (.v 0),.prop 1),(.a 7,.prop 10)])
(.call 143 [.a (.ptr (.v 0) 0),.a (.int .i64 (.v 19)),.a (.str (.v 15))] [(.b (.v 0),.prop 1)] [.p] (.tup []) [(.b (.v 0),.prop 29)]
(.read (.indexAddr 142 (.tmp 191) (.tmp 189)) 0 [(191,.w (.a (.ptr (.v 0) 0))),(189,.w (.a (.int .i64 (.v 17))))] [(.b (.v 0),.prop 29)] [.v] (.w (.a (.val 30)))
(.read (.fieldAddr 43 (.tmp 192) 2) 0 [(192,.w (.a (.val 30)))] [(.b (.v 0),.prop 29)] [.v] (.w (.a (.val 31)))
(.read (.load 3 (.tmp 193)) 3 [(193,.w (.a (.val 31)))] [(.b (.v 0),.prop 29)] [.i] (.w (.a (.int .i64 (.v 32))))
(.need (.o1 (.inr .i64) (.o2 .sub (.v 32) (.i 1)))
(.read (.indexAddr 142 (.tmp 197) (.tmp 189)) 0 [(197,.w (.a (.ptr (.v 0) 0))),(189,.w (.a (.int .i64 (.v 17))))] [(.b (.v 0),.prop 29)] [.v] (.w (.a (.val 33)))
(.read (.fieldAddr 43 (.tmp 198) 2) 0 [(198,.w (.a (.val 33)))] [(.b (.v 0),.prop 29)] [.v] (.w (.a (.val 34)))
(.op (.store 3 (.tmp 199) (.tmp 195)) 0 [(199,.w (.a (.val 34))),(195,.w (.a (.int .i64 (.o2 .sub (.v 32) (.i 1)))))] [(.b (.v 0),.prop 29)] [.p] (.tup []) [(.b (.v 0),.prop 35)]
(.read (.indexAddr 142 (.tmp 203) (.tmp 201)) 0 [(203,.w (.a (.ptr (.v 0) 0))),(201,.w (.a (.int .i64 (.v 17))))] [(.b (.v 0),.prop 35)] [.v] (.w (.a (.val 36)))
(.read (.fieldAddr 43 (.tmp 204) 2) 0 [(204,.w (.a (.val 36)))] [(.b (.v 0),.prop 35)] [.v] (.w (.a (.val 37)))
(.read (.load 3 (.tmp 205)) 3 [(205,.w (.a (.val 37)))] [(.b (.v 0),.prop 35)] [.i] (.w (.a (.int .i64 (.v 38))))
(.br (.o2 .eq (.v 38) (.i 0))
(.read (.indexAddr 142 (.tmp 212) (.tmp 209)) 0 [(212,.w (.a (.ptr (.v 0) 0))),(209,.w (.a (.int .i64 (.v 17))))] [(.b (.v 0),.prop 35)] [.v] (.w (.a (.val 39)))
(.op (.store 43 (.tmp 213) (.tmp 210)) 0 [(213,.w (.a (.val 39))),(210,.w (.agg [.int .i64 (.i 0),.int .i64 (.i 0),.int .i64 (.i 0),.sl .nil (.n 0) (.n 0),.sl .nil (.n 0) (.n 0)]))] [(.b (.v 0),.prop 35)] [.p] (.tup []) [(.b (.v 0),.prop 40)]
(.ret (.tup [.agg [.int .i64 (.i 0),.int .i64 (.i 0),.int .i64 (.i 0),.int .i64 (.i 0),.sl .nil (.n 0) (.n 0),.sl .nil (.n 0) (.n 0)],.a (.int .i64 (.i 0))]) [(.b (.v 0),.prop 40),(.a 7,.prop 10)])))
(.ret (.tup [.agg [.int .i64 (.i 0),.int .i64 (.i 0),.int .i64 (.i 0),.int .i64 (.i 0),.sl .nil (.n 0) (.n 0),.sl .nil (.n 0) (.n 0)],.a (.int .i64 (.i 0))]) [(.b (.v 0),.prop 35),(.a 7,.prop 10)])))))))))))))))))))))))))))))
theorem tree_rdo2:tree Tryz.prog { absT:=[142,144],keep:=[30,76,78,144,198,196,142,139,24,145],turn:=[(140,[0]),(143,[0])],opn:=true,rdf:=true } Tryz.f77 [.a (.ptr (.v 0) 0),.agg [.int .i64 (.i 2),.str (.v 3),.str (.v 4),.int .i64 (.v 5),.int .i64 (.v 6),.sl (.v 7) (.v 8) (.v 9)]] [(.b (.v 0),.prop 1),(.a 7,.prop 10)] 11=t_rdo2:=by kernel_rfl
def t_rdo3:T :=
(.new
(.new
(.new
(.call 139 [.a (.ptr (.v 0) 0),.a (.str (.v 3))] [(.b (.v 0),.prop 1)] [.i,.s,.i] (.tup [.a (.int .i64 (.v 14)),.a (.str (.v 15)),.a (.int .i64 (.v 16))]) [(.b (.v 0),.prop 1)]
(.br (.o1 .not (.o2 .eq (.v 16) (.i 0)))
(.ret (.tup [.agg [.int .i64 (.i 0),.int .i64 (.i 0),.int .i64 (.i 0),.int .i64 (.i 0),.sl .nil (.n 0) (.n 0),.sl .nil (.n 0) (.n 0)],.a (.int .i64 (.v 16))]) [(.b (.v 0),.prop 1),(.a 7,.prop 10)])
(.loop [.i] [.e (.o1 .neg (.o1 .neg (.i 0)))]
(.br (.o2 .lt (.v 17) (.i 64))
(.read (.indexAddr 142 (.tmp 70) (.tmp 68)) 0 [(70,.w (.a (.ptr (.v 0) 0))),(68,.w (.a (.int .i64 (.v 17))))] [(.b (.v 0),.prop 1)] [.v] (.w (.a (.val 18)))
(.read (.fieldAddr 43 (.tmp 71) 1) 0 [(71,.w (.a (.val 18)))] [(.b (.v 0),.prop 1)] [.v] (.w (.a (.val 19)))
(.read (.load 3 (.tmp 72)) 3 [(72,.w (.a (.val 19)))] [(.b (.v 0),.prop 1)] [.i] (.w (.a (.int .i64 (.v 20))))
(.br (.o1 .not (.o2 .eq (.v 20) (.i 0)))
(.need (.o1 (.inr .i64) (.o2 .add (.v 17) (.i 1)))
(.again 0 [.e (.o1 .neg (.o1 .neg (.o2 .add (.v 17) (.i 1))))]))
(.br (.o2 .eq (.v 17) (.i 64))
(.ret (.tup [.agg [.int .i64 (.i 0),.int .i64 (.i 0),.int .i64 (.i 0),.int .i64 (.i 0),.sl .nil (.n 0) (.n 0),.sl .nil (.n 0) (.n 0)],.a (.int .i64 (.i 27))]) [(.b (.v 0),.prop 1),(.a 7,.prop 10)])
(.read (.indexAddr 142 (.tmp 86) (.tmp 82)) 0 [(86,.w (.a (.ptr (.v 0) 0))),(82,.w (.a (.int .i64 (.v 17))))] [(.b (.v 0),.prop 1)] [.v] (.w (.a (.val 21)))
(.op (.store 43 (.tmp 87) (.tmp 84)) 0 [(87,.w (.a (.val 21))),(84,.w (.agg [.int .i64 (.v 17),.int .i64 (.i 1),.int .i64 (.i 1),.sl .nil (.n 0) (.n 0),.sl .nil (.n 0) (.n 0)]))] [(.b (.v 0),.prop 1)] [.p] (.tup []) [(.b (.v 0),.prop 22)]
(.read (.indexAddr 142 (.tmp 94) (.tmp 92)) 0 [(94,.w (.a (.ptr (.v 0) 0))),(92,.w (.a (.int .i64 (.v 17))))] [(.b (.v 0),.prop 22)] [.v] (.w (.a (.val 23)))
(.read (.fieldAddr 43 (.tmp 95) 1) 0 [(95,.w (.a (.val 23)))] [(.b (.v 0),.prop 22)] [.v] (.w (.a (.val 24)))
(.op (.store 3 (.tmp 96) (.const (.int .i64 2))) 0 [(96,.w (.a (.val 24)))] [(.b (.v 0),.prop 22)] [.p] (.tup []) [(.b (.v 0),.prop 25)]
(.call 140 [.a (.ptr (.v 0) 0),.a (.int .i64 (.v 14)),.a (.str (.v 15)),.a (.int .i64 (.v 17))] [(.b (.v 0),.prop 25)] [.p] (.tup []) [(.b (.v 0),.prop 26)]
(.ret (.tup [.agg [.int .i64 (.i 0),.int .i64 (.i 0),.int .i64 (.i 0),.int .i64 (.i 0),.sl .nil (.n 0) (.n 0),.sl .nil (.n 0) (.n 0)],.a (.int .i64 (.i 0))]) [(.b (.v 0),.prop 26),(.a 7,.prop 10)]))))))))))))
(.br (.o2 .eq (.v 17) (.i 64))
(.ret (.tup [.agg [.int .i64 (.i 0),.int .i64 (.i 0),.int .i64 (.i 0),.int .i64 (.i 0),.sl .nil (.n 0) (.n 0),.sl .nil (.n 0) (.n 0)],.a (.int .i64 (.i 27))]) [(.b (.v 0),.prop 1),(.a 7,.prop 10)])
(.read (.indexAddr 142 (.tmp 86) (.tmp 82)) 0 [(86,.w (.a (.ptr (.v 0) 0))),(82,.w (.a (.int .i64 (.v 17))))] [(.b (.v 0),.prop 1)] [.v] (.w (.a (.val 18)))
(.op (.store 43 (.tmp 87) (.tmp 84)) 0 [(87,.w (.a (.val 18))),(84,.w (.agg [.int .i64 (.v 17),.int .i64 (.i 1),.int .i64 (.i 1),.sl .nil (.n 0) (.n 0),.sl .nil (.n 0) (.n 0)]))] [(.b (.v 0),.prop 1)] [.p] (.tup []) [(.b (.v 0),.prop 19)]
(.read (.indexAddr 142 (.tmp 94) (.tmp 92)) 0 [(94,.w (.a (.ptr (.v 0) 0))),(92,.w (.a (.int .i64 (.v 17))))] [(.b (.v 0),.prop 19)] [.v] (.w (.a (.val 20)))
(.read (.fieldAddr 43 (.tmp 95) 1) 0 [(95,.w (.a (.val 20)))] [(.b (.v 0),.prop 19)] [.v] (.w (.a (.val 21)))
(.op (.store 3 (.tmp 96) (.const (.int .i64 2))) 0 [(96,.w (.a (.val 21)))] [(.b (.v 0),.prop 19)] [.p] (.tup []) [(.b (.v 0),.prop 22)]
(.call 140 [.a (.ptr (.v 0) 0),.a (.int .i64 (.v 14)),.a (.str (.v 15)),.a (.int .i64 (.v 17))] [(.b (.v 0),.prop 22)] [.p] (.tup []) [(.b (.v 0),.prop 23)]
(.ret (.tup [.agg [.int .i64 (.i 0),.int .i64 (.i 0),.int .i64 (.i 0),.int .i64 (.i 0),.sl .nil (.n 0) (.n 0),.sl .nil (.n 0) (.n 0)],.a (.int .i64 (.i 0))]) [(.b (.v 0),.prop 23),(.a 7,.prop 10)])))))))))))))))
theorem tree_rdo3:tree Tryz.prog { absT:=[142,144],keep:=[30,76,78,144,198,196,142,139,24,145],turn:=[(140,[0]),(143,[0])],opn:=true,rdf:=true } Tryz.f77 [.a (.ptr (.v 0) 0),.agg [.int .i64 (.i 3),.str (.v 3),.str (.v 4),.int .i64 (.v 5),.int .i64 (.v 6),.sl (.v 7) (.v 8) (.v 9)]] [(.b (.v 0),.prop 1),(.a 7,.prop 10)] 11=t_rdo3:=by kernel_rfl
def t_rdo4:T :=
(.new
(.new
(.new
(.call 141 [.a (.str (.v 3))] [] [.s,.s,.i] (.tup [.a (.str (.v 14)),.a (.str (.v 15)),.a (.int .i64 (.v 16))]) []
(.br (.o1 .not (.o2 .eq (.v 16) (.i 0)))
(.ret (.tup [.agg [.int .i64 (.i 0),.int .i64 (.i 0),.int .i64 (.i 0),.int .i64 (.i 0),.sl .nil (.n 0) (.n 0),.sl .nil (.n 0) (.n 0)],.a (.int .i64 (.v 16))]) [(.b (.v 0),.prop 1),(.a 7,.prop 10)])
(.call 142 [.a (.ptr (.v 0) 0),.a (.str (.v 3))] [(.b (.v 0),.prop 1)] [.i,.i] (.tup [.a (.int .i64 (.v 17)),.a (.int .i64 (.v 18))]) [(.b (.v 0),.prop 1)]
(.br (.o1 .not (.o2 .eq (.v 18) (.i 0)))
(.ret (.tup [.agg [.int .i64 (.i 0),.int .i64 (.i 0),.int .i64 (.i 0),.int .i64 (.i 0),.sl .nil (.n 0) (.n 0),.sl .nil (.n 0) (.n 0)],.a (.int .i64 (.v 18))]) [(.b (.v 0),.prop 1),(.a 7,.prop 10)])
(.call 142 [.a (.ptr (.v 0) 0),.a (.str (.v 14))] [(.b (.v 0),.prop 1)] [.i,.i] (.tup [.a (.int .i64 (.v 19)),.a (.int .i64 (.v 20))]) [(.b (.v 0),.prop 1)]
(.read (.indexAddr 142 (.tmp 149) (.tmp 147)) 0 [(149,.w (.a (.ptr (.v 0) 0))),(147,.w (.a (.int .i64 (.v 17))))] [(.b (.v 0),.prop 1)] [.v] (.w (.a (.val 21)))
(.read (.fieldAddr 43 (.tmp 150) 1) 0 [(150,.w (.a (.val 21)))] [(.b (.v 0),.prop 1)] [.v] (.w (.a (.val 22)))
(.read (.load 3 (.tmp 151)) 3 [(151,.w (.a (.val 22)))] [(.b (.v 0),.prop 1)] [.i] (.w (.a (.int .i64 (.v 23))))
(.br (.o2 .eq (.v 23) (.i 1))
(.ret (.tup [.agg [.int .i64 (.i 0),.int .i64 (.i 0),.int .i64 (.i 0),.int .i64 (.i 0),.sl .nil (.n 0) (.n 0),.sl .nil (.n 0) (.n 0)],.a (.int .i64 (.i 24))]) [(.b (.v 0),.prop 1),(.a 7,.prop 10)])
(.read (.indexAddr 142 (.tmp 177) (.tmp 175)) 0 [(177,.w (.a (.ptr (.v 0) 0))),(175,.w (.a (.int .i64 (.v 17))))] [(.b (.v 0),.prop 1)] [.v] (.w (.a (.val 24)))
(.read (.fieldAddr 43 (.tmp 178) 4) 0 [(178,.w (.a (.val 24)))] [(.b (.v 0),.prop 1)] [.v] (.w (.a (.val 25)))
(.read (.load 41 (.tmp 179)) 41 [(179,.w (.a (.val 25)))] [(.b (.v 0),.prop 1)] [.a,.n,.n] (.w (.a (.sl (.v 26) (.v 27) (.v 28))))
(.br (.o2 .lt (.i 0) (.o1 .ofNat (.v 27)))
(.ret (.tup [.agg [.int .i64 (.i 0),.int .i64 (.i 0),.int .i64 (.i 0),.int .i64 (.i 0),.sl .nil (.n 0) (.n 0),.sl .nil (.n 0) (.n 0)],.a (.int .i64 (.i 25))]) [(.b (.v 0),.prop 1),(.a 7,.prop 10)])
(.call 143 [.a (.ptr (.v 0) 0),.a (.int .i64 (.v 19)),.a (.str (.v 15))] [(.b (.v 0),.prop 1)] [.p] (.tup []) [(.b (.v 0),.prop 29)]
(.read (.indexAddr 142 (.tmp 191) (.tmp 189)) 0 [(191,.w (.a (.ptr (.v 0) 0))),(189,.w (.a (.int .i64 (.v 17))))] [(.b (.v 0),.prop 29)] [.v] (.w (.a (.val 30)))
(.read (.fieldAddr 43 (.tmp 192) 2) 0 [(192,.w (.a (.val 30)))] [(.b (.v 0),.prop 29)] [.v] (.w (.a (.val 31)))
(.read (.load 3 (.tmp 193)) 3 [(193,.w (.a (.val 31)))] [(.b (.v 0),.prop 29)] [.i] (.w (.a (.int .i64 (.v 32))))
(.need (.o1 (.inr .i64) (.o2 .sub (.v 32) (.i 1)))
(.read (.indexAddr 142 (.tmp 197) (.tmp 189)) 0 [(197,.w (.a (.ptr (.v 0) 0))),(189,.w (.a (.int .i64 (.v 17))))] [(.b (.v 0),.prop 29)] [.v] (.w (.a (.val 33)))
(.read (.fieldAddr 43 (.tmp 198) 2) 0 [(198,.w (.a (.val 33)))] [(.b (.v 0),.prop 29)] [.v] (.w (.a (.val 34)))
(.op (.store 3 (.tmp 199) (.tmp 195)) 0 [(199,.w (.a (.val 34))),(195,.w (.a (.int .i64 (.o2 .sub (.v 32) (.i 1)))))] [(.b (.v 0),.prop 29)] [.p] (.tup []) [(.b (.v 0),.prop 35)]
(.read (.indexAddr 142 (.tmp 203) (.tmp 201)) 0 [(203,.w (.a (.ptr (.v 0) 0))),(201,.w (.a (.int .i64 (.v 17))))] [(.b (.v 0),.prop 35)] [.v] (.w (.a (.val 36)))
(.read (.fieldAddr 43 (.tmp 204) 2) 0 [(204,.w (.a (.val 36)))] [(.b (.v 0),.prop 35)] [.v] (.w (.a (.val 37)))
(.read (.load 3 (.tmp 205)) 3 [(205,.w (.a (.val 37)))] [(.b (.v 0),.prop 35)] [.i] (.w (.a (.int .i64 (.v 38))))
(.br (.o2 .eq (.v 38) (.i 0))
(.read (.indexAddr 142 (.tmp 212) (.tmp 209)) 0 [(212,.w (.a (.ptr (.v 0) 0))),(209,.w (.a (.int .i64 (.v 17))))] [(.b (.v 0),.prop 35)] [.v] (.w (.a (.val 39)))
(.op (.store 43 (.tmp 213) (.tmp 210)) 0 [(213,.w (.a (.val 39))),(210,.w (.agg [.int .i64 (.i 0),.int .i64 (.i 0),.int .i64 (.i 0),.sl .nil (.n 0) (.n 0),.sl .nil (.n 0) (.n 0)]))] [(.b (.v 0),.prop 35)] [.p] (.tup []) [(.b (.v 0),.prop 40)]
(.ret (.tup [.agg [.int .i64 (.i 0),.int .i64 (.i 0),.int .i64 (.i 0),.int .i64 (.i 0),.sl .nil (.n 0) (.n 0),.sl .nil (.n 0) (.n 0)],.a (.int .i64 (.i 0))]) [(.b (.v 0),.prop 40),(.a 7,.prop 10)])))
(.ret (.tup [.agg [.int .i64 (.i 0),.int .i64 (.i 0),.int .i64 (.i 0),.int .i64 (.i 0),.sl .nil (.n 0) (.n 0),.sl .nil (.n 0) (.n 0)],.a (.int .i64 (.i 0))]) [(.b (.v 0),.prop 35),(.a 7,.prop 10)])))))))))))))))))))))))))))))
theorem tree_rdo4:tree Tryz.prog { absT:=[142,144],keep:=[30,76,78,144,198,196,142,139,24,145],turn:=[(140,[0]),(143,[0])],opn:=true,rdf:=true } Tryz.f77 [.a (.ptr (.v 0) 0),.agg [.int .i64 (.i 4),.str (.v 3),.str (.v 4),.int .i64 (.v 5),.int .i64 (.v 6),.sl (.v 7) (.v 8) (.v 9)]] [(.b (.v 0),.prop 1),(.a 7,.prop 10)] 11=t_rdo4:=by kernel_rfl
def t_rdo5:T :=
(.new
(.new
(.new
(.call 141 [.a (.str (.v 3))] [] [.s,.s,.i] (.tup [.a (.str (.v 14)),.a (.str (.v 15)),.a (.int .i64 (.v 16))]) []
(.br (.o1 .not (.o2 .eq (.v 16) (.i 0)))
(.call 142 [.a (.ptr (.v 0) 0),.a (.str (.v 3))] [(.b (.v 0),.prop 1)] [.i,.i] (.tup [.a (.int .i64 (.v 17)),.a (.int .i64 (.v 18))]) [(.b (.v 0),.prop 1)]
(.br (.o1 .not (.o2 .eq (.v 18) (.i 0)))
(.ret (.tup [.agg [.int .i64 (.i 0),.int .i64 (.i 0),.int .i64 (.i 0),.int .i64 (.i 0),.sl .nil (.n 0) (.n 0),.sl .nil (.n 0) (.n 0)],.a (.int .i64 (.v 18))]) [(.b (.v 0),.prop 1),(.a 7,.prop 10)])
(.call 142 [.a (.ptr (.v 0) 0),.a (.str (.v 14))] [(.b (.v 0),.prop 1)] [.i,.i] (.tup [.a (.int .i64 (.v 19)),.a (.int .i64 (.v 20))]) [(.b (.v 0),.prop 1)]
(.read (.indexAddr 142 (.tmp 149) (.tmp 147)) 0 [(149,.w (.a (.ptr (.v 0) 0))),(147,.w (.a (.int .i64 (.v 17))))] [(.b (.v 0),.prop 1)] [.v] (.w (.a (.val 21)))
(.read (.fieldAddr 43 (.tmp 150) 1) 0 [(150,.w (.a (.val 21)))] [(.b (.v 0),.prop 1)] [.v] (.w (.a (.val 22)))
(.read (.load 3 (.tmp 151)) 3 [(151,.w (.a (.val 22)))] [(.b (.v 0),.prop 1)] [.i] (.w (.a (.int .i64 (.v 23))))
(.br (.o2 .eq (.v 23) (.i 1))
(.ret (.tup [.agg [.int .i64 (.i 0),.int .i64 (.i 0),.int .i64 (.i 0),.int .i64 (.i 0),.sl .nil (.n 0) (.n 0),.sl .nil (.n 0) (.n 0)],.a (.int .i64 (.i 24))]) [(.b (.v 0),.prop 1),(.a 7,.prop 10)])
(.call 139 [.a (.ptr (.v 0) 0),.a (.str (.v 4))] [(.b (.v 0),.prop 1)] [.i,.s,.i] (.tup [.a (.int .i64 (.v 24)),.a (.str (.v 25)),.a (.int .i64 (.v 26))]) [(.b (.v 0),.prop 1)]
(.br (.o1 .not (.o2 .eq (.v 26) (.i 0)))
(.ret (.tup [.agg [.int .i64 (.i 0),.int .i64 (.i 0),.int .i64 (.i 0),.int .i64 (.i 0),.sl .nil (.n 0) (.n 0),.sl .nil (.n 0) (.n 0)],.a (.int .i64 (.v 26))]) [(.b (.v 0),.prop 1),(.a 7,.prop 10)])
(.call 140 [.a (.ptr (.v 0) 0),.a (.int .i64 (.v 24)),.a (.str (.v 25)),.a (.int .i64 (.v 17))] [(.b (.v 0),.prop 1)] [.p] (.tup []) [(.b (.v 0),.prop 27)]
(.join [.p]
(.read (.indexAddr 142 (.tmp 239) (.tmp 237)) 0 [(239,.w (.a (.ptr (.v 0) 0))),(237,.w (.a (.int .i64 (.v 17))))] [(.b (.v 0),.prop 27)] [.v] (.w (.a (.val 28)))
(.read (.fieldAddr 43 (.tmp 240) 2) 0 [(240,.w (.a (.val 28)))] [(.b (.v 0),.prop 27)] [.v] (.w (.a (.val 29)))
(.read (.load 3 (.tmp 241)) 3 [(241,.w (.a (.val 29)))] [(.b (.v 0),.prop 27)] [.i] (.w (.a (.int .i64 (.v 30))))
(.need (.o1 (.inr .i64) (.o2 .add (.v 30) (.i 1)))
(.read (.indexAddr 142 (.tmp 245) (.tmp 237)) 0 [(245,.w (.a (.ptr (.v 0) 0))),(237,.w (.a (.int .i64 (.v 17))))] [(.b (.v 0),.prop 27)] [.v] (.w (.a (.val 31)))
(.read (.fieldAddr 43 (.tmp 246) 2) 0 [(246,.w (.a (.val 31)))] [(.b (.v 0),.prop 27)] [.v] (.w (.a (.val 32)))
(.op (.store 3 (.tmp 247) (.tmp 243)) 0 [(247,.w (.a (.val 32))),(243,.w (.a (.int .i64 (.o2 .add (.v 30) (.i 1)))))] [(.b (.v 0),.prop 27)] [.p] (.tup []) [(.b (.v 0),.prop 33)]
(.again 0 [.p [(.b (.v 0),.prop 33)]]))))))))
(.ret (.tup [.agg [.int .i64 (.i 0),.int .i64 (.i 0),.int .i64 (.i 0),.int .i64 (.i 0),.sl .nil (.n 0) (.n 0),.sl .nil (.n 0) (.n 0)],.a (.int .i64 (.i 0))]) [(.b (.v 0),.prop 28),(.a 7,.prop 10)]))))))))))))
(.call 142 [.a (.ptr (.v 0) 0),.a (.str (.v 3))] [(.b (.v 0),.prop 1)] [.i,.i] (.tup [.a (.int .i64 (.v 17)),.a (.int .i64 (.v 18))]) [(.b (.v 0),.prop 1)]
(.br (.o1 .not (.o2 .eq (.v 18) (.i 0)))
(.ret (.tup [.agg [.int .i64 (.i 0),.int .i64 (.i 0),.int .i64 (.i 0),.int .i64 (.i 0),.sl .nil (.n 0) (.n 0),.sl .nil (.n 0) (.n 0)],.a (.int .i64 (.v 18))]) [(.b (.v 0),.prop 1),(.a 7,.prop 10)])
(.call 142 [.a (.ptr (.v 0) 0),.a (.str (.v 14))] [(.b (.v 0),.prop 1)] [.i,.i] (.tup [.a (.int .i64 (.v 19)),.a (.int .i64 (.v 20))]) [(.b (.v 0),.prop 1)]
(.read (.indexAddr 142 (.tmp 149) (.tmp 147)) 0 [(149,.w (.a (.ptr (.v 0) 0))),(147,.w (.a (.int .i64 (.v 17))))] [(.b (.v 0),.prop 1)] [.v] (.w (.a (.val 21)))
(.read (.fieldAddr 43 (.tmp 150) 1) 0 [(150,.w (.a (.val 21)))] [(.b (.v 0),.prop 1)] [.v] (.w (.a (.val 22)))
(.read (.load 3 (.tmp 151)) 3 [(151,.w (.a (.val 22)))] [(.b (.v 0),.prop 1)] [.i] (.w (.a (.int .i64 (.v 23))))
(.br (.o2 .eq (.v 23) (.i 1))
(.ret (.tup [.agg [.int .i64 (.i 0),.int .i64 (.i 0),.int .i64 (.i 0),.int .i64 (.i 0),.sl .nil (.n 0) (.n 0),.sl .nil (.n 0) (.n 0)],.a (.int .i64 (.i 24))]) [(.b (.v 0),.prop 1),(.a 7,.prop 10)])
(.call 139 [.a (.ptr (.v 0) 0),.a (.str (.v 4))] [(.b (.v 0),.prop 1)] [.i,.s,.i] (.tup [.a (.int .i64 (.v 24)),.a (.str (.v 25)),.a (.int .i64 (.v 26))]) [(.b (.v 0),.prop 1)]
(.br (.o1 .not (.o2 .eq (.v 26) (.i 0)))
(.ret (.tup [.agg [.int .i64 (.i 0),.int .i64 (.i 0),.int .i64 (.i 0),.int .i64 (.i 0),.sl .nil (.n 0) (.n 0),.sl .nil (.n 0) (.n 0)],.a (.int .i64 (.v 26))]) [(.b (.v 0),.prop 1),(.a 7,.prop 10)])
(.call 140 [.a (.ptr (.v 0) 0),.a (.int .i64 (.v 24)),.a (.str (.v 25)),.a (.int .i64 (.v 17))] [(.b (.v 0),.prop 1)] [.p] (.tup []) [(.b (.v 0),.prop 27)]
(.join [.p]
(.read (.indexAddr 142 (.tmp 239) (.tmp 237)) 0 [(239,.w (.a (.ptr (.v 0) 0))),(237,.w (.a (.int .i64 (.v 17))))] [(.b (.v 0),.prop 27)] [.v] (.w (.a (.val 28)))
(.read (.fieldAddr 43 (.tmp 240) 2) 0 [(240,.w (.a (.val 28)))] [(.b (.v 0),.prop 27)] [.v] (.w (.a (.val 29)))
(.read (.load 3 (.tmp 241)) 3 [(241,.w (.a (.val 29)))] [(.b (.v 0),.prop 27)] [.i] (.w (.a (.int .i64 (.v 30))))
(.need (.o1 (.inr .i64) (.o2 .add (.v 30) (.i 1)))
(.read (.indexAddr 142 (.tmp 245) (.tmp 237)) 0 [(245,.w (.a (.ptr (.v 0) 0))),(237,.w (.a (.int .i64 (.v 17))))] [(.b (.v 0),.prop 27)] [.v] (.w (.a (.val 31)))
(.read (.fieldAddr 43 (.tmp 246) 2) 0 [(246,.w (.a (.val 31)))] [(.b (.v 0),.prop 27)] [.v] (.w (.a (.val 32)))
(.op (.store 3 (.tmp 247) (.tmp 243)) 0 [(247,.w (.a (.val 32))),(243,.w (.a (.int .i64 (.o2 .add (.v 30) (.i 1)))))] [(.b (.v 0),.prop 27)] [.p] (.tup []) [(.b (.v 0),.prop 33)]
(.again 0 [.p [(.b (.v 0),.prop 33)]]))))))))
(.ret (.tup [.agg [.int .i64 (.i 0),.int .i64 (.i 0),.int .i64 (.i 0),.int .i64 (.i 0),.sl .nil (.n 0) (.n 0),.sl .nil (.n 0) (.n 0)],.a (.int .i64 (.i 0))]) [(.b (.v 0),.prop 28),(.a 7,.prop 10)])))))))))))))))))
theorem tree_rdo5:tree Tryz.prog { absT:=[142,144],keep:=[30,76,78,144,198,196,142,139,24,145],turn:=[(140,[0]),(143,[0])],opn:=true,rdf:=true,jn:=[((236,28),some { ss:=[.p],n:=29,tv:=[(236,none),(237,none),(238,none),(239,none),(240,none),(241,none),(242,none),(243,none),(244,none),(245,none),(246,none),(247,none)],h:=[(.b (.v 0),.prop 28),(.b (.v 13),.cells [.int .i64 (.i 0),.int .i64 (.i 0),.int .i64 (.i 0),.int .i64 (.i 0),.sl .nil (.n 0) (.n 0),.sl .nil (.n 0) (.n 0)] 31),(.b (.v 12),.cells [.int .i64 (.i 0),.int .i64 (.i 0),.int .i64 (.i 0),.int .i64 (.i 0),.sl .nil (.n 0) (.n 0),.sl .nil (.n 0) (.n 0)] 31),(.b (.v 11),.cells [.int .i64 (.i 5),.str (.v 3),.str (.v 4),.int .i64 (.v 5),.int .i64 (.v 6),.sl (.v 7) (.v 8) (.v 9)] 34),(.a 7,.prop 10)],lk:=[] })] } Tryz.f77 [.a (.ptr (.v 0) 0),.agg [.int .i64 (.i 5),.str (.v 3),.str (.v 4),.int .i64 (.v 5),.int .i64 (.v 6),.sl (.v 7) (.v 8) (.v 9)]] [(.b (.v 0),.prop 1),(.a 7,.prop 10)] 11=t_rdo5:=by kernel_rfl
def t_rdo6:T :=
(.new
(.new
(.new
(.call 141 [.a (.str (.v 3))] [] [.s,.s,.i] (.tup [.a (.str (.v 14)),.a (.str (.v 15)),.a (.int .i64 (.v 16))]) []
(.br (.o1 .not (.o2 .eq (.v 16) (.i 0)))
(.ret (.tup [.agg [.int .i64 (.i 0),.int .i64 (.i 0),.int .i64 (.i 0),.int .i64 (.i 0),.sl .nil (.n 0) (.n 0),.sl .nil (.n 0) (.n 0)],.a (.int .i64 (.v 16))]) [(.b (.v 0),.prop 1),(.a 7,.prop 10)])
(.call 142 [.a (.ptr (.v 0) 0),.a (.str (.v 3))] [(.b (.v 0),.prop 1)] [.i,.i] (.tup [.a (.int .i64 (.v 17)),.a (.int .i64 (.v 18))]) [(.b (.v 0),.prop 1)]
(.br (.o1 .not (.o2 .eq (.v 18) (.i 0)))
(.ret (.tup [.agg [.int .i64 (.i 0),.int .i64 (.i 0),.int .i64 (.i 0),.int .i64 (.i 0),.sl .nil (.n 0) (.n 0),.sl .nil (.n 0) (.n 0)],.a (.int .i64 (.v 18))]) [(.b (.v 0),.prop 1),(.a 7,.prop 10)])
(.call 142 [.a (.ptr (.v 0) 0),.a (.str (.v 14))] [(.b (.v 0),.prop 1)] [.i,.i] (.tup [.a (.int .i64 (.v 19)),.a (.int .i64 (.v 20))]) [(.b (.v 0),.prop 1)]
(.read (.indexAddr 142 (.tmp 149) (.tmp 147)) 0 [(149,.w (.a (.ptr (.v 0) 0))),(147,.w (.a (.int .i64 (.v 17))))] [(.b (.v 0),.prop 1)] [.v] (.w (.a (.val 21)))
(.read (.fieldAddr 43 (.tmp 150) 1) 0 [(150,.w (.a (.val 21)))] [(.b (.v 0),.prop 1)] [.v] (.w (.a (.val 22)))
(.read (.load 3 (.tmp 151)) 3 [(151,.w (.a (.val 22)))] [(.b (.v 0),.prop 1)] [.i] (.w (.a (.int .i64 (.v 23))))
(.br (.o2 .seq (.v 4) (.v 3))
(.ret (.tup [.agg [.int .i64 (.i 0),.int .i64 (.i 0),.int .i64 (.i 0),.int .i64 (.i 0),.sl .nil (.n 0) (.n 0),.sl .nil (.n 0) (.n 0)],.a (.int .i64 (.i 0))]) [(.b (.v 0),.prop 1),(.a 7,.prop 10)])
(.call 144 [.a (.str (.v 4)),.a (.str (.v 3))] [] [.c] (.w (.a (.bool (.v 24)))) []
(.br (.v 24)
(.ret (.tup [.agg [.int .i64 (.i 0),.int .i64 (.i 0),.int .i64 (.i 0),.int .i64 (.i 0),.sl .nil (.n 0) (.n 0),.sl .nil (.n 0) (.n 0)],.a (.int .i64 (.i 26))]) [(.b (.v 0),.prop 1),(.a 7,.prop 10)])
(.call 139 [.a (.ptr (.v 0) 0),.a (.str (.v 4))] [(.b (.v 0),.prop 1)] [.i,.s,.i] (.tup [.a (.int .i64 (.v 25)),.a (.str (.v 26)),.a (.int .i64 (.v 27))]) [(.b (.v 0),.prop 1)]
(.br (.o1 .not (.o2 .eq (.v 27) (.i 0)))
(.ret (.tup [.agg [.int .i64 (.i 0),.int .i64 (.i 0),.int .i64 (.i 0),.int .i64 (.i 0),.sl .nil (.n 0) (.n 0),.sl .nil (.n 0) (.n 0)],.a (.int .i64 (.v 27))]) [(.b (.v 0),.prop 1),(.a 7,.prop 10)])
(.call 143 [.a (.ptr (.v 0) 0),.a (.int .i64 (.v 19)),.a (.str (.v 15))] [(.b (.v 0),.prop 1)] [.p] (.tup []) [(.b (.v 0),.prop 28)]
(.call 140 [.a (.ptr (.v 0) 0),.a (.int .i64 (.v 25)),.a (.str (.v 26)),.a (.int .i64 (.v 17))] [(.b (.v 0),.prop 28)] [.p] (.tup []) [(.b (.v 0),.prop 29)]
(.ret (.tup [.agg [.int .i64 (.i 0),.int .i64 (.i 0),.int .i64 (.i 0),.int .i64 (.i 0),.sl .nil (.n 0) (.n 0),.sl .nil (.n 0) (.n 0)],.a (.int .i64 (.i 0))]) [(.b (.v 0),.prop 29),(.a 7,.prop 10)])))))))))))))))))))
theorem tree_rdo6:tree Tryz.prog { absT:=[142,144],keep:=[30,76,78,144,198,196,142,139,24,145],turn:=[(140,[0]),(143,[0])],opn:=true,rdf:=true } Tryz.f77 [.a (.ptr (.v 0) 0),.agg [.int .i64 (.i 6),.str (.v 3),.str (.v 4),.int .i64 (.v 5),.int .i64 (.v 6),.sl (.v 7) (.v 8) (.v 9)]] [(.b (.v 0),.prop 1),(.a 7,.prop 10)] 11=t_rdo6:=by kernel_rfl
def t_rdo7:T :=
(.new
(.new
(.new
(.call 141 [.a (.str (.v 3))] [] [.s,.s,.i] (.tup [.a (.str (.v 14)),.a (.str (.v 15)),.a (.int .i64 (.v 16))]) []
(.br (.o1 .not (.o2 .eq (.v 16) (.i 0)))
(.call 142 [.a (.ptr (.v 0) 0),.a (.str (.v 3))] [(.b (.v 0),.prop 1)] [.i,.i] (.tup [.a (.int .i64 (.v 17)),.a (.int .i64 (.v 18))]) [(.b (.v 0),.prop 1)]
(.br (.o1 .not (.o2 .eq (.v 18) (.i 0)))
(.ret (.tup [.agg [.int .i64 (.i 0),.int .i64 (.i 0),.int .i64 (.i 0),.int .i64 (.i 0),.sl .nil (.n 0) (.n 0),.sl .nil (.n 0) (.n 0)],.a (.int .i64 (.v 18))]) [(.b (.v 0),.prop 1),(.a 7,.prop 10)])
(.call 142 [.a (.ptr (.v 0) 0),.a (.str (.v 14))] [(.b (.v 0),.prop 1)] [.i,.i] (.tup [.a (.int .i64 (.v 19)),.a (.int .i64 (.v 20))]) [(.b (.v 0),.prop 1)]
(.read (.indexAddr 142 (.tmp 149) (.tmp 147)) 0 [(149,.w (.a (.ptr (.v 0) 0))),(147,.w (.a (.int .i64 (.v 17))))] [(.b (.v 0),.prop 1)] [.v] (.w (.a (.val 21)))
(.read (.fieldAddr 43 (.tmp 150) 1) 0 [(150,.w (.a (.val 21)))] [(.b (.v 0),.prop 1)] [.v] (.w (.a (.val 22)))
(.read (.load 3 (.tmp 151)) 3 [(151,.w (.a (.val 22)))] [(.b (.v 0),.prop 1)] [.i] (.w (.a (.int .i64 (.v 23))))
(.br (.o2 .eq (.v 23) (.i 1))
(.ret (.tup [.agg [.int .i64 (.i 0),.int .i64 (.i 0),.int .i64 (.i 0),.int .i64 (.i 0),.sl .nil (.n 0) (.n 0),.sl .nil (.n 0) (.n 0)],.a (.int .i64 (.i 24))]) [(.b (.v 0),.prop 1),(.a 7,.prop 10)])
(.read (.indexAddr 142 (.tmp 344) (.tmp 342)) 0 [(344,.w (.a (.ptr (.v 0) 0))),(342,.w (.a (.int .i64 (.v 17))))] [(.b (.v 0),.prop 1)] [.v] (.w (.a (.val 24)))
(.read (.fieldAddr 43 (.tmp 345) 3) 0 [(345,.w (.a (.val 24)))] [(.b (.v 0),.prop 1)] [.v] (.w (.a (.val 25)))
(.read (.load 28 (.tmp 346)) 28 [(346,.w (.a (.val 25)))] [(.b (.v 0),.prop 1)] [.a,.n,.n] (.w (.a (.sl (.v 26) (.v 27) (.v 28))))
(.br (.o2 .lt (.v 5) (.i 0))
(.ret (.tup [.agg [.int .i64 (.i 0),.int .i64 (.i 0),.int .i64 (.i 0),.int .i64 (.i 0),.sl .nil (.n 0) (.n 0),.sl .nil (.n 0) (.n 0)],.a (.int .i64 (.i 1))]) [(.b (.v 0),.prop 1),(.a 7,.prop 10)])
(.br (.o2 .lt (.i 256) (.o1 .ofNat (.v 8)))
(.ret (.tup [.agg [.int .i64 (.i 0),.int .i64 (.i 0),.int .i64 (.i 0),.int .i64 (.i 0),.sl .nil (.n 0) (.n 0),.sl .nil (.n 0) (.n 0)],.a (.int .i64 (.i 1))]) [(.b (.v 0),.prop 1),(.a 7,.prop 10)])
(.br (.o2 .lt (.i 512) (.v 5))
(.ret (.tup [.agg [.int .i64 (.i 0),.int .i64 (.i 0),.int .i64 (.i 0),.int .i64 (.i 0),.sl .nil (.n 0) (.n 0),.sl .nil (.n 0) (.n 0)],.a (.int .i64 (.i 27))]) [(.b (.v 0),.prop 1),(.a 7,.prop 10)])
(.need (.o1 (.inr .i64) (.o2 .add (.v 5) (.o1 .ofNat (.v 8))))
(.br (.o2 .lt (.i 512) (.o2 .add (.v 5) (.o1 .ofNat (.v 8))))
(.ret (.tup [.agg [.int .i64 (.i 0),.int .i64 (.i 0),.int .i64 (.i 0),.int .i64 (.i 0),.sl .nil (.n 0) (.n 0),.sl .nil (.n 0) (.n 0)],.a (.int .i64 (.i 27))]) [(.b (.v 0),.prop 1),(.a 7,.prop 10)])
(.br (.o2 .lt (.i 0) (.o1 .ofNat (.v 8)))
(.call 145 [.a (.sl (.v 26) (.v 27) (.v 28)),.a (.int .i64 (.o2 .mx (.o1 .ofNat (.v 27)) (.o2 .add (.v 5) (.o1 .ofNat (.v 8)))))] [(.b (.v 0),.prop 1)] [.a,.n,.n,.p] (.w (.a (.sl (.v 29) (.v 30) (.v 31)))) [(.a 29,.prop 32),(.b (.v 0),.prop 1)]
(.loop [.i,.p] [.e (.o1 .neg (.o1 .neg (.i 0))),.p [(.a 29,.prop 32)]]
(.br (.o2 .lt (.v 33) (.o1 .ofNat (.v 8)))
(.join [.p]
(.need (.o1 (.inr .i64) (.o2 .add (.v 5) (.v 33)))
(.need (.o2 .le (.i 0) (.v 33))
(.need (.o1 .isSome (.v 7))
(.read (.load 5 (.tmp 405)) 5 [(405,.w (.a (.eptr 7 (.v 33) 1 0)))] [(.a 7,.prop 10)] [.i] (.w (.a (.int .u8 (.v 35))))
(.need (.o2 .le (.i 0) (.o2 .add (.v 5) (.v 33)))
(.need (.o2 .lt (.o2 .add (.v 5) (.v 33)) (.o1 .ofNat (.v 30)))
(.need (.o1 .isSome (.v 29))
(.op (.store 5 (.tmp 407) (.tmp 406)) 0 [(407,.w (.a (.eptr 29 (.o2 .add (.v 5) (.v 33)) 1 0))),(406,.w (.a (.int .u8 (.v 35))))] [(.a 29,.prop 34)] [.p] (.tup []) [(.a 29,.prop 36)]
(.again 0 [.p [(.a 29,.prop 36)]])))))))))
(.need (.o1 (.inr .i64) (.o2 .add (.v 33) (.i 1)))
(.again 0 [.e (.o1 .neg (.o1 .neg (.o2 .add (.v 33) (.i 1)))),.p [(.a 29,.prop 35)]])))
(.read (.indexAddr 142 (.tmp 412) (.tmp 409)) 0 [(412,.w (.a (.ptr (.v 0) 0))),(409,.w (.a (.int .i64 (.v 17))))] [(.b (.v 0),.prop 1)] [.v] (.w (.a (.val 35)))
(.read (.fieldAddr 43 (.tmp 413) 3) 0 [(413,.w (.a (.val 35)))] [(.b (.v 0),.prop 1)] [.v] (.w (.a (.val 36)))
(.op (.store 28 (.tmp 414) (.tmp 410)) 0 [(414,.w (.a (.val 36))),(410,.w (.a (.sl (.v 29) (.v 30) (.v 31))))] [(.b (.v 0),.prop 1),(.a 29,.prop 34)] [.p] (.tup []) [(.b (.v 0),.prop 37)]
(.ret (.tup [.agg [.int .i64 (.i 0),.int .i64 (.i 0),.int .i64 (.i 0),.int .i64 (.i 0),.sl .nil (.n 0) (.n 0),.sl .nil (.n 0) (.n 0)],.a (.int .i64 (.i 0))]) [(.b (.v 0),.prop 37),(.a 7,.prop 10)])))))))
(.ret (.tup [.agg [.int .i64 (.i 0),.int .i64 (.i 0),.int .i64 (.i 0),.int .i64 (.i 0),.sl .nil (.n 0) (.n 0),.sl .nil (.n 0) (.n 0)],.a (.int .i64 (.i 0))]) [(.b (.v 0),.prop 1),(.a 7,.prop 10)])))))))))))))))))
(.call 142 [.a (.ptr (.v 0) 0),.a (.str (.v 3))] [(.b (.v 0),.prop 1)] [.i,.i] (.tup [.a (.int .i64 (.v 17)),.a (.int .i64 (.v 18))]) [(.b (.v 0),.prop 1)]
(.br (.o1 .not (.o2 .eq (.v 18) (.i 0)))
(.ret (.tup [.agg [.int .i64 (.i 0),.int .i64 (.i 0),.int .i64 (.i 0),.int .i64 (.i 0),.sl .nil (.n 0) (.n 0),.sl .nil (.n 0) (.n 0)],.a (.int .i64 (.v 18))]) [(.b (.v 0),.prop 1),(.a 7,.prop 10)])
(.call 142 [.a (.ptr (.v 0) 0),.a (.str (.v 14))] [(.b (.v 0),.prop 1)] [.i,.i] (.tup [.a (.int .i64 (.v 19)),.a (.int .i64 (.v 20))]) [(.b (.v 0),.prop 1)]
(.read (.indexAddr 142 (.tmp 149) (.tmp 147)) 0 [(149,.w (.a (.ptr (.v 0) 0))),(147,.w (.a (.int .i64 (.v 17))))] [(.b (.v 0),.prop 1)] [.v] (.w (.a (.val 21)))
(.read (.fieldAddr 43 (.tmp 150) 1) 0 [(150,.w (.a (.val 21)))] [(.b (.v 0),.prop 1)] [.v] (.w (.a (.val 22)))
(.read (.load 3 (.tmp 151)) 3 [(151,.w (.a (.val 22)))] [(.b (.v 0),.prop 1)] [.i] (.w (.a (.int .i64 (.v 23))))
(.br (.o2 .eq (.v 23) (.i 1))
(.ret (.tup [.agg [.int .i64 (.i 0),.int .i64 (.i 0),.int .i64 (.i 0),.int .i64 (.i 0),.sl .nil (.n 0) (.n 0),.sl .nil (.n 0) (.n 0)],.a (.int .i64 (.i 24))]) [(.b (.v 0),.prop 1),(.a 7,.prop 10)])
(.read (.indexAddr 142 (.tmp 344) (.tmp 342)) 0 [(344,.w (.a (.ptr (.v 0) 0))),(342,.w (.a (.int .i64 (.v 17))))] [(.b (.v 0),.prop 1)] [.v] (.w (.a (.val 24)))
(.read (.fieldAddr 43 (.tmp 345) 3) 0 [(345,.w (.a (.val 24)))] [(.b (.v 0),.prop 1)] [.v] (.w (.a (.val 25)))
(.read (.load 28 (.tmp 346)) 28 [(346,.w (.a (.val 25)))] [(.b (.v 0),.prop 1)] [.a,.n,.n] (.w (.a (.sl (.v 26) (.v 27) (.v 28))))
(.br (.o2 .lt (.v 5) (.i 0))
(.ret (.tup [.agg [.int .i64 (.i 0),.int .i64 (.i 0),.int .i64 (.i 0),.int .i64 (.i 0),.sl .nil (.n 0) (.n 0),.sl .nil (.n 0) (.n 0)],.a (.int .i64 (.i 1))]) [(.b (.v 0),.prop 1),(.a 7,.prop 10)])
(.br (.o2 .lt (.i 256) (.o1 .ofNat (.v 8)))
(.ret (.tup [.agg [.int .i64 (.i 0),.int .i64 (.i 0),.int .i64 (.i 0),.int .i64 (.i 0),.sl .nil (.n 0) (.n 0),.sl .nil (.n 0) (.n 0)],.a (.int .i64 (.i 1))]) [(.b (.v 0),.prop 1),(.a 7,.prop 10)])
(.br (.o2 .lt (.i 512) (.v 5))
(.ret (.tup [.agg [.int .i64 (.i 0),.int .i64 (.i 0),.int .i64 (.i 0),.int .i64 (.i 0),.sl .nil (.n 0) (.n 0),.sl .nil (.n 0) (.n 0)],.a (.int .i64 (.i 27))]) [(.b (.v 0),.prop 1),(.a 7,.prop 10)])
(.need (.o1 (.inr .i64) (.o2 .add (.v 5) (.o1 .ofNat (.v 8))))
(.br (.o2 .lt (.i 512) (.o2 .add (.v 5) (.o1 .ofNat (.v 8))))
(.ret (.tup [.agg [.int .i64 (.i 0),.int .i64 (.i 0),.int .i64 (.i 0),.int .i64 (.i 0),.sl .nil (.n 0) (.n 0),.sl .nil (.n 0) (.n 0)],.a (.int .i64 (.i 27))]) [(.b (.v 0),.prop 1),(.a 7,.prop 10)])
(.br (.o2 .lt (.i 0) (.o1 .ofNat (.v 8)))
(.call 145 [.a (.sl (.v 26) (.v 27) (.v 28)),.a (.int .i64 (.o2 .mx (.o1 .ofNat (.v 27)) (.o2 .add (.v 5) (.o1 .ofNat (.v 8)))))] [(.b (.v 0),.prop 1)] [.a,.n,.n,.p] (.w (.a (.sl (.v 29) (.v 30) (.v 31)))) [(.a 29,.prop 32),(.b (.v 0),.prop 1)]
(.loop [.i,.p] [.e (.o1 .neg (.o1 .neg (.i 0))),.p [(.a 29,.prop 32)]]
(.br (.o2 .lt (.v 33) (.o1 .ofNat (.v 8)))
(.join [.p]
(.need (.o1 (.inr .i64) (.o2 .add (.v 5) (.v 33)))
(.need (.o2 .le (.i 0) (.v 33))
(.need (.o1 .isSome (.v 7))
(.read (.load 5 (.tmp 405)) 5 [(405,.w (.a (.eptr 7 (.v 33) 1 0)))] [(.a 7,.prop 10)] [.i] (.w (.a (.int .u8 (.v 35))))
(.need (.o2 .le (.i 0) (.o2 .add (.v 5) (.v 33)))
(.need (.o2 .lt (.o2 .add (.v 5) (.v 33)) (.o1 .ofNat (.v 30)))
(.need (.o1 .isSome (.v 29))
(.op (.store 5 (.tmp 407) (.tmp 406)) 0 [(407,.w (.a (.eptr 29 (.o2 .add (.v 5) (.v 33)) 1 0))),(406,.w (.a (.int .u8 (.v 35))))] [(.a 29,.prop 34)] [.p] (.tup []) [(.a 29,.prop 36)]
(.again 0 [.p [(.a 29,.prop 36)]])))))))))
(.need (.o1 (.inr .i64) (.o2 .add (.v 33) (.i 1)))
(.again 0 [.e (.o1 .neg (.o1 .neg (.o2 .add (.v 33) (.i 1)))),.p [(.a 29,.prop 35)]])))
(.read (.indexAddr 142 (.tmp 412) (.tmp 409)) 0 [(412,.w (.a (.ptr (.v 0) 0))),(409,.w (.a (.int .i64 (.v 17))))] [(.b (.v 0),.prop 1)] [.v] (.w (.a (.val 35)))
(.read (.fieldAddr 43 (.tmp 413) 3) 0 [(413,.w (.a (.val 35)))] [(.b (.v 0),.prop 1)] [.v] (.w (.a (.val 36)))
(.op (.store 28 (.tmp 414) (.tmp 410)) 0 [(414,.w (.a (.val 36))),(410,.w (.a (.sl (.v 29) (.v 30) (.v 31))))] [(.b (.v 0),.prop 1),(.a 29,.prop 34)] [.p] (.tup []) [(.b (.v 0),.prop 37)]
(.ret (.tup [.agg [.int .i64 (.i 0),.int .i64 (.i 0),.int .i64 (.i 0),.int .i64 (.i 0),.sl .nil (.n 0) (.n 0),.sl .nil (.n 0) (.n 0)],.a (.int .i64 (.i 0))]) [(.b (.v 0),.prop 37),(.a 7,.prop 10)])))))))
(.ret (.tup [.agg [.int .i64 (.i 0),.int .i64 (.i 0),.int .i64 (.i 0),.int .i64 (.i 0),.sl .nil (.n 0) (.n 0),.sl .nil (.n 0) (.n 0)],.a (.int .i64 (.i 0))]) [(.b (.v 0),.prop 1),(.a 7,.prop 10)]))))))))))))))))))))))
theorem tree_rdo7:tree Tryz.prog { absT:=[142,144],hv:=[(6,[.a 29])],keep:=[30,76,78,144,198,196,142,139,24,145],turn:=[(140,[0]),(143,[0])],opn:=true,rdf:=true,jn:=[((397,35),some { ss:=[.p],n:=36,tv:=[(397,none),(398,none),(399,none),(400,none),(401,none),(402,none),(403,none),(404,none),(405,none),(406,none),(407,none)],h:=[(.a 29,.prop 35),(.b (.v 0),.prop 1),(.b (.v 13),.cells [.int .i64 (.i 0),.int .i64 (.i 0),.int .i64 (.i 0),.int .i64 (.i 0),.sl .nil (.n 0) (.n 0),.sl .nil (.n 0) (.n 0)] 31),(.b (.v 12),.cells [.int .i64 (.i 0),.int .i64 (.i 0),.int .i64 (.i 0),.int .i64 (.i 0),.sl .nil (.n 0) (.n 0),.sl .nil (.n 0) (.n 0)] 31),(.b (.v 11),.cells [.int .i64 (.i 7),.str (.v 3),.str (.v 4),.int .i64 (.v 5),.int .i64 (.v 6),.sl (.v 7) (.v 8) (.v 9)] 34),(.a 7,.prop 10)],lk:=[] })] } Tryz.f77 [.a (.ptr (.v 0) 0),.agg [.int .i64 (.i 7),.str (.v 3),.str (.v 4),.int .i64 (.v 5),.int .i64 (.v 6),.sl (.v 7) (.v 8) (.v 9)]] [(.b (.v 0),.prop 1),(.a 7,.prop 10)] 11=t_rdo7:=by kernel_rfl
def t_rdo8:T :=
(.new
(.new
(.new
(.call 141 [.a (.str (.v 3))] [] [.s,.s,.i] (.tup [.a (.str (.v 14)),.a (.str (.v 15)),.a (.int .i64 (.v 16))]) []
(.br (.o1 .not (.o2 .eq (.v 16) (.i 0)))
(.call 142 [.a (.ptr (.v 0) 0),.a (.str (.v 3))] [(.b (.v 0),.prop 1)] [.i,.i] (.tup [.a (.int .i64 (.v 17)),.a (.int .i64 (.v 18))]) [(.b (.v 0),.prop 1)]
(.br (.o1 .not (.o2 .eq (.v 18) (.i 0)))
(.ret (.tup [.agg [.int .i64 (.i 0),.int .i64 (.i 0),.int .i64 (.i 0),.int .i64 (.i 0),.sl .nil (.n 0) (.n 0),.sl .nil (.n 0) (.n 0)],.a (.int .i64 (.v 18))]) [(.b (.v 0),.prop 1),(.a 7,.prop 10)])
(.call 142 [.a (.ptr (.v 0) 0),.a (.str (.v 14))] [(.b (.v 0),.prop 1)] [.i,.i] (.tup [.a (.int .i64 (.v 19)),.a (.int .i64 (.v 20))]) [(.b (.v 0),.prop 1)]
(.read (.indexAddr 142 (.tmp 149) (.tmp 147)) 0 [(149,.w (.a (.ptr (.v 0) 0))),(147,.w (.a (.int .i64 (.v 17))))] [(.b (.v 0),.prop 1)] [.v] (.w (.a (.val 21)))
(.read (.fieldAddr 43 (.tmp 150) 1) 0 [(150,.w (.a (.val 21)))] [(.b (.v 0),.prop 1)] [.v] (.w (.a (.val 22)))
(.read (.load 3 (.tmp 151)) 3 [(151,.w (.a (.val 22)))] [(.b (.v 0),.prop 1)] [.i] (.w (.a (.int .i64 (.v 23))))
(.br (.o2 .eq (.v 23) (.i 1))
(.ret (.tup [.agg [.int .i64 (.i 0),.int .i64 (.i 0),.int .i64 (.i 0),.int .i64 (.i 0),.sl .nil (.n 0) (.n 0),.sl .nil (.n 0) (.n 0)],.a (.int .i64 (.i 24))]) [(.b (.v 0),.prop 1),(.a 7,.prop 10)])
(.read (.indexAddr 142 (.tmp 344) (.tmp 342)) 0 [(344,.w (.a (.ptr (.v 0) 0))),(342,.w (.a (.int .i64 (.v 17))))] [(.b (.v 0),.prop 1)] [.v] (.w (.a (.val 24)))
(.read (.fieldAddr 43 (.tmp 345) 3) 0 [(345,.w (.a (.val 24)))] [(.b (.v 0),.prop 1)] [.v] (.w (.a (.val 25)))
(.read (.load 28 (.tmp 346)) 28 [(346,.w (.a (.val 25)))] [(.b (.v 0),.prop 1)] [.a,.n,.n] (.w (.a (.sl (.v 26) (.v 27) (.v 28))))
(.br (.o2 .lt (.v 5) (.i 0))
(.ret (.tup [.agg [.int .i64 (.i 0),.int .i64 (.i 0),.int .i64 (.i 0),.int .i64 (.i 0),.sl .nil (.n 0) (.n 0),.sl .nil (.n 0) (.n 0)],.a (.int .i64 (.i 1))]) [(.b (.v 0),.prop 1),(.a 7,.prop 10)])
(.br (.o2 .lt (.v 6) (.i 0))
(.ret (.tup [.agg [.int .i64 (.i 0),.int .i64 (.i 0),.int .i64 (.i 0),.int .i64 (.i 0),.sl .nil (.n 0) (.n 0),.sl .nil (.n 0) (.n 0)],.a (.int .i64 (.i 1))]) [(.b (.v 0),.prop 1),(.a 7,.prop 10)])
(.br (.o2 .lt (.i 256) (.v 6))
(.ret (.tup [.agg [.int .i64 (.i 0),.int .i64 (.i 0),.int .i64 (.i 0),.int .i64 (.i 0),.sl .nil (.n 0) (.n 0),.sl .nil (.n 0) (.n 0)],.a (.int .i64 (.i 1))]) [(.b (.v 0),.prop 1),(.a 7,.prop 10)])
(.loop [.i,.i,.i,.i,.i,.a,.n,.n,.p,.a,.n,.n,.p] [.e (.o1 .neg (.o1 .neg (.i 0))),.e (.o1 .neg (.o1 .neg (.i 0))),.e (.o1 .neg (.o1 .neg (.i 0))),.e (.o1 .neg (.o1 .neg (.i 0))),.e (.o1 .neg (.o1 .neg (.i 0))),.a .nil,.e (.o2 .nadd (.n 0) (.n 0)),.e (.o2 .nadd (.n 0) (.n 0)),.p [],.a .nil,.e (.o2 .nadd (.n 0) (.n 0)),.e (.o2 .nadd (.n 0) (.n 0)),.p []]
(.br (.o2 .lt (.v 29) (.v 6))
(.br (.o2 .lt (.v 5) (.o1 .ofNat (.v 27)))
(.need (.o1 (.inr .i64) (.o2 .add (.v 5) (.v 29)))
(.br (.o2 .lt (.o2 .add (.v 5) (.v 29)) (.o1 .ofNat (.v 27)))
(.join [.a,.n,.n,.p]
(.need (.o2 .le (.i 0) (.o2 .add (.v 5) (.v 29)))
(.need (.o1 .isSome (.v 26))
(.read (.load 5 (.tmp 460)) 5 [(460,.w (.a (.eptr 26 (.o2 .add (.v 5) (.v 29)) 1 0)))] [(.b (.v 0),.prop 1)] [.i] (.w (.a (.int .u8 (.v 42))))
(.new
(.op (.call ⟨.builtin .append,#[.tmp 454,.tmp 462],#[28,28]⟩) 28 [(454,.w (.a (.sl (.v 34) (.v 35) (.v 36)))),(462,.w (.a (.sl (.b (.v 43) 0) (.n 1) (.n 1))))] [(.a 34,.prop 37),(.b (.v 43),.cells [.int .u8 (.v 42)] 5)] [.a,.n,.n,.p] (.w (.a (.sl (.v 44) (.v 45) (.v 46)))) [(.a 44,.prop 47),(.b (.v 43),.cells [.int .u8 (.v 42)] 5)]
(.again 0 [.a (.v 44),.e (.o2 .nadd (.v 45) (.n 0)),.e (.o2 .nadd (.v 46) (.n 0)),.p [(.a 44,.prop 47)]]))))))
(.need (.o1 (.inr .i64) (.o2 .add (.v 29) (.i 1)))
(.again 0 [.e (.o1 .neg (.o1 .neg (.o2 .add (.v 29) (.i 1)))),.e (.o1 .neg (.o1 .neg (.v 30))),.e (.o1 .neg (.o1 .neg (.v 31))),.e (.o1 .neg (.o1 .neg (.v 32))),.e (.o1 .neg (.o1 .neg (.v 33))),.a (.v 42),.e (.o2 .nadd (.v 43) (.n 0)),.e (.o2 .nadd (.v 44) (.n 0)),.p [(.a 42,.prop 45)],.a (.v 38),.e (.o2 .nadd (.v 39) (.n 0)),.e (.o2 .nadd (.v 40) (.n 0)),.p [(.a 38,.prop 41)]])))
(.ret (.tup [.agg [.int .i64 (.v 30),.int .i64 (.v 31),.int .i64 (.v 32),.int .i64 (.v 33),.sl (.v 34) (.v 35) (.v 36),.sl (.v 38) (.v 39) (.v 40)],.a (.int .i64 (.i 0))]) [(.b (.v 0),.prop 1),(.a 7,.prop 10),(.a 34,.prop 37),(.a 38,.prop 41)])))
(.ret (.tup [.agg [.int .i64 (.v 30),.int .i64 (.v 31),.int .i64 (.v 32),.int .i64 (.v 33),.sl (.v 34) (.v 35) (.v 36),.sl (.v 38) (.v 39) (.v 40)],.a (.int .i64 (.i 0))]) [(.b (.v 0),.prop 1),(.a 7,.prop 10),(.a 34,.prop 37),(.a 38,.prop 41)]))
(.ret (.tup [.agg [.int .i64 (.v 30),.int .i64 (.v 31),.int .i64 (.v 32),.int .i64 (.v 33),.sl (.v 34) (.v 35) (.v 36),.sl (.v 38) (.v 39) (.v 40)],.a (.int .i64 (.i 0))]) [(.b (.v 0),.prop 1),(.a 7,.prop 10),(.a 34,.prop 37),(.a 38,.prop 41)]))))))))))))))))
(.call 142 [.a (.ptr (.v 0) 0),.a (.str (.v 3))] [(.b (.v 0),.prop 1)] [.i,.i] (.tup [.a (.int .i64 (.v 17)),.a (.int .i64 (.v 18))]) [(.b (.v 0),.prop 1)]
(.br (.o1 .not (.o2 .eq (.v 18) (.i 0)))
(.ret (.tup [.agg [.int .i64 (.i 0),.int .i64 (.i 0),.int .i64 (.i 0),.int .i64 (.i 0),.sl .nil (.n 0) (.n 0),.sl .nil (.n 0) (.n 0)],.a (.int .i64 (.v 18))]) [(.b (.v 0),.prop 1),(.a 7,.prop 10)])
(.call 142 [.a (.ptr (.v 0) 0),.a (.str (.v 14))] [(.b (.v 0),.prop 1)] [.i,.i] (.tup [.a (.int .i64 (.v 19)),.a (.int .i64 (.v 20))]) [(.b (.v 0),.prop 1)]
(.read (.indexAddr 142 (.tmp 149) (.tmp 147)) 0 [(149,.w (.a (.ptr (.v 0) 0))),(147,.w (.a (.int .i64 (.v 17))))] [(.b (.v 0),.prop 1)] [.v] (.w (.a (.val 21)))
(.read (.fieldAddr 43 (.tmp 150) 1) 0 [(150,.w (.a (.val 21)))] [(.b (.v 0),.prop 1)] [.v] (.w (.a (.val 22)))
(.read (.load 3 (.tmp 151)) 3 [(151,.w (.a (.val 22)))] [(.b (.v 0),.prop 1)] [.i] (.w (.a (.int .i64 (.v 23))))
(.br (.o2 .eq (.v 23) (.i 1))
(.ret (.tup [.agg [.int .i64 (.i 0),.int .i64 (.i 0),.int .i64 (.i 0),.int .i64 (.i 0),.sl .nil (.n 0) (.n 0),.sl .nil (.n 0) (.n 0)],.a (.int .i64 (.i 24))]) [(.b (.v 0),.prop 1),(.a 7,.prop 10)])
(.read (.indexAddr 142 (.tmp 344) (.tmp 342)) 0 [(344,.w (.a (.ptr (.v 0) 0))),(342,.w (.a (.int .i64 (.v 17))))] [(.b (.v 0),.prop 1)] [.v] (.w (.a (.val 24)))
(.read (.fieldAddr 43 (.tmp 345) 3) 0 [(345,.w (.a (.val 24)))] [(.b (.v 0),.prop 1)] [.v] (.w (.a (.val 25)))
(.read (.load 28 (.tmp 346)) 28 [(346,.w (.a (.val 25)))] [(.b (.v 0),.prop 1)] [.a,.n,.n] (.w (.a (.sl (.v 26) (.v 27) (.v 28))))
(.br (.o2 .lt (.v 5) (.i 0))
(.ret (.tup [.agg [.int .i64 (.i 0),.int .i64 (.i 0),.int .i64 (.i 0),.int .i64 (.i 0),.sl .nil (.n 0) (.n 0),.sl .nil (.n 0) (.n 0)],.a (.int .i64 (.i 1))]) [(.b (.v 0),.prop 1),(.a 7,.prop 10)])
(.br (.o2 .lt (.v 6) (.i 0))
(.ret (.tup [.agg [.int .i64 (.i 0),.int .i64 (.i 0),.int .i64 (.i 0),.int .i64 (.i 0),.sl .nil (.n 0) (.n 0),.sl .nil (.n 0) (.n 0)],.a (.int .i64 (.i 1))]) [(.b (.v 0),.prop 1),(.a 7,.prop 10)])
(.br (.o2 .lt (.i 256) (.v 6))
(.ret (.tup [.agg [.int .i64 (.i 0),.int .i64 (.i 0),.int .i64 (.i 0),.int .i64 (.i 0),.sl .nil (.n 0) (.n 0),.sl .nil (.n 0) (.n 0)],.a (.int .i64 (.i 1))]) [(.b (.v 0),.prop 1),(.a 7,.prop 10)])
(.loop [.i,.i,.i,.i,.i,.a,.n,.n,.p,.a,.n,.n,.p] [.e (.o1 .neg (.o1 .neg (.i 0))),.e (.o1 .neg (.o1 .neg (.i 0))),.e (.o1 .neg (.o1 .neg (.i 0))),.e (.o1 .neg (.o1 .neg (.i 0))),.e (.o1 .neg (.o1 .neg (.i 0))),.a .nil,.e (.o2 .nadd (.n 0) (.n 0)),.e (.o2 .nadd (.n 0) (.n 0)),.p [],.a .nil,.e (.o2 .nadd (.n 0) (.n 0)),.e (.o2 .nadd (.n 0) (.n 0)),.p []]
(.br (.o2 .lt (.v 29) (.v 6))
(.br (.o2 .lt (.v 5) (.o1 .ofNat (.v 27)))
(.need (.o1 (.inr .i64) (.o2 .add (.v 5) (.v 29)))
(.br (.o2 .lt (.o2 .add (.v 5) (.v 29)) (.o1 .ofNat (.v 27)))
(.join [.a,.n,.n,.p]
(.need (.o2 .le (.i 0) (.o2 .add (.v 5) (.v 29)))
(.need (.o1 .isSome (.v 26))
(.read (.load 5 (.tmp 460)) 5 [(460,.w (.a (.eptr 26 (.o2 .add (.v 5) (.v 29)) 1 0)))] [(.b (.v 0),.prop 1)] [.i] (.w (.a (.int .u8 (.v 42))))
(.new
(.op (.call ⟨.builtin .append,#[.tmp 454,.tmp 462],#[28,28]⟩) 28 [(454,.w (.a (.sl (.v 34) (.v 35) (.v 36)))),(462,.w (.a (.sl (.b (.v 43) 0) (.n 1) (.n 1))))] [(.a 34,.prop 37),(.b (.v 43),.cells [.int .u8 (.v 42)] 5)] [.a,.n,.n,.p] (.w (.a (.sl (.v 44) (.v 45) (.v 46)))) [(.a 44,.prop 47),(.b (.v 43),.cells [.int .u8 (.v 42)] 5)]
(.again 0 [.a (.v 44),.e (.o2 .nadd (.v 45) (.n 0)),.e (.o2 .nadd (.v 46) (.n 0)),.p [(.a 44,.prop 47)]]))))))
(.need (.o1 (.inr .i64) (.o2 .add (.v 29) (.i 1)))
(.again 0 [.e (.o1 .neg (.o1 .neg (.o2 .add (.v 29) (.i 1)))),.e (.o1 .neg (.o1 .neg (.v 30))),.e (.o1 .neg (.o1 .neg (.v 31))),.e (.o1 .neg (.o1 .neg (.v 32))),.e (.o1 .neg (.o1 .neg (.v 33))),.a (.v 42),.e (.o2 .nadd (.v 43) (.n 0)),.e (.o2 .nadd (.v 44) (.n 0)),.p [(.a 42,.prop 45)],.a (.v 38),.e (.o2 .nadd (.v 39) (.n 0)),.e (.o2 .nadd (.v 40) (.n 0)),.p [(.a 38,.prop 41)]])))
(.ret (.tup [.agg [.int .i64 (.v 30),.int .i64 (.v 31),.int .i64 (.v 32),.int .i64 (.v 33),.sl (.v 34) (.v 35) (.v 36),.sl (.v 38) (.v 39) (.v 40)],.a (.int .i64 (.i 0))]) [(.b (.v 0),.prop 1),(.a 7,.prop 10),(.a 34,.prop 37),(.a 38,.prop 41)])))
(.ret (.tup [.agg [.int .i64 (.v 30),.int .i64 (.v 31),.int .i64 (.v 32),.int .i64 (.v 33),.sl (.v 34) (.v 35) (.v 36),.sl (.v 38) (.v 39) (.v 40)],.a (.int .i64 (.i 0))]) [(.b (.v 0),.prop 1),(.a 7,.prop 10),(.a 34,.prop 37),(.a 38,.prop 41)]))
(.ret (.tup [.agg [.int .i64 (.v 30),.int .i64 (.v 31),.int .i64 (.v 32),.int .i64 (.v 33),.sl (.v 34) (.v 35) (.v 36),.sl (.v 38) (.v 39) (.v 40)],.a (.int .i64 (.i 0))]) [(.b (.v 0),.prop 1),(.a 7,.prop 10),(.a 34,.prop 37),(.a 38,.prop 41)])))))))))))))))))))))
theorem tree_rdo8:tree Tryz.prog { absT:=[142,144],hv:=[(8,[.b (.v 13)])],keep:=[30,76,78,144,198,196,142,139,24,145],turn:=[(140,[0]),(143,[0])],opn:=true,rdf:=true,jn:=[((453,42),some { ss:=[.a,.n,.n,.p],n:=46,tv:=[(453,none),(454,none),(455,none),(456,none),(457,none),(458,none),(459,none),(460,none),(461,none),(462,none),(463,none),(464,none)],h:=[(.b (.v 13),.cells [.int .i64 (.v 30),.int .i64 (.v 31),.int .i64 (.v 32),.int .i64 (.v 33),.sl (.v 42) (.v 43) (.v 44),.sl (.v 38) (.v 39) (.v 40)] 31),(.a 42,.prop 45),(.b (.v 0),.prop 1),(.b (.v 12),.cells [.int .i64 (.i 0),.int .i64 (.i 0),.int .i64 (.i 0),.int .i64 (.i 0),.sl .nil (.n 0) (.n 0),.sl .nil (.n 0) (.n 0)] 31),(.b (.v 11),.cells [.int .i64 (.i 8),.str (.v 3),.str (.v 4),.int .i64 (.v 5),.int .i64 (.v 6),.sl (.v 7) (.v 8) (.v 9)] 34),(.a 7,.prop 10),(.a 38,.prop 41)],lk:=[] })] } Tryz.f77 [.a (.ptr (.v 0) 0),.agg [.int .i64 (.i 8),.str (.v 3),.str (.v 4),.int .i64 (.v 5),.int .i64 (.v 6),.sl (.v 7) (.v 8) (.v 9)]] [(.b (.v 0),.prop 1),(.a 7,.prop 10)] 11=t_rdo8:=by kernel_rfl
def t_rdo9:T :=
(.new
(.new
(.new
(.call 141 [.a (.str (.v 3))] [] [.s,.s,.i] (.tup [.a (.str (.v 14)),.a (.str (.v 15)),.a (.int .i64 (.v 16))]) []
(.br (.o1 .not (.o2 .eq (.v 16) (.i 0)))
(.call 142 [.a (.ptr (.v 0) 0),.a (.str (.v 3))] [(.b (.v 0),.prop 1)] [.i,.i] (.tup [.a (.int .i64 (.v 17)),.a (.int .i64 (.v 18))]) [(.b (.v 0),.prop 1)]
(.br (.o1 .not (.o2 .eq (.v 18) (.i 0)))
(.ret (.tup [.agg [.int .i64 (.i 0),.int .i64 (.i 0),.int .i64 (.i 0),.int .i64 (.i 0),.sl .nil (.n 0) (.n 0),.sl .nil (.n 0) (.n 0)],.a (.int .i64 (.v 18))]) [(.b (.v 0),.prop 1),(.a 7,.prop 10)])
(.call 142 [.a (.ptr (.v 0) 0),.a (.str (.v 14))] [(.b (.v 0),.prop 1)] [.i,.i] (.tup [.a (.int .i64 (.v 19)),.a (.int .i64 (.v 20))]) [(.b (.v 0),.prop 1)]
(.read (.indexAddr 142 (.tmp 149) (.tmp 147)) 0 [(149,.w (.a (.ptr (.v 0) 0))),(147,.w (.a (.int .i64 (.v 17))))] [(.b (.v 0),.prop 1)] [.v] (.w (.a (.val 21)))
(.read (.fieldAddr 43 (.tmp 150) 1) 0 [(150,.w (.a (.val 21)))] [(.b (.v 0),.prop 1)] [.v] (.w (.a (.val 22)))
(.read (.load 3 (.tmp 151)) 3 [(151,.w (.a (.val 22)))] [(.b (.v 0),.prop 1)] [.i] (.w (.a (.int .i64 (.v 23))))
(.br (.o2 .eq (.v 23) (.i 1))
(.ret (.tup [.agg [.int .i64 (.i 0),.int .i64 (.i 0),.int .i64 (.i 0),.int .i64 (.i 0),.sl .nil (.n 0) (.n 0),.sl .nil (.n 0) (.n 0)],.a (.int .i64 (.i 24))]) [(.b (.v 0),.prop 1),(.a 7,.prop 10)])
(.read (.indexAddr 142 (.tmp 344) (.tmp 342)) 0 [(344,.w (.a (.ptr (.v 0) 0))),(342,.w (.a (.int .i64 (.v 17))))] [(.b (.v 0),.prop 1)] [.v] (.w (.a (.val 24)))
(.read (.fieldAddr 43 (.tmp 345) 3) 0 [(345,.w (.a (.val 24)))] [(.b (.v 0),.prop 1)] [.v] (.w (.a (.val 25)))
(.read (.load 28 (.tmp 346)) 28 [(346,.w (.a (.val 25)))] [(.b (.v 0),.prop 1)] [.a,.n,.n] (.w (.a (.sl (.v 26) (.v 27) (.v 28))))
(.br (.o2 .lt (.v 6) (.i 0))
(.ret (.tup [.agg [.int .i64 (.i 0),.int .i64 (.i 0),.int .i64 (.i 0),.int .i64 (.i 0),.sl .nil (.n 0) (.n 0),.sl .nil (.n 0) (.n 0)],.a (.int .i64 (.i 1))]) [(.b (.v 0),.prop 1),(.a 7,.prop 10)])
(.br (.o2 .lt (.i 512) (.v 6))
(.ret (.tup [.agg [.int .i64 (.i 0),.int .i64 (.i 0),.int .i64 (.i 0),.int .i64 (.i 0),.sl .nil (.n 0) (.n 0),.sl .nil (.n 0) (.n 0)],.a (.int .i64 (.i 27))]) [(.b (.v 0),.prop 1),(.a 7,.prop 10)])
(.join [.p]
(.call 145 [.a (.sl (.v 26) (.v 27) (.v 28)),.a (.int .i64 (.v 6))] [(.b (.v 0),.prop 1)] [.a,.n,.n,.p] (.w (.a (.sl (.v 29) (.v 30) (.v 31)))) [(.a 29,.prop 32),(.b (.v 0),.prop 1)]
(.read (.indexAddr 142 (.tmp 482) (.tmp 476)) 0 [(482,.w (.a (.ptr (.v 0) 0))),(476,.w (.a (.int .i64 (.v 17))))] [(.b (.v 0),.prop 1)] [.v] (.w (.a (.val 33)))
(.read (.fieldAddr 43 (.tmp 483) 3) 0 [(483,.w (.a (.val 33)))] [(.b (.v 0),.prop 1)] [.v] (.w (.a (.val 34)))
(.op (.store 28 (.tmp 484) (.tmp 480)) 0 [(484,.w (.a (.val 34))),(480,.w (.a (.sl (.v 29) (.v 30) (.v 31))))] [(.b (.v 0),.prop 1),(.a 29,.prop 32)] [.p] (.tup []) [(.b (.v 0),.prop 35)]
(.again 0 [.p [(.b (.v 0),.prop 35)]])))))
(.ret (.tup [.agg [.int .i64 (.i 0),.int .i64 (.i 0),.int .i64 (.i 0),.int .i64 (.i 0),.sl .nil (.n 0) (.n 0),.sl .nil (.n 0) (.n 0)],.a (.int .i64 (.i 0))]) [(.b (.v 0),.prop 29),(.a 7,.prop 10)]))))))))))))))
(.call 142 [.a (.ptr (.v 0) 0),.a (.str (.v 3))] [(.b (.v 0),.prop 1)] [.i,.i] (.tup [.a (.int .i64 (.v 17)),.a (.int .i64 (.v 18))]) [(.b (.v 0),.prop 1)]
(.br (.o1 .not (.o2 .eq (.v 18) (.i 0)))
(.ret (.tup [.agg [.int .i64 (.i 0),.int .i64 (.i 0),.int .i64 (.i 0),.int .i64 (.i 0),.sl .nil (.n 0) (.n 0),.sl .nil (.n 0) (.n 0)],.a (.int .i64 (.v 18))]) [(.b (.v 0),.prop 1),(.a 7,.prop 10)])
(.call 142 [.a (.ptr (.v 0) 0),.a (.str (.v 14))] [(.b (.v 0),.prop 1)] [.i,.i] (.tup [.a (.int .i64 (.v 19)),.a (.int .i64 (.v 20))]) [(.b (.v 0),.prop 1)]
(.read (.indexAddr 142 (.tmp 149) (.tmp 147)) 0 [(149,.w (.a (.ptr (.v 0) 0))),(147,.w (.a (.int .i64 (.v 17))))] [(.b (.v 0),.prop 1)] [.v] (.w (.a (.val 21)))
(.read (.fieldAddr 43 (.tmp 150) 1) 0 [(150,.w (.a (.val 21)))] [(.b (.v 0),.prop 1)] [.v] (.w (.a (.val 22)))
(.read (.load 3 (.tmp 151)) 3 [(151,.w (.a (.val 22)))] [(.b (.v 0),.prop 1)] [.i] (.w (.a (.int .i64 (.v 23))))
(.br (.o2 .eq (.v 23) (.i 1))
(.ret (.tup [.agg [.int .i64 (.i 0),.int .i64 (.i 0),.int .i64 (.i 0),.int .i64 (.i 0),.sl .nil (.n 0) (.n 0),.sl .nil (.n 0) (.n 0)],.a (.int .i64 (.i 24))]) [(.b (.v 0),.prop 1),(.a 7,.prop 10)])
(.read (.indexAddr 142 (.tmp 344) (.tmp 342)) 0 [(344,.w (.a (.ptr (.v 0) 0))),(342,.w (.a (.int .i64 (.v 17))))] [(.b (.v 0),.prop 1)] [.v] (.w (.a (.val 24)))
(.read (.fieldAddr 43 (.tmp 345) 3) 0 [(345,.w (.a (.val 24)))] [(.b (.v 0),.prop 1)] [.v] (.w (.a (.val 25)))
(.read (.load 28 (.tmp 346)) 28 [(346,.w (.a (.val 25)))] [(.b (.v 0),.prop 1)] [.a,.n,.n] (.w (.a (.sl (.v 26) (.v 27) (.v 28))))
(.br (.o2 .lt (.v 6) (.i 0))
(.ret (.tup [.agg [.int .i64 (.i 0),.int .i64 (.i 0),.int .i64 (.i 0),.int .i64 (.i 0),.sl .nil (.n 0) (.n 0),.sl .nil (.n 0) (.n 0)],.a (.int .i64 (.i 1))]) [(.b (.v 0),.prop 1),(.a 7,.prop 10)])
(.br (.o2 .lt (.i 512) (.v 6))
(.ret (.tup [.agg [.int .i64 (.i 0),.int .i64 (.i 0),.int .i64 (.i 0),.int .i64 (.i 0),.sl .nil (.n 0) (.n 0),.sl .nil (.n 0) (.n 0)],.a (.int .i64 (.i 27))]) [(.b (.v 0),.prop 1),(.a 7,.prop 10)])
(.join [.p]
(.call 145 [.a (.sl (.v 26) (.v 27) (.v 28)),.a (.int .i64 (.v 6))] [(.b (.v 0),.prop 1)] [.a,.n,.n,.p] (.w (.a (.sl (.v 29) (.v 30) (.v 31)))) [(.a 29,.prop 32),(.b (.v 0),.prop 1)]
(.read (.indexAddr 142 (.tmp 482) (.tmp 476)) 0 [(482,.w (.a (.ptr (.v 0) 0))),(476,.w (.a (.int .i64 (.v 17))))] [(.b (.v 0),.prop 1)] [.v] (.w (.a (.val 33)))
(.read (.fieldAddr 43 (.tmp 483) 3) 0 [(483,.w (.a (.val 33)))] [(.b (.v 0),.prop 1)] [.v] (.w (.a (.val 34)))
(.op (.store 28 (.tmp 484) (.tmp 480)) 0 [(484,.w (.a (.val 34))),(480,.w (.a (.sl (.v 29) (.v 30) (.v 31))))] [(.b (.v 0),.prop 1),(.a 29,.prop 32)] [.p] (.tup []) [(.b (.v 0),.prop 35)]
(.again 0 [.p [(.b (.v 0),.prop 35)]])))))
(.ret (.tup [.agg [.int .i64 (.i 0),.int .i64 (.i 0),.int .i64 (.i 0),.int .i64 (.i 0),.sl .nil (.n 0) (.n 0),.sl .nil (.n 0) (.n 0)],.a (.int .i64 (.i 0))]) [(.b (.v 0),.prop 29),(.a 7,.prop 10)])))))))))))))))))))
theorem tree_rdo9:tree Tryz.prog { absT:=[142,144],keep:=[30,76,78,144,198,196,142,139,24,145],turn:=[(140,[0]),(143,[0])],opn:=true,rdf:=true,jn:=[((475,29),some { ss:=[.p],n:=30,tv:=[(475,none),(476,none),(477,none),(478,none),(479,none),(480,none),(481,none),(482,none),(483,none),(484,none)],h:=[(.b (.v 0),.prop 29),(.b (.v 13),.cells [.int .i64 (.i 0),.int .i64 (.i 0),.int .i64 (.i 0),.int .i64 (.i 0),.sl .nil (.n 0) (.n 0),.sl .nil (.n 0) (.n 0)] 31),(.b (.v 12),.cells [.int .i64 (.i 0),.int .i64 (.i 0),.int .i64 (.i 0),.int .i64 (.i 0),.sl .nil (.n 0) (.n 0),.sl .nil (.n 0) (.n 0)] 31),(.b (.v 11),.cells [.int .i64 (.i 9),.str (.v 3),.str (.v 4),.int .i64 (.v 5),.int .i64 (.v 6),.sl (.v 7) (.v 8) (.v 9)] 34),(.a 7,.prop 10)],lk:=[] })] } Tryz.f77 [.a (.ptr (.v 0) 0),.agg [.int .i64 (.i 9),.str (.v 3),.str (.v 4),.int .i64 (.v 5),.int .i64 (.v 6),.sl (.v 7) (.v 8) (.v 9)]] [(.b (.v 0),.prop 1),(.a 7,.prop 10)] 11=t_rdo9:=by kernel_rfl
def t_rdo10:T :=
(.new
(.new
(.new
(.call 141 [.a (.str (.v 3))] [] [.s,.s,.i] (.tup [.a (.str (.v 14)),.a (.str (.v 15)),.a (.int .i64 (.v 16))]) []
(.br (.o1 .not (.o2 .eq (.v 16) (.i 0)))
(.call 142 [.a (.ptr (.v 0) 0),.a (.str (.v 3))] [(.b (.v 0),.prop 1)] [.i,.i] (.tup [.a (.int .i64 (.v 17)),.a (.int .i64 (.v 18))]) [(.b (.v 0),.prop 1)]
(.br (.o1 .not (.o2 .eq (.v 18) (.i 0)))
(.ret (.tup [.agg [.int .i64 (.i 0),.int .i64 (.i 0),.int .i64 (.i 0),.int .i64 (.i 0),.sl .nil (.n 0) (.n 0),.sl .nil (.n 0) (.n 0)],.a (.int .i64 (.v 18))]) [(.b (.v 0),.prop 1),(.a 7,.prop 10)])
(.call 142 [.a (.ptr (.v 0) 0),.a (.str (.v 14))] [(.b (.v 0),.prop 1)] [.i,.i] (.tup [.a (.int .i64 (.v 19)),.a (.int .i64 (.v 20))]) [(.b (.v 0),.prop 1)]
(.read (.indexAddr 142 (.tmp 149) (.tmp 147)) 0 [(149,.w (.a (.ptr (.v 0) 0))),(147,.w (.a (.int .i64 (.v 17))))] [(.b (.v 0),.prop 1)] [.v] (.w (.a (.val 21)))
(.read (.fieldAddr 43 (.tmp 150) 1) 0 [(150,.w (.a (.val 21)))] [(.b (.v 0),.prop 1)] [.v] (.w (.a (.val 22)))
(.read (.load 3 (.tmp 151)) 3 [(151,.w (.a (.val 22)))] [(.b (.v 0),.prop 1)] [.i] (.w (.a (.int .i64 (.v 23))))
(.read (.indexAddr 142 (.tmp 290) (.tmp 288)) 0 [(290,.w (.a (.ptr (.v 0) 0))),(288,.w (.a (.int .i64 (.v 17))))] [(.b (.v 0),.prop 1)] [.v] (.w (.a (.val 24)))
(.read (.load 43 (.tmp 291)) 43 [(291,.w (.a (.val 24)))] [(.b (.v 0),.prop 1)] [.i,.i,.i,.a,.n,.n,.a,.n,.n] (.w (.agg [.int .i64 (.v 25),.int .i64 (.v 26),.int .i64 (.v 27),.sl (.v 28) (.v 29) (.v 30),.sl (.v 31) (.v 32) (.v 33)]))
(.new
(.need (.o1 (.inr .i64) (.o2 .add (.o1 .ofNat (.v 29)) (.o1 .ofNat (.v 32))))
(.ret (.tup [.agg [.int .i64 (.i 0),.int .i64 (.v 26),.int .i64 (.o2 .add (.o1 .ofNat (.v 29)) (.o1 .ofNat (.v 32))),.int .i64 (.v 27),.sl .nil (.n 0) (.n 0),.sl .nil (.n 0) (.n 0)],.a (.int .i64 (.i 0))]) [(.b (.v 0),.prop 1),(.a 7,.prop 10)])))))))))))
(.call 142 [.a (.ptr (.v 0) 0),.a (.str (.v 3))] [(.b (.v 0),.prop 1)] [.i,.i] (.tup [.a (.int .i64 (.v 17)),.a (.int .i64 (.v 18))]) [(.b (.v 0),.prop 1)]
(.br (.o1 .not (.o2 .eq (.v 18) (.i 0)))
(.ret (.tup [.agg [.int .i64 (.i 0),.int .i64 (.i 0),.int .i64 (.i 0),.int .i64 (.i 0),.sl .nil (.n 0) (.n 0),.sl .nil (.n 0) (.n 0)],.a (.int .i64 (.v 18))]) [(.b (.v 0),.prop 1),(.a 7,.prop 10)])
(.call 142 [.a (.ptr (.v 0) 0),.a (.str (.v 14))] [(.b (.v 0),.prop 1)] [.i,.i] (.tup [.a (.int .i64 (.v 19)),.a (.int .i64 (.v 20))]) [(.b (.v 0),.prop 1)]
(.read (.indexAddr 142 (.tmp 149) (.tmp 147)) 0 [(149,.w (.a (.ptr (.v 0) 0))),(147,.w (.a (.int .i64 (.v 17))))] [(.b (.v 0),.prop 1)] [.v] (.w (.a (.val 21)))
(.read (.fieldAddr 43 (.tmp 150) 1) 0 [(150,.w (.a (.val 21)))] [(.b (.v 0),.prop 1)] [.v] (.w (.a (.val 22)))
(.read (.load 3 (.tmp 151)) 3 [(151,.w (.a (.val 22)))] [(.b (.v 0),.prop 1)] [.i] (.w (.a (.int .i64 (.v 23))))
(.read (.indexAddr 142 (.tmp 290) (.tmp 288)) 0 [(290,.w (.a (.ptr (.v 0) 0))),(288,.w (.a (.int .i64 (.v 17))))] [(.b (.v 0),.prop 1)] [.v] (.w (.a (.val 24)))
(.read (.load 43 (.tmp 291)) 43 [(291,.w (.a (.val 24)))] [(.b (.v 0),.prop 1)] [.i,.i,.i,.a,.n,.n,.a,.n,.n] (.w (.agg [.int .i64 (.v 25),.int .i64 (.v 26),.int .i64 (.v 27),.sl (.v 28) (.v 29) (.v 30),.sl (.v 31) (.v 32) (.v 33)]))
(.new
(.need (.o1 (.inr .i64) (.o2 .add (.o1 .ofNat (.v 29)) (.o1 .ofNat (.v 32))))
(.ret (.tup [.agg [.int .i64 (.i 0),.int .i64 (.v 26),.int .i64 (.o2 .add (.o1 .ofNat (.v 29)) (.o1 .ofNat (.v 32))),.int .i64 (.v 27),.sl .nil (.n 0) (.n 0),.sl .nil (.n 0) (.n 0)],.a (.int .i64 (.i 0))]) [(.b (.v 0),.prop 1),(.a 7,.prop 10)]))))))))))))))))
theorem tree_rdo10:tree Tryz.prog { absT:=[142,144],keep:=[30,76,78,144,198,196,142,139,24,145],turn:=[(140,[0]),(143,[0])],opn:=true,rdf:=true } Tryz.f77 [.a (.ptr (.v 0) 0),.agg [.int .i64 (.i 10),.str (.v 3),.str (.v 4),.int .i64 (.v 5),.int .i64 (.v 6),.sl (.v 7) (.v 8) (.v 9)]] [(.b (.v 0),.prop 1),(.a 7,.prop 10)] 11=t_rdo10:=by kernel_rfl
def t_rdo11:T :=
(.new
(.new
(.new
(.call 141 [.a (.str (.v 3))] [] [.s,.s,.i] (.tup [.a (.str (.v 14)),.a (.str (.v 15)),.a (.int .i64 (.v 16))]) []
(.br (.o1 .not (.o2 .eq (.v 16) (.i 0)))
(.call 142 [.a (.ptr (.v 0) 0),.a (.str (.v 3))] [(.b (.v 0),.prop 1)] [.i,.i] (.tup [.a (.int .i64 (.v 17)),.a (.int .i64 (.v 18))]) [(.b (.v 0),.prop 1)]
(.br (.o1 .not (.o2 .eq (.v 18) (.i 0)))
(.ret (.tup [.agg [.int .i64 (.i 0),.int .i64 (.i 0),.int .i64 (.i 0),.int .i64 (.i 0),.sl .nil (.n 0) (.n 0),.sl .nil (.n 0) (.n 0)],.a (.int .i64 (.v 18))]) [(.b (.v 0),.prop 1),(.a 7,.prop 10)])
(.call 142 [.a (.ptr (.v 0) 0),.a (.str (.v 14))] [(.b (.v 0),.prop 1)] [.i,.i] (.tup [.a (.int .i64 (.v 19)),.a (.int .i64 (.v 20))]) [(.b (.v 0),.prop 1)]
(.read (.indexAddr 142 (.tmp 149) (.tmp 147)) 0 [(149,.w (.a (.ptr (.v 0) 0))),(147,.w (.a (.int .i64 (.v 17))))] [(.b (.v 0),.prop 1)] [.v] (.w (.a (.val 21)))
(.read (.fieldAddr 43 (.tmp 150) 1) 0 [(150,.w (.a (.val 21)))] [(.b (.v 0),.prop 1)] [.v] (.w (.a (.val 22)))
(.read (.load 3 (.tmp 151)) 3 [(151,.w (.a (.val 22)))] [(.b (.v 0),.prop 1)] [.i] (.w (.a (.int .i64 (.v 23))))
(.br (.o1 .not (.o2 .eq (.v 23) (.i 1)))
(.ret (.tup [.agg [.int .i64 (.i 0),.int .i64 (.i 0),.int .i64 (.i 0),.int .i64 (.i 0),.sl .nil (.n 0) (.n 0),.sl .nil (.n 0) (.n 0)],.a (.int .i64 (.i 23))]) [(.b (.v 0),.prop 1),(.a 7,.prop 10)])
(.loop [.i,.i,.i,.i,.i,.a,.n,.n,.p,.a,.n,.n,.p] [.e (.o1 .neg (.o1 .neg (.i 0))),.e (.o1 .neg (.o1 .neg (.i 0))),.e (.o1 .neg (.o1 .neg (.i 0))),.e (.o1 .neg (.o1 .neg (.i 0))),.e (.o1 .neg (.o1 .neg (.i 0))),.a .nil,.e (.o2 .nadd (.n 0) (.n 0)),.e (.o2 .nadd (.n 0) (.n 0)),.p [],.a .nil,.e (.o2 .nadd (.n 0) (.n 0)),.e (.o2 .nadd (.n 0) (.n 0)),.p []]
(.read (.indexAddr 142 (.tmp 314) (.tmp 312)) 0 [(314,.w (.a (.ptr (.v 0) 0))),(312,.w (.a (.int .i64 (.v 17))))] [(.b (.v 0),.prop 1)] [.v] (.w (.a (.val 37)))
(.read (.fieldAddr 43 (.tmp 315) 4) 0 [(315,.w (.a (.val 37)))] [(.b (.v 0),.prop 1)] [.v] (.w (.a (.val 38)))
(.read (.load 41 (.tmp 316)) 41 [(316,.w (.a (.val 38)))] [(.b (.v 0),.prop 1)] [.a,.n,.n] (.w (.a (.sl (.v 39) (.v 40) (.v 41))))
(.br (.o2 .lt (.v 24) (.o1 .ofNat (.v 40)))
(.join [.a,.n,.n,.p]
(.read (.indexAddr 142 (.tmp 327) (.tmp 325)) 0 [(327,.w (.a (.ptr (.v 0) 0))),(325,.w (.a (.int .i64 (.v 17))))] [(.b (.v 0),.prop 1)] [.v] (.w (.a (.val 42)))
(.read (.fieldAddr 43 (.tmp 328) 4) 0 [(328,.w (.a (.val 42)))] [(.b (.v 0),.prop 1)] [.v] (.w (.a (.val 43)))
(.read (.load 41 (.tmp 329)) 41 [(329,.w (.a (.val 43)))] [(.b (.v 0),.prop 1)] [.a,.n,.n] (.w (.a (.sl (.v 44) (.v 45) (.v 46))))
(.need (.o2 .le (.i 0) (.v 24))
(.need (.o2 .lt (.v 24) (.o1 .ofNat (.v 45)))
(.need (.o1 .isSome (.v 44))
(.read (.load 9 (.tmp 333)) 9 [(333,.w (.a (.eptr 44 (.v 24) 2 0)))] [(.b (.v 0),.prop 1)] [.s] (.w (.a (.str (.v 47))))
(.new
(.op (.call ⟨.builtin .append,#[.tmp 323,.tmp 335],#[29,29]⟩) 29 [(323,.w (.a (.sl (.v 33) (.v 34) (.v 35)))),(335,.w (.a (.sl (.b (.v 48) 0) (.n 1) (.n 1))))] [(.a 33,.prop 36),(.b (.v 48),.cells [.str (.v 47)] 9)] [.a,.n,.n,.p] (.w (.a (.sl (.v 49) (.v 50) (.v 51)))) [(.a 49,.prop 52),(.b (.v 48),.cells [.str (.v 47)] 9)]
(.again 0 [.a (.v 49),.e (.o2 .nadd (.v 50) (.n 0)),.e (.o2 .nadd (.v 51) (.n 0)),.p [(.a 49,.prop 52)]]))))))))))
(.need (.o1 (.inr .i64) (.o2 .add (.v 24) (.i 1)))
(.again 0 [.e (.o1 .neg (.o1 .neg (.o2 .add (.v 24) (.i 1)))),.e (.o1 .neg (.o1 .neg (.v 25))),.e (.o1 .neg (.o1 .neg (.v 26))),.e (.o1 .neg (.o1 .neg (.v 27))),.e (.o1 .neg (.o1 .neg (.v 28))),.a (.v 29),.e (.o2 .nadd (.v 30) (.n 0)),.e (.o2 .nadd (.v 31) (.n 0)),.p [(.a 29,.prop 32)],.a (.v 42),.e (.o2 .nadd (.v 43) (.n 0)),.e (.o2 .nadd (.v 44) (.n 0)),.p [(.a 42,.prop 45)]])))
(.ret (.tup [.agg [.int .i64 (.v 25),.int .i64 (.v 26),.int .i64 (.v 27),.int .i64 (.v 28),.sl (.v 29) (.v 30) (.v 31),.sl (.v 33) (.v 34) (.v 35)],.a (.int .i64 (.i 0))]) [(.b (.v 0),.prop 1),(.a 7,.prop 10),(.a 29,.prop 32),(.a 33,.prop 36)])))))))))))))
(.call 142 [.a (.ptr (.v 0) 0),.a (.str (.v 3))] [(.b (.v 0),.prop 1)] [.i,.i] (.tup [.a (.int .i64 (.v 17)),.a (.int .i64 (.v 18))]) [(.b (.v 0),.prop 1)]
(.br (.o1 .not (.o2 .eq (.v 18) (.i 0)))
(.ret (.tup [.agg [.int .i64 (.i 0),.int .i64 (.i 0),.int .i64 (.i 0),.int .i64 (.i 0),.sl .nil (.n 0) (.n 0),.sl .nil (.n 0) (.n 0)],.a (.int .i64 (.v 18))]) [(.b (.v 0),.prop 1),(.a 7,.prop 10)])
(.call 142 [.a (.ptr (.v 0) 0),.a (.str (.v 14))] [(.b (.v 0),.prop 1)] [.i,.i] (.tup [.a (.int .i64 (.v 19)),.a (.int .i64 (.v 20))]) [(.b (.v 0),.prop 1)]
(.read (.indexAddr 142 (.tmp 149) (.tmp 147)) 0 [(149,.w (.a (.ptr (.v 0) 0))),(147,.w (.a (.int .i64 (.v 17))))] [(.b (.v 0),.prop 1)] [.v] (.w (.a (.val 21)))
(.read (.fieldAddr 43 (.tmp 150) 1) 0 [(150,.w (.a (.val 21)))] [(.b (.v 0),.prop 1)] [.v] (.w (.a (.val 22)))
(.read (.load 3 (.tmp 151)) 3 [(151,.w (.a (.val 22)))] [(.b (.v 0),.prop 1)] [.i] (.w (.a (.int .i64 (.v 23))))
(.br (.o1 .not (.o2 .eq (.v 23) (.i 1)))
(.ret (.tup [.agg [.int .i64 (.i 0),.int .i64 (.i 0),.int .i64 (.i 0),.int .i64 (.i 0),.sl .nil (.n 0) (.n 0),.sl .nil (.n 0) (.n 0)],.a (.int .i64 (.i 23))]) [(.b (.v 0),.prop 1),(.a 7,.prop 10)])
(.loop [.i,.i,.i,.i,.i,.a,.n,.n,.p,.a,.n,.n,.p] [.e (.o1 .neg (.o1 .neg (.i 0))),.e (.o1 .neg (.o1 .neg (.i 0))),.e (.o1 .neg (.o1 .neg (.i 0))),.e (.o1 .neg (.o1 .neg (.i 0))),.e (.o1 .neg (.o1 .neg (.i 0))),.a .nil,.e (.o2 .nadd (.n 0) (.n 0)),.e (.o2 .nadd (.n 0) (.n 0)),.p [],.a .nil,.e (.o2 .nadd (.n 0) (.n 0)),.e (.o2 .nadd (.n 0) (.n 0)),.p []]
(.read (.indexAddr 142 (.tmp 314) (.tmp 312)) 0 [(314,.w (.a (.ptr (.v 0) 0))),(312,.w (.a (.int .i64 (.v 17))))] [(.b (.v 0),.prop 1)] [.v] (.w (.a (.val 37)))
(.read (.fieldAddr 43 (.tmp 315) 4) 0 [(315,.w (.a (.val 37)))] [(.b (.v 0),.prop 1)] [.v] (.w (.a (.val 38)))
(.read (.load 41 (.tmp 316)) 41 [(316,.w (.a (.val 38)))] [(.b (.v 0),.prop 1)] [.a,.n,.n] (.w (.a (.sl (.v 39) (.v 40) (.v 41))))
(.br (.o2 .lt (.v 24) (.o1 .ofNat (.v 40)))
(.join [.a,.n,.n,.p]
(.read (.indexAddr 142 (.tmp 327) (.tmp 325)) 0 [(327,.w (.a (.ptr (.v 0) 0))),(325,.w (.a (.int .i64 (.v 17))))] [(.b (.v 0),.prop 1)] [.v] (.w (.a (.val 42)))
(.read (.fieldAddr 43 (.tmp 328) 4) 0 [(328,.w (.a (.val 42)))] [(.b (.v 0),.prop 1)] [.v] (.w (.a (.val 43)))
(.read (.load 41 (.tmp 329)) 41 [(329,.w (.a (.val 43)))] [(.b (.v 0),.prop 1)] [.a,.n,.n] (.w (.a (.sl (.v 44) (.v 45) (.v 46))))
(.need (.o2 .le (.i 0) (.v 24))
(.need (.o2 .lt (.v 24) (.o1 .ofNat (.v 45)))
(.need (.o1 .isSome (.v 44))
(.read (.load 9 (.tmp 333)) 9 [(333,.w (.a (.eptr 44 (.v 24) 2 0)))] [(.b (.v 0),.prop 1)] [.s] (.w (.a (.str (.v 47))))
(.new
(.op (.call ⟨.builtin .append,#[.tmp 323,.tmp 335],#[29,29]⟩) 29 [(323,.w (.a (.sl (.v 33) (.v 34) (.v 35)))),(335,.w (.a (.sl (.b (.v 48) 0) (.n 1) (.n 1))))] [(.a 33,.prop 36),(.b (.v 48),.cells [.str (.v 47)] 9)] [.a,.n,.n,.p] (.w (.a (.sl (.v 49) (.v 50) (.v 51)))) [(.a 49,.prop 52),(.b (.v 48),.cells [.str (.v 47)] 9)]
(.again 0 [.a (.v 49),.e (.o2 .nadd (.v 50) (.n 0)),.e (.o2 .nadd (.v 51) (.n 0)),.p [(.a 49,.prop 52)]]))))))))))
(.need (.o1 (.inr .i64) (.o2 .add (.v 24) (.i 1)))
(.again 0 [.e (.o1 .neg (.o1 .neg (.o2 .add (.v 24) (.i 1)))),.e (.o1 .neg (.o1 .neg (.v 25))),.e (.o1 .neg (.o1 .neg (.v 26))),.e (.o1 .neg (.o1 .neg (.v 27))),.e (.o1 .neg (.o1 .neg (.v 28))),.a (.v 29),.e (.o2 .nadd (.v 30) (.n 0)),.e (.o2 .nadd (.v 31) (.n 0)),.p [(.a 29,.prop 32)],.a (.v 42),.e (.o2 .nadd (.v 43) (.n 0)),.e (.o2 .nadd (.v 44) (.n 0)),.p [(.a 42,.prop 45)]])))
(.ret (.tup [.agg [.int .i64 (.v 25),.int .i64 (.v 26),.int .i64 (.v 27),.int .i64 (.v 28),.sl (.v 29) (.v 30) (.v 31),.sl (.v 33) (.v 34) (.v 35)],.a (.int .i64 (.i 0))]) [(.b (.v 0),.prop 1),(.a 7,.prop 10),(.a 29,.prop 32),(.a 33,.prop 36)]))))))))))))))))))
theorem tree_rdo11:tree Tryz.prog { absT:=[142,144],hv:=[(3,[.b (.v 13)])],keep:=[30,76,78,144,198,196,142,139,24,145],turn:=[(140,[0]),(143,[0])],opn:=true,rdf:=true,jn:=[((322,42),some { ss:=[.a,.n,.n,.p],n:=46,tv:=[(322,none),(323,none),(324,none),(325,none),(326,none),(327,none),(328,none),(329,none),(330,none),(331,none),(332,none),(333,none),(334,none),(335,none),(336,none),(337,none)],h:=[(.b (.v 13),.cells [.int .i64 (.v 25),.int .i64 (.v 26),.int .i64 (.v 27),.int .i64 (.v 28),.sl (.v 29) (.v 30) (.v 31),.sl (.v 42) (.v 43) (.v 44)] 31),(.a 42,.prop 45),(.b (.v 0),.prop 1),(.b (.v 12),.cells [.int .i64 (.i 0),.int .i64 (.i 0),.int .i64 (.i 0),.int .i64 (.i 0),.sl .nil (.n 0) (.n 0),.sl .nil (.n 0) (.n 0)] 31),(.b (.v 11),.cells [.int .i64 (.i 11),.str (.v 3),.str (.v 4),.int .i64 (.v 5),.int .i64 (.v 6),.sl (.v 7) (.v 8) (.v 9)] 34),(.a 7,.prop 10),(.a 29,.prop 32)],lk:=[] })] } Tryz.f77 [.a (.ptr (.v 0) 0),.agg [.int .i64 (.i 11),.str (.v 3),.str (.v 4),.int .i64 (.v 5),.int .i64 (.v 6),.sl (.v 7) (.v 8) (.v 9)]] [(.b (.v 0),.prop 1),(.a 7,.prop 10)] 11=t_rdo11:=by kernel_rfl
def t_rdo12:T :=
(.new
(.new
(.new
(.ret (.tup [.agg [.int .i64 (.i 0),.int .i64 (.i 0),.int .i64 (.i 0),.int .i64 (.i 0),.sl .nil (.n 0) (.n 0),.sl .nil (.n 0) (.n 0)],.a (.int .i64 (.i 0))]) [(.b (.v 0),.prop 1),(.a 7,.prop 10)]))))
theorem tree_rdo12:tree Tryz.prog { absT:=[142,144],keep:=[30,76,78,144,198,196,142,139,24,145],turn:=[(140,[0]),(143,[0])],opn:=true,rdf:=true } Tryz.f77 [.a (.ptr (.v 0) 0),.agg [.int .i64 (.i 12),.str (.v 3),.str (.v 4),.int .i64 (.v 5),.int .i64 (.v 6),.sl (.v 7) (.v 8) (.v 9)]] [(.b (.v 0),.prop 1),(.a 7,.prop 10)] 11=t_rdo12:=by kernel_rfl
end Go.Proofs.YtdieogcemmnaaaaGreatDoor.RX

namespace Go.Proofs.YtdieogcemmnaaaaGreatDoor
set_option linter.unusedSimpArgs false
set_option linter.unusedVariables false
open Go.Proofs.YtdieogcemmnaaaaGreatDoor RX
set_option maxRecDepth 100000
structure DoI (B:Nat) (g:Nat → NodeE) (NS:List Nd) (path other:Nm) (S:HP) (da:Option Addr) (dl:Nat) (d:List UInt8):Prop where
 hB:B ≤ 100000
 wf:TWf B NS
 hg:Rp g NS
 hp:path.length ≤ 1000
 ho:other.length ≤ 1000
 hd:RdL S da dl (d.map u8v)
 hdl:d.length=dl
 hd9:dl ≤ 100000
 hsm:dl ≠ 0 → da.isSome=true
abbrev DoT (b:Nat) (g:Nat → NodeE) (NS:List Nd) (kind:Int) (path other:Nm) (off n:Int) (S:HP) (da:Option Addr) (dl dc:Nat) (d:List UInt8):Prop :=
 Tri Tryz.prog 77 #[.pointer (some ⟨b,0,none⟩),.agg #[.int .i64 kind,sE path,sE other,.int .i64 off,.int .i64 n,.slice da dl dc]] (HP.sep (RT b g) S) (DoR b (doS NS kind path other off n d).1 (doS NS kind path other off n d).2 S)
variable {B b:Nat} {g:Nat → NodeE} {NS:List Nd} {path other:Nm} {off n:Int} {S:HP} {da:Option Addr} {dl dc:Nat} {d:List UInt8}
theorem dS1:doS NS 1 path other off n d=((makeS NS 1 path).1,{ err:=(makeS NS 1 path).2 }):=by simp [doS]
theorem dS3:doS NS 3 path other off n d=((makeS NS 3 path).1,{ err:=(makeS NS 3 path).2 }):=by simp [doS]
theorem dS2:doS NS 2 path other off n d=((rmdirS NS path).1,{ err:=(rmdirS NS path).2 }):=by simp [doS]
theorem dS4:doS NS 4 path other off n d=((unlinkS NS path).1,{ err:=(unlinkS NS path).2 }):=by simp [doS]
theorem dS5:doS NS 5 path other off n d=((linkS NS path other).1,{ err:=(linkS NS path other).2 }):=by simp [doS]
theorem dS6:doS NS 6 path other off n d=((renameS NS path other).1,{ err:=(renameS NS path other).2 }):=by simp [doS]
theorem dS7:doS NS 7 path other off n d=((writeS NS path off d).1,{ err:=(writeS NS path off d).2 }):=by simp [doS]
theorem dS8:doS NS 8 path other off n d=(NS,readS' NS path off n):=by simp [doS]
theorem dS9:doS NS 9 path other off n d=((cutS NS path n).1,{ err:=(cutS NS path n).2 }):=by simp [doS]
theorem dS10:doS NS 10 path other off n d=(NS,statS NS path):=by simp [doS]
theorem dS11:doS NS 11 path other off n d=(NS,listS NS path):=by simp [doS]
theorem dS12:doS NS 12 path other off n d=(NS,{}):=by simp [doS]
theorem entry_no (e1:parentS path=none):entryS NS path=(0,[],0,20):=by unfold entryS; rw [e1]
theorem entry_er {ab nm:Nm} (e1:parentS path=some (ab,nm)) (h:(findS NS path).2 ≠ 0):entryS NS path=(0,[],0,(findS NS path).2):=by unfold entryS; rw [e1]; simp only; rw [if_pos h]
theorem entry_yes {ab nm:Nm} (e1:parentS path=some (ab,nm)) (h0:(findS NS path).2=0):entryS NS path=((findS NS ab).1,nm,(findS NS path).1,0) ∧ ∃ y,nodeAt NS (findS NS ab).1=some y ∧ y.kind=1 ∧ lk y.ents nm=some (findS NS path).1:=by
 obtain ⟨h1,y,hy⟩:=entry_at e1 h0
 refine ⟨?_,y,hy⟩
 unfold entryS; rw [e1]; simp only; rw [if_neg (by simpa using h0),if_neg (by simpa using h1)]
theorem par_len (s:Nm):((parentS s).getD ([],[])).1.length ≤ 100000:=by
 cases h:parentS s with
 | none=>simp
 | some q=>obtain ⟨ab,nm⟩:=q; have:=(parent_len h).1; simp; omega
theorem file_er (h:(findS NS path).2 ≠ 0):fileS NS path=(0,(findS NS path).2):=by unfold fileS; rw [if_pos h]
theorem file_yes {x:Nd} (h0:(findS NS path).2=0) (hx:nodeAt NS (findS NS path).1=some x):fileS NS path=if x.kind=1 then (0,24) else ((findS NS path).1,0):=by unfold fileS; rw [if_neg (by simpa using h0),hx]
theorem ents_le (wf:TWf B NS) (hB:B ≤ 100000) {i:Nat} {x:Nd} (hx:nodeAt NS i=some x):x.ents.length ≤ 100000:=by have:=(wf.at' hx).1.efew; omega
theorem kinds (wf:TWf B NS) {i:Nat} {x:Nd} (hx:nodeAt NS i=some x):(x.kind=1 ∧ x.data=[] ∧ x.links=1) ∨ (x.kind=2 ∧ x.ents=[] ∧ ¬ x.kind=1):=by
 rcases (wf.at' hx).1.kind with ⟨h1,h2,h3⟩ | ⟨h1,h2⟩
 ·exact .inl ⟨h1,h2,h3⟩
 ·exact .inr ⟨h1,h2,by omega⟩
theorem full_iff (wf:TWf B NS):(∀ j,j < 64 → (nodeAt NS j).isSome=true) ↔ 64 ≤ NS.length:=by
 constructor
 ·intro h
  have:=nodup_sub (l:=List.range 64) (m:=NS.map (·.num)) List.nodup_range fun j hj=>by
   obtain ⟨x,hx⟩:=Option.isSome_iff_exists.1 (h j (List.mem_range.1 hj))
   exact List.mem_map.2 ⟨x,(nodeAt_mem hx).1,(nodeAt_mem hx).2⟩
  simpa using this
 ·intro h j hj
  cases hq:nodeAt NS j with
  | some x=>rfl
  | none =>
   exfalso
   have:=nodup_sub (l:=NS.map (·.num)) (m:=(List.range 64).erase j) wf.nd fun k hk=>by
    obtain ⟨x,hx,rfl⟩:=List.mem_map.1 hk
    have:x.num ≠ j:=fun e=>by
     have:=mem_nodeAt wf.nd hx
     rw [e,hq] at this; cases this
    exact (List.mem_erase_of_ne this).2 (List.mem_range.2 (wf.good x hx).num)
   rw [List.length_map,List.length_erase_of_mem (List.mem_range.2 hj),List.length_range] at this
   omega
theorem free_is (wf:TWf B NS) {k:Nat} (hk:k < 64) (hn:nodeAt NS k=none) (hall : ∀ j,j < k → (nodeAt NS j).isSome=true):NS.length < 64 ∧ freeS NS=k:=by
 have h1:NS.length < 64:=Classical.byContradiction fun h=>by
  have:=(full_iff wf).2 (by omega) k hk
  rw [hn] at this; cases this
 obtain ⟨f1,f2,f3⟩:=free_spec wf.sorted h1
 refine ⟨h1,?_⟩
 rcases Nat.lt_trichotomy (freeS NS) k with h | h | h
 ·have:=hall _ h; rw [f1] at this; cases this
 ·exact h
 ·have:=f3 k h; rw [hn] at this; cases this
theorem rdo0_ok (kind:Int) (hk:kind < 1 ∨ 12 < kind) (I:DoI B g NS path other S da dl d):DoT b g NS kind path other off n S da dl dc d:=by
 obtain ⟨hB,wf,hg,hp,ho,hd,hdl,hd9,hda⟩:=I
 refine tri_of_tree (ρ:=[.n b,.p (RT b g),.i kind,.s path,.s other,.i off,.i n,.a da,.n dl,.n dc,.p S]) mixed Tryz.func77 tree_rdo0 ?_
 unfold t_rdo0
 simp only [T.den,E.prop,E.den,RX.look,F1.app,F2.app,Uni.int_i,Uni.nat_n,Uni.bool_c,Uni.str_s,Uni.adr_a,Uni.val_v,Uni.hp_p,hden,cden,V.den,W.den,A.den,BR.den,SA.den,FV.den,capV,exs,exP,allP,Cur.app,List.map_cons,List.map_nil,List.cons_append,List.nil_append,List.drop_succ_cons,List.drop_zero,List.length_cons,List.length_nil,Nat.zero_add,Nat.reduceAdd,Int.neg_neg,Bool.not_not,List.append_nil,Nat.add_zero,List.getElem?_cons_zero,List.getElem?_cons_succ,Decidable.not_not,semW_eq,ne_eq,Nat.reduceEqDiff,not_false_eq_true,semW_ix,semW_fld]
 have hs:doS NS kind path other off n d=(NS,{ err:=1 }):=by
  unfold doS
  rw [if_neg (by omega),if_neg (by omega),if_neg (by omega),if_neg (by omega),if_neg (by omega),if_neg (by omega),if_neg (by omega),if_neg (by omega),if_neg (by omega),if_neg (by omega),if_neg (by omega)]
 rw [hs]
 intro _ _ _
 exact ⟨fun _=>DoR.code hg rfl,fun h1=>⟨fun _=>DoR.code hg rfl,fun h2=>absurd hk (by omega)⟩⟩
set_option maxHeartbeats 4000000 in
theorem rdo12_ok (I:DoI B g NS path other S da dl d):DoT b g NS 12 path other off n S da dl dc d:=by
 obtain ⟨hB,wf,hg,hp,ho,hd,hdl,hd9,hda⟩:=I
 refine tri_of_tree (ρ:=[.n b,.p (RT b g),.i 12,.s path,.s other,.i off,.i n,.a da,.n dl,.n dc,.p S]) mixed Tryz.func77 tree_rdo12 ?_
 unfold t_rdo12
 simp only [T.den,E.prop,E.den,RX.look,F1.app,F2.app,Uni.int_i,Uni.nat_n,Uni.bool_c,Uni.str_s,Uni.adr_a,Uni.val_v,Uni.hp_p,hden,cden,V.den,W.den,A.den,BR.den,SA.den,FV.den,capV,exs,exP,allP,Cur.app,List.map_cons,List.map_nil,List.cons_append,List.nil_append,List.drop_succ_cons,List.drop_zero,List.length_cons,List.length_nil,Nat.zero_add,Nat.reduceAdd,Int.neg_neg,Bool.not_not,List.append_nil,Nat.add_zero,List.getElem?_cons_zero,List.getElem?_cons_succ,Decidable.not_not,semW_eq,ne_eq,Nat.reduceEqDiff,not_false_eq_true,semW_ix,semW_fld]
 rw [dS12]
 intro _ _ _
 exact DoR.code0 hg rfl
set_option maxHeartbeats 4000000 in
theorem rdo1_ok (I:DoI B g NS path other S da dl d):DoT b g NS 1 path other off n S da dl dc d:=by
 obtain ⟨hB,wf,hg,hp,ho,hd,hdl,hd9,hda⟩:=I
 refine tri_of_tree (ρ:=[.n b,.p (RT b g),.i 1,.s path,.s other,.i off,.i n,.a da,.n dl,.n dc,.p S]) mixed Tryz.func77 tree_rdo1 ?_
 unfold t_rdo1
 simp only [T.den,E.prop,E.den,RX.look,F1.app,F2.app,Uni.int_i,Uni.nat_n,Uni.bool_c,Uni.str_s,Uni.adr_a,Uni.val_v,Uni.hp_p,hden,cden,V.den,W.den,A.den,BR.den,SA.den,FV.den,capV,exs,exP,allP,Cur.app,List.map_cons,List.map_nil,List.cons_append,List.nil_append,List.drop_succ_cons,List.drop_zero,List.length_cons,List.length_nil,Nat.zero_add,Nat.reduceAdd,Int.neg_neg,Bool.not_not,List.append_nil,Nat.add_zero,List.getElem?_cons_zero,List.getElem?_cons_succ,Decidable.not_not,semW_eq,semW_load,semW_store,semW_storeC,ne_eq,Nat.reduceEqDiff,not_false_eq_true,semW_ix,semW_fld]
 rw [dS1]
 intro _ _ _
 refine (rPlace_ok hB wf hg path (by omega)).weak (fun _ _ h=>h) ?_
 rintro v R h ⟨rfl,H⟩
 refine ⟨_,_,_,rfl,⟨fun hc => ?_,fun hc => ?_⟩,H⟩
 ·have hs:makeS NS 1 path=(NS,(placeS NS path).2.2):=by unfold makeS; rw [if_pos hc]
  rw [hs]
  exact DoR.code hg rfl
 clear H
 replace hc:(placeS NS path).2.2=0:=by simpa using hc
 obtain ⟨y,hy,hyk,hyl,_⟩:=place_at hc
 have hu64:=wf.lt64 hy
 have hs:makeS NS 1 path=if 64 ≤ NS.length then (NS,27) else (setP (insP (newNd (freeS NS) 1) NS) (placeS NS path).1 (fE (putE (placeS NS path).2.1 (freeS NS))),0):=by unfold makeS; rw [if_neg (by simpa using hc)]
 rw [hs]
 generalize (placeS NS path).1=u at *
 generalize (placeS NS path).2.1=nm at *
 have hgy:=hg.at' hu64 hy
 refine ⟨fun i => ∃ k:Nat,i=k ∧ k ≤ 64 ∧ ∀ j,j < k → (nodeAt NS j).isSome=true,fun i=>64 - i.toNat,⟨0,rfl,by omega,fun j h=>by omega⟩,?_⟩
 rintro _ ⟨k,rfl,hk,hall⟩
 refine ⟨fun hlt => ?_,fun hge=>⟨fun h64 => ?_,fun h=>absurd (by omega) h⟩⟩
 ·have hk64:k < 64:=by omega
  refine ⟨.pointer (some ⟨b,k * 5,none⟩),ixN rfl hk64,.pointer (some ⟨b,k * 5 + 1,none⟩),fldN (by omega),_,rtKind hk64,fun hne => ?_,fun he=>⟨fun h=>absurd h (by omega),fun _ => ?_⟩⟩
  ·refine ⟨inI64' _ (by omega) (by omega),fun _=>⟨⟨k + 1,by omega,by omega,fun j hj => ?_⟩,by dsimp only; omega⟩⟩
   rcases Nat.lt_or_eq_of_le (Nat.le_of_lt_succ hj) with h | h
   ·exact hall j h
   ·subst h
    cases hq:nodeAt NS j with
    | some z=>rfl
    | none=>rw [hg j hk64,ndF_none hq] at hne; exact absurd rfl hne
  ·have hn:nodeAt NS k=none:=by
    cases hq:nodeAt NS k with
    | none=>rfl
    | some z =>
     exfalso
     rw [hg.at' hk64 hq] at he
     rcases kinds wf hq with ⟨h,_⟩ | ⟨h,_⟩ <;> omega
   obtain ⟨hl64,hfree⟩:=free_is wf hk64 hn hall
   rw [if_neg (by omega),hfree]
   have huk:u ≠ k:=fun e=>by rw [e,hn] at hy; cases hy
   refine ⟨.pointer (some ⟨b,k * 5,none⟩),ixN rfl hk64,storeNd hk64 k 1 1 k rfl fun R h H=>⟨_,rfl,?_,H⟩⟩
   clear H
   have rp1:Rp (upd g k ⟨⟨k,1,1,[],[]⟩,none,0,none,0⟩) (insP (newNd k 1) NS):=hg.ins (newNd k 1) rfl
   have hyu:(upd g k ⟨⟨k,1,1,[],[]⟩,none,0,none,0⟩) u=g u:=upd_ne _ _ huk
   refine (rPut_ok hu64 nm k (by rw [hyu,hgy]; exact ents_le wf hB hy)).weak (fun _ _ h=>h) ?_
   rintro v R h ⟨a',c',rfl,H⟩
   refine ⟨_,rfl,DoR.code0 (rp1.set (x:=y) (fE_num _) ?_ ?_) rfl,H⟩
   ·rw [nodeAt_ins,if_neg (show ¬ u=(newNd k 1).num from huk)]; exact hy
   ·rw [hyu]
    show ({ (g u).nd with ents:=putE nm k (g u).nd.ents }:Nd)=_
    rw [hgy]; rfl
 ·have hk':k=64:=by omega
  subst hk'
  rw [if_pos ((full_iff wf).1 hall)]
  exact DoR.code hg rfl
set_option maxHeartbeats 4000000 in
theorem rdo3_ok (I:DoI B g NS path other S da dl d):DoT b g NS 3 path other off n S da dl dc d:=by
 obtain ⟨hB,wf,hg,hp,ho,hd,hdl,hd9,hda⟩:=I
 refine tri_of_tree (ρ:=[.n b,.p (RT b g),.i 3,.s path,.s other,.i off,.i n,.a da,.n dl,.n dc,.p S]) mixed Tryz.func77 tree_rdo3 ?_
 unfold t_rdo3
 simp only [T.den,E.prop,E.den,RX.look,F1.app,F2.app,Uni.int_i,Uni.nat_n,Uni.bool_c,Uni.str_s,Uni.adr_a,Uni.val_v,Uni.hp_p,hden,cden,V.den,W.den,A.den,BR.den,SA.den,FV.den,capV,exs,exP,allP,Cur.app,List.map_cons,List.map_nil,List.cons_append,List.nil_append,List.drop_succ_cons,List.drop_zero,List.length_cons,List.length_nil,Nat.zero_add,Nat.reduceAdd,Int.neg_neg,Bool.not_not,List.append_nil,Nat.add_zero,List.getElem?_cons_zero,List.getElem?_cons_succ,Decidable.not_not,semW_eq,semW_load,semW_store,semW_storeC,ne_eq,Nat.reduceEqDiff,not_false_eq_true,semW_ix,semW_fld]
 rw [dS3]
 intro _ _ _
 refine (rPlace_ok hB wf hg path (by omega)).weak (fun _ _ h=>h) ?_
 rintro v R h ⟨rfl,H⟩
 refine ⟨_,_,_,rfl,⟨fun hc => ?_,fun hc => ?_⟩,H⟩
 ·have hs:makeS NS 3 path=(NS,(placeS NS path).2.2):=by unfold makeS; rw [if_pos hc]
  rw [hs]
  exact DoR.code hg rfl
 clear H
 replace hc:(placeS NS path).2.2=0:=by simpa using hc
 obtain ⟨y,hy,hyk,hyl,_⟩:=place_at hc
 have hu64:=wf.lt64 hy
 have hs:makeS NS 3 path=if 64 ≤ NS.length then (NS,27) else (setP (insP (newNd (freeS NS) 3) NS) (placeS NS path).1 (fE (putE (placeS NS path).2.1 (freeS NS))),0):=by unfold makeS; rw [if_neg (by simpa using hc)]
 rw [hs]
 generalize (placeS NS path).1=u at *
 generalize (placeS NS path).2.1=nm at *
 have hgy:=hg.at' hu64 hy
 refine ⟨fun i => ∃ k:Nat,i=k ∧ k ≤ 64 ∧ ∀ j,j < k → (nodeAt NS j).isSome=true,fun i=>64 - i.toNat,⟨0,rfl,by omega,fun j h=>by omega⟩,?_⟩
 rintro _ ⟨k,rfl,hk,hall⟩
 refine ⟨fun hlt => ?_,fun hge=>⟨fun h64 => ?_,fun h=>absurd (by omega) h⟩⟩
 ·have hk64:k < 64:=by omega
  refine ⟨.pointer (some ⟨b,k * 5,none⟩),ixN rfl hk64,.pointer (some ⟨b,k * 5 + 1,none⟩),fldN (by omega),_,rtKind hk64,fun hne => ?_,fun he=>⟨fun h=>absurd h (by omega),fun _ => ?_⟩⟩
  ·refine ⟨inI64' _ (by omega) (by omega),fun _=>⟨⟨k + 1,by omega,by omega,fun j hj => ?_⟩,by dsimp only; omega⟩⟩
   rcases Nat.lt_or_eq_of_le (Nat.le_of_lt_succ hj) with h | h
   ·exact hall j h
   ·subst h
    cases hq:nodeAt NS j with
    | some z=>rfl
    | none=>rw [hg j hk64,ndF_none hq] at hne; exact absurd rfl hne
  ·have hn:nodeAt NS k=none:=by
    cases hq:nodeAt NS k with
    | none=>rfl
    | some z =>
     exfalso
     rw [hg.at' hk64 hq] at he
     rcases kinds wf hq with ⟨h,_⟩ | ⟨h,_⟩ <;> omega
   obtain ⟨hl64,hfree⟩:=free_is wf hk64 hn hall
   rw [if_neg (by omega),hfree]
   have huk:u ≠ k:=fun e=>by rw [e,hn] at hy; cases hy
   refine ⟨.pointer (some ⟨b,k * 5,none⟩),ixN rfl hk64,storeNd hk64 k 1 1 k rfl fun R h H=>⟨_,rfl,?_,H⟩⟩
   clear H
   refine ⟨.pointer (some ⟨b,k * 5,none⟩),ixN rfl hk64,.pointer (some ⟨b,k * 5 + 1,none⟩),fldN (by omega),?_⟩
   refine storeInt (v:=2) (off:=1) hk64 (.inl rfl) fun R h H=>⟨_,rfl,?_,H⟩
   clear H
   have hgg:upd (upd g k ⟨⟨k,1,1,[],[]⟩,none,0,none,0⟩) k { upd g k ⟨⟨k,1,1,[],[]⟩,none,0,none,0⟩ k with nd:=if 1=1 then { (upd g k ⟨⟨k,1,1,[],[]⟩,none,0,none,0⟩ k).nd with kind:=2 } else { (upd g k ⟨⟨k,1,1,[],[]⟩,none,0,none,0⟩ k).nd with links:=2 } }=upd g k ⟨⟨k,2,1,[],[]⟩,none,0,none,0⟩:=by
    funext j
    unfold upd
    by_cases e:j=k
    ·simp [e]
    ·simp [e]
   rw [hgg]
   have rp1:Rp (upd g k ⟨⟨k,2,1,[],[]⟩,none,0,none,0⟩) (insP (newNd k 3) NS):=hg.ins (newNd k 3) rfl
   have hyu:(upd g k ⟨⟨k,2,1,[],[]⟩,none,0,none,0⟩) u=g u:=upd_ne _ _ huk
   refine (rPut_ok hu64 nm k (by rw [hyu,hgy]; exact ents_le wf hB hy)).weak (fun _ _ h=>h) ?_
   rintro v R h ⟨a',c',rfl,H⟩
   refine ⟨_,rfl,DoR.code0 (rp1.set (x:=y) (fE_num _) ?_ ?_) rfl,H⟩
   ·rw [nodeAt_ins,if_neg (show ¬ u=(newNd k 3).num from huk)]; exact hy
   ·rw [hyu]
    show ({ (g u).nd with ents:=putE nm k (g u).nd.ents }:Nd)=_
    rw [hgy]; rfl
 ·have hk':k=64:=by omega
  subst hk'
  rw [if_pos ((full_iff wf).1 hall)]
  exact DoR.code hg rfl
end Go.Proofs.YtdieogcemmnaaaaGreatDoor

namespace Go.Proofs.YtdieogcemmnaaaaGreatDoor
set_option linter.unusedSimpArgs false
set_option linter.unusedVariables false
open Go.Proofs.YtdieogcemmnaaaaGreatDoor RX
set_option maxRecDepth 100000
variable {B b:Nat} {g:Nat → NodeE} {NS:List Nd} {path other:Nm} {off n:Int} {S:HP} {da:Option Addr} {dl dc:Nat} {d:List UInt8}
set_option maxHeartbeats 4000000 in
theorem rdo2_ok (I:DoI B g NS path other S da dl d):DoT b g NS 2 path other off n S da dl dc d:=by
 obtain ⟨hB,wf,hg,hp,ho,hd,hdl,hd9,hda⟩:=I
 refine tri_of_tree (ρ:=[.n b,.p (RT b g),.i 2,.s path,.s other,.i off,.i n,.a da,.n dl,.n dc,.p S]) mixed Tryz.func77 tree_rdo2 ?_
 unfold t_rdo2
 simp only [T.den,E.prop,E.den,RX.look,F1.app,F2.app,Uni.int_i,Uni.nat_n,Uni.bool_c,Uni.str_s,Uni.adr_a,Uni.val_v,Uni.hp_p,hden,cden,V.den,W.den,A.den,BR.den,SA.den,FV.den,capV,exs,exP,allP,Cur.app,List.map_cons,List.map_nil,List.cons_append,List.nil_append,List.drop_succ_cons,List.drop_zero,List.length_cons,List.length_nil,Nat.zero_add,Nat.reduceAdd,Int.neg_neg,Bool.not_not,List.append_nil,Nat.add_zero,List.getElem?_cons_zero,List.getElem?_cons_succ,Decidable.not_not,semW_eq,semW_load,semW_store,semW_storeC,ne_eq,Nat.reduceEqDiff,not_false_eq_true,semW_ix,semW_fld]
 rw [dS2]
 intro _ _ _
 refine (rUp_ok path (by omega)).weak (fun _ _ _=>trivial) ?_
 rintro v R h rfl
 refine ⟨_,_,_,rfl,?_,trivial⟩
 cases e1:parentS path with
 | none =>
  refine ⟨fun _ => ?_,fun h=>by simp at h⟩
  have hE:=entry_no (NS:=NS) e1
  have hs:rmdirS NS path=(NS,20):=by unfold rmdirS; rw [hE]; rfl
  rw [hs]
  exact DoR.code hg rfl
 | some q =>
 obtain ⟨ab,nm⟩:=q
 simp only [Option.getD_some,Option.isSome_some,if_true]
 refine ⟨fun h=>by simp at h,fun _ => ?_⟩
 refine (rFind_ok hB wf hg path (by omega)).weak (fun _ _ h=>h) ?_
 rintro v R h ⟨rfl,H⟩
 refine ⟨_,_,rfl,⟨fun h0 => ?_,fun h0 => ?_⟩,H⟩
 ·have hE:=entry_er e1 h0
  have hs:rmdirS NS path=(NS,(findS NS path).2):=by unfold rmdirS; rw [hE]; exact if_pos h0
  rw [hs]
  exact DoR.code hg rfl
 clear H
 replace h0:(findS NS path).2=0:=by simpa using h0
 obtain ⟨x,hx,ha64⟩:=find_at wf h0
 obtain ⟨hE,y,hy,hyk,hyl⟩:=entry_yes e1 h0
 refine (rFind_ok hB wf hg ab (by have:=(parent_len e1).1; omega)).weak (fun _ _ h=>h) ?_
 rintro v R h ⟨rfl,H⟩
 refine ⟨_,_,rfl,?_,H⟩
 clear H
 have hu64:=wf.lt64 hy
 generalize (findS NS ab).1=u at *
 generalize (findS NS path).1=a at *
 have hgx:=hg.at' ha64 hx
 have hgy:=hg.at' hu64 hy
 refine ⟨.pointer (some ⟨b,a * 5,none⟩),ixN rfl ha64,.pointer (some ⟨b,a * 5 + 1,none⟩),fldN (by omega),_,rtKind ha64,?_⟩
 rw [hgx]
 have hs:rmdirS NS path=if x.kind ≠ 1 then (NS,23) else if x.ents ≠ [] then (NS,25) else (delP (setP NS u (fE (dropE nm))) a,0):=by
  unfold rmdirS; rw [hE]; simp only [ne_eq,not_true_eq_false,if_false]; rw [hx]
 rw [hs]
 refine ⟨fun hk => ?_,fun hk => ?_⟩
 ·rw [if_pos hk]; exact DoR.code hg rfl
 rw [if_neg (by simpa using hk)]
 refine ⟨.pointer (some ⟨b,a * 5,none⟩),ixN rfl ha64,.pointer (some ⟨b,a * 5 + 4,none⟩),fldN (by omega),_,_,_,rtEnts ha64,?_⟩
 rw [hgx]
 refine ⟨fun he => ?_,fun he => ?_⟩
 ·have:x.ents ≠ []:=fun h=>by rw [h] at he; simp at he
  rw [if_pos this]; exact DoR.code hg rfl
 have hne:x.ents=[]:=List.eq_nil_of_length_eq_zero (by omega)
 rw [if_neg (by simpa using hne)]
 refine (rDrop_ok hu64 nm (by rw [hgy]; exact ents_le wf hB hy)).weak (fun _ _ h=>h) ?_
 rintro v R h ⟨a',c',rfl,H⟩
 refine ⟨_,rfl,?_,H⟩
 clear H
 have rp1:Rp (upd g u (withE (g u) (dropE nm (g u).nd.ents) a' c')) (setP NS u (fE (dropE nm))):=hg.set (fE_num _) hy (by
  show ({ (g u).nd with ents:=dropE nm (g u).nd.ents }:Nd)=_
  rw [hgy]; rfl)
 generalize upd g u (withE (g u) (dropE nm (g u).nd.ents) a' c')=g1 at *
 obtain ⟨x',hx',hl'⟩ : ∃ x',nodeAt (setP NS u (fE (dropE nm))) a=some x' ∧ x'.links=x.links:=by
  rw [nodeAt_set (fE_num _)]
  by_cases e:a=u
  ·rw [if_pos e,← e,hx]; exact ⟨_,rfl,rfl⟩
  ·rw [if_neg e]; exact ⟨x,hx,rfl⟩
 have hgx':=rp1.at' ha64 hx'
 have hlb:=(wf.at' hx).1.lpos
 have hlf:=(wf.at' hx).1.lfew
 refine ⟨.pointer (some ⟨b,a * 5,none⟩),ixN rfl ha64,.pointer (some ⟨b,a * 5 + 2,none⟩),fldN (by omega),_,rtLinks ha64,?_⟩
 rw [hgx']
 refine ⟨inI64' _ (by omega) (by omega),fun _=>⟨.pointer (some ⟨b,a * 5,none⟩),ixN rfl ha64,.pointer (some ⟨b,a * 5 + 2,none⟩),fldN (by omega),?_⟩⟩
 refine storeInt (v:=x'.links - 1) (off:=2) ha64 (.inr rfl) fun R h H=>⟨_,rfl,?_,H⟩
 clear H
 have rp2:Rp (upd g1 a { g1 a with nd:=if 2=1 then { (g1 a).nd with kind:=x'.links - 1 } else { (g1 a).nd with links:=x'.links - 1 } }) (setP (setP NS u (fE (dropE nm))) a (fL (-1))):=rp1.set (fL_num _) hx' (by
  rw [if_neg (by decide)]
  show ({ (g1 a).nd with links:=x'.links - 1 }:Nd)=fL (-1) x'
  rw [hgx']; rfl)
 have hg2:(upd g1 a { g1 a with nd:=if 2=1 then { (g1 a).nd with kind:=x'.links - 1 } else { (g1 a).nd with links:=x'.links - 1 } } a).nd.links=x'.links - 1:=by rw [upd_at,if_neg (by decide)]
 refine ⟨.pointer (some ⟨b,a * 5,none⟩),ixN rfl ha64,.pointer (some ⟨b,a * 5 + 2,none⟩),fldN (by omega),_,rtLinks ha64,?_⟩
 rw [hg2]
 have hl1:x'.links=1:=by
  rcases kinds wf hx with ⟨_,_,h⟩ | ⟨_,_,h⟩
  ·rw [hl']; exact h
  ·exact absurd hk h
 refine ⟨fun hz => ?_,fun hz=>absurd (by rw [hl1]; rfl) hz⟩
 refine ⟨.pointer (some ⟨b,a * 5,none⟩),ixN rfl ha64,storeNd ha64 0 0 0 0 rfl fun R h H=>⟨_,rfl,?_,H⟩⟩
 have:=(rp2.del (a:=a) (y:=⟨⟨0,0,0,[],[]⟩,none,0,none,0⟩) rfl)
 rw [delP_set _ _ (fL_num _)] at this
 exact DoR.code0 this rfl
set_option maxHeartbeats 4000000 in
theorem rdo4_ok (I:DoI B g NS path other S da dl d):DoT b g NS 4 path other off n S da dl dc d:=by
 obtain ⟨hB,wf,hg,hp,ho,hd,hdl,hd9,hda⟩:=I
 refine tri_of_tree (ρ:=[.n b,.p (RT b g),.i 4,.s path,.s other,.i off,.i n,.a da,.n dl,.n dc,.p S]) mixed Tryz.func77 tree_rdo4 ?_
 unfold t_rdo4
 simp only [T.den,E.prop,E.den,RX.look,F1.app,F2.app,Uni.int_i,Uni.nat_n,Uni.bool_c,Uni.str_s,Uni.adr_a,Uni.val_v,Uni.hp_p,hden,cden,V.den,W.den,A.den,BR.den,SA.den,FV.den,capV,exs,exP,allP,Cur.app,List.map_cons,List.map_nil,List.cons_append,List.nil_append,List.drop_succ_cons,List.drop_zero,List.length_cons,List.length_nil,Nat.zero_add,Nat.reduceAdd,Int.neg_neg,Bool.not_not,List.append_nil,Nat.add_zero,List.getElem?_cons_zero,List.getElem?_cons_succ,Decidable.not_not,semW_eq,semW_load,semW_store,semW_storeC,ne_eq,Nat.reduceEqDiff,not_false_eq_true,semW_ix,semW_fld]
 rw [dS4]
 intro _ _ _
 refine (rUp_ok path (by omega)).weak (fun _ _ _=>trivial) ?_
 rintro v R h rfl
 refine ⟨_,_,_,rfl,?_,trivial⟩
 cases e1:parentS path with
 | none =>
  refine ⟨fun _ => ?_,fun h=>by simp at h⟩
  have hE:=entry_no (NS:=NS) e1
  have hs:unlinkS NS path=(NS,20):=by unfold unlinkS; rw [hE]; rfl
  rw [hs]
  exact DoR.code hg rfl
 | some q =>
 obtain ⟨ab,nm⟩:=q
 simp only [Option.getD_some,Option.isSome_some,if_true]
 refine ⟨fun h=>by simp at h,fun _ => ?_⟩
 refine (rFind_ok hB wf hg path (by omega)).weak (fun _ _ h=>h) ?_
 rintro v R h ⟨rfl,H⟩
 refine ⟨_,_,rfl,⟨fun h0 => ?_,fun h0 => ?_⟩,H⟩
 ·have hE:=entry_er e1 h0
  have hs:unlinkS NS path=(NS,(findS NS path).2):=by unfold unlinkS; rw [hE]; exact if_pos h0
  rw [hs]
  exact DoR.code hg rfl
 clear H
 replace h0:(findS NS path).2=0:=by simpa using h0
 obtain ⟨x,hx,ha64⟩:=find_at wf h0
 obtain ⟨hE,y,hy,hyk,hyl⟩:=entry_yes e1 h0
 refine (rFind_ok hB wf hg ab (by have:=(parent_len e1).1; omega)).weak (fun _ _ h=>h) ?_
 rintro v R h ⟨rfl,H⟩
 refine ⟨_,_,rfl,?_,H⟩
 clear H
 have hu64:=wf.lt64 hy
 generalize (findS NS ab).1=u at *
 generalize (findS NS path).1=a at *
 have hgx:=hg.at' ha64 hx
 have hgy:=hg.at' hu64 hy
 refine ⟨.pointer (some ⟨b,a * 5,none⟩),ixN rfl ha64,.pointer (some ⟨b,a * 5 + 1,none⟩),fldN (by omega),_,rtKind ha64,?_⟩
 rw [hgx]
 have hs:unlinkS NS path=if x.kind=1 then (NS,24) else if x.links=1 then (delP (setP (setP NS u (fE (dropE nm))) a (fL (-1))) a,0) else (setP (setP NS u (fE (dropE nm))) a (fL (-1)),0):=by
  unfold unlinkS; rw [hE]; simp only [ne_eq,not_true_eq_false,if_false]; rw [hx]
 rw [hs]
 refine ⟨fun hk => ?_,fun hk => ?_⟩
 ·rw [if_pos hk]; exact DoR.code hg rfl
 rw [if_neg hk]
 refine ⟨.pointer (some ⟨b,a * 5,none⟩),ixN rfl ha64,.pointer (some ⟨b,a * 5 + 4,none⟩),fldN (by omega),_,_,_,rtEnts ha64,?_⟩
 rw [hgx]
 refine ⟨fun he => ?_,fun he => ?_⟩
 ·exfalso
  rcases kinds wf hx with ⟨h,_⟩ | ⟨_,h,_⟩
  ·exact hk h
  ·rw [h] at he; simp at he
 refine (rDrop_ok hu64 nm (by rw [hgy]; exact ents_le wf hB hy)).weak (fun _ _ h=>h) ?_
 rintro v R h ⟨a',c',rfl,H⟩
 refine ⟨_,rfl,?_,H⟩
 clear H
 have rp1:Rp (upd g u (withE (g u) (dropE nm (g u).nd.ents) a' c')) (setP NS u (fE (dropE nm))):=hg.set (fE_num _) hy (by
  show ({ (g u).nd with ents:=dropE nm (g u).nd.ents }:Nd)=_
  rw [hgy]; rfl)
 generalize upd g u (withE (g u) (dropE nm (g u).nd.ents) a' c')=g1 at *
 obtain ⟨x',hx',hl'⟩ : ∃ x',nodeAt (setP NS u (fE (dropE nm))) a=some x' ∧ x'.links=x.links:=by
  rw [nodeAt_set (fE_num _)]
  by_cases e:a=u
  ·rw [if_pos e,← e,hx]; exact ⟨_,rfl,rfl⟩
  ·rw [if_neg e]; exact ⟨x,hx,rfl⟩
 have hgx':=rp1.at' ha64 hx'
 have hlb:=(wf.at' hx).1.lpos
 have hlf:=(wf.at' hx).1.lfew
 refine ⟨.pointer (some ⟨b,a * 5,none⟩),ixN rfl ha64,.pointer (some ⟨b,a * 5 + 2,none⟩),fldN (by omega),_,rtLinks ha64,?_⟩
 rw [hgx']
 refine ⟨inI64' _ (by omega) (by omega),fun _=>⟨.pointer (some ⟨b,a * 5,none⟩),ixN rfl ha64,.pointer (some ⟨b,a * 5 + 2,none⟩),fldN (by omega),?_⟩⟩
 refine storeInt (v:=x'.links - 1) (off:=2) ha64 (.inr rfl) fun R h H=>⟨_,rfl,?_,H⟩
 clear H
 have rp2:Rp (upd g1 a { g1 a with nd:=if 2=1 then { (g1 a).nd with kind:=x'.links - 1 } else { (g1 a).nd with links:=x'.links - 1 } }) (setP (setP NS u (fE (dropE nm))) a (fL (-1))):=rp1.set (fL_num _) hx' (by
  rw [if_neg (by decide)]
  show ({ (g1 a).nd with links:=x'.links - 1 }:Nd)=fL (-1) x'
  rw [hgx']; rfl)
 have hg2:(upd g1 a { g1 a with nd:=if 2=1 then { (g1 a).nd with kind:=x'.links - 1 } else { (g1 a).nd with links:=x'.links - 1 } } a).nd.links=x'.links - 1:=by rw [upd_at,if_neg (by decide)]
 refine ⟨.pointer (some ⟨b,a * 5,none⟩),ixN rfl ha64,.pointer (some ⟨b,a * 5 + 2,none⟩),fldN (by omega),_,rtLinks ha64,?_⟩
 rw [hg2]
 refine ⟨fun hz => ?_,fun hz => ?_⟩
 ·have hl1:x.links=1:=by rw [← hl']; omega
  rw [if_pos hl1]
  refine ⟨.pointer (some ⟨b,a * 5,none⟩),ixN rfl ha64,storeNd ha64 0 0 0 0 rfl fun R h H=>⟨_,rfl,?_,H⟩⟩
  exact DoR.code0 (rp2.del (a:=a) (y:=⟨⟨0,0,0,[],[]⟩,none,0,none,0⟩) rfl) rfl
 ·have hl1 : ¬ x.links=1:=by rw [← hl']; omega
  rw [if_neg hl1]
  exact DoR.code0 rp2 rfl
set_option maxHeartbeats 4000000 in
theorem rdo5_ok (I:DoI B g NS path other S da dl d):DoT b g NS 5 path other off n S da dl dc d:=by
 obtain ⟨hB,wf,hg,hp,ho,hd,hdl,hd9,hda⟩:=I
 refine tri_of_tree (ρ:=[.n b,.p (RT b g),.i 5,.s path,.s other,.i off,.i n,.a da,.n dl,.n dc,.p S]) mixed Tryz.func77 tree_rdo5 ?_
 unfold t_rdo5
 simp only [T.den,E.prop,E.den,RX.look,F1.app,F2.app,Uni.int_i,Uni.nat_n,Uni.bool_c,Uni.str_s,Uni.adr_a,Uni.val_v,Uni.hp_p,hden,cden,V.den,W.den,A.den,BR.den,SA.den,FV.den,capV,exs,exP,allP,Cur.app,List.map_cons,List.map_nil,List.cons_append,List.nil_append,List.drop_succ_cons,List.drop_zero,List.length_cons,List.length_nil,Nat.zero_add,Nat.reduceAdd,Int.neg_neg,Bool.not_not,List.append_nil,Nat.add_zero,List.getElem?_cons_zero,List.getElem?_cons_succ,Decidable.not_not,semW_eq,semW_load,semW_store,semW_storeC,ne_eq,Nat.reduceEqDiff,not_false_eq_true,semW_ix,semW_fld]
 rw [dS5]
 intro _ _ _
 refine (rUp_ok path (by omega)).weak (fun _ _ _=>trivial) ?_
 rintro v R h rfl
 refine ⟨_,_,_,rfl,?_,trivial⟩
 refine (fun hX=>⟨fun _=>hX,fun _=>hX⟩) ?_
 refine (rFind_ok hB wf hg path (by omega)).weak (fun _ _ h=>h) ?_
 rintro v R h ⟨rfl,H⟩
 refine ⟨_,_,rfl,⟨fun h0 => ?_,fun h0 => ?_⟩,H⟩
 ·have hs:linkS NS path other=(NS,(findS NS path).2):=by unfold linkS; rw [file_er h0]; exact if_pos h0
  rw [hs]
  exact DoR.code hg rfl
 clear H
 replace h0:(findS NS path).2=0:=by simpa using h0
 obtain ⟨x,hx,ha64⟩:=find_at wf h0
 refine (rFind_ok hB wf hg _ (par_len path)).weak (fun _ _ h=>h) ?_
 rintro v R h ⟨rfl,H⟩
 refine ⟨_,_,rfl,?_,H⟩
 clear H
 have hgx:=hg.at' ha64 hx
 have hF:=file_yes h0 hx
 generalize (findS NS path).1=a at *
 refine ⟨.pointer (some ⟨b,a * 5,none⟩),ixN rfl ha64,.pointer (some ⟨b,a * 5 + 1,none⟩),fldN (by omega),_,rtKind ha64,?_⟩
 rw [hgx]
 refine ⟨fun hk => ?_,fun hk => ?_⟩
 ·rw [if_pos hk] at hF
  have hs:linkS NS path other=(NS,24):=by unfold linkS; rw [hF]; rfl
  rw [hs]; exact DoR.code hg rfl
 rw [if_neg hk] at hF
 refine (rPlace_ok hB wf hg other (by omega)).weak (fun _ _ h=>h) ?_
 rintro v R h ⟨rfl,H⟩
 refine ⟨_,_,_,rfl,⟨fun hc => ?_,fun hc => ?_⟩,H⟩
 ·have hs:linkS NS path other=(NS,(placeS NS other).2.2):=by unfold linkS; rw [hF,if_neg (by simp),if_pos hc]
  rw [hs]; exact DoR.code hg rfl
 clear H
 replace hc:(placeS NS other).2.2=0:=by simpa using hc
 obtain ⟨y,hy,hyk,hyl,_⟩:=place_at hc
 have hu64:=wf.lt64 hy
 have hs:linkS NS path other=(setP (setP NS (placeS NS other).1 (fE (putE (placeS NS other).2.1 a))) a (fL 1),0):=by unfold linkS; rw [hF,if_neg (by simp),if_neg (by simpa using hc)]
 rw [hs]
 generalize (placeS NS other).1=u at *
 generalize (placeS NS other).2.1=nm at *
 have hgy:=hg.at' hu64 hy
 have hau:a ≠ u:=fun e=>by rw [e,hy] at hx; cases hx; exact hk hyk
 refine (rPut_ok hu64 nm a (by rw [hgy]; exact ents_le wf hB hy)).weak (fun _ _ h=>h) ?_
 rintro v R h ⟨a',c',rfl,H⟩
 refine ⟨_,rfl,?_,H⟩
 clear H
 have rp1:Rp (upd g u (withE (g u) (putE nm a (g u).nd.ents) a' c')) (setP NS u (fE (putE nm a))):=hg.set (fE_num _) hy (by
  show ({ (g u).nd with ents:=putE nm a (g u).nd.ents }:Nd)=_
  rw [hgy]; rfl)
 generalize upd g u (withE (g u) (putE nm a (g u).nd.ents) a' c')=g1 at *
 have hx':nodeAt (setP NS u (fE (putE nm a))) a=some x:=by rw [nodeAt_set (fE_num _),if_neg hau]; exact hx
 have hgx':=rp1.at' ha64 hx'
 have hlb:=(wf.at' hx).1.lpos
 have hlf:=(wf.at' hx).1.lfew
 have rp2:Rp (upd g1 a { g1 a with nd:=if 2=1 then { (g1 a).nd with kind:=x.links + 1 } else { (g1 a).nd with links:=x.links + 1 } }) (setP (setP NS u (fE (putE nm a))) a (fL 1)):=rp1.set (fL_num _) hx' (by
  rw [if_neg (by decide)]
  show ({ (g1 a).nd with links:=x.links + 1 }:Nd)=fL 1 x
  rw [hgx']; rfl)
 obtain ⟨g2,hg2⟩ : ∃ g2,upd g1 a { g1 a with nd:=if 2=1 then { (g1 a).nd with kind:=x.links + 1 } else { (g1 a).nd with links:=x.links + 1 } }=g2:=⟨_,rfl⟩
 rw [hg2] at rp2
 refine ⟨fun P=>P=RT b g2,?_,fun P hP => ?_⟩
 ·refine ⟨.pointer (some ⟨b,a * 5,none⟩),ixN rfl ha64,.pointer (some ⟨b,a * 5 + 2,none⟩),fldN (by omega),x.links,(by have:=rtLinks (b:=b) (g:=g1) ha64; rw [hgx'] at this; exact this),?_⟩
  refine ⟨inI64' _ (by omega) (by omega),fun _=>⟨.pointer (some ⟨b,a * 5,none⟩),ixN rfl ha64,.pointer (some ⟨b,a * 5 + 2,none⟩),fldN (by omega),?_⟩⟩
  exact storeInt (v:=x.links + 1) (off:=2) ha64 (.inr rfl) fun R h H=>⟨RT b g2,rfl,rfl,by rw [← hg2]; exact H⟩
 ·replace hP:P=_:=hP
  subst hP
  exact DoR.code0 rp2 rfl
set_option maxHeartbeats 4000000 in
theorem rdo6_ok (I:DoI B g NS path other S da dl d):DoT b g NS 6 path other off n S da dl dc d:=by
 obtain ⟨hB,wf,hg,hp,ho,hd,hdl,hd9,hda⟩:=I
 refine tri_of_tree (ρ:=[.n b,.p (RT b g),.i 6,.s path,.s other,.i off,.i n,.a da,.n dl,.n dc,.p S]) mixed Tryz.func77 tree_rdo6 ?_
 unfold t_rdo6
 simp only [T.den,E.prop,E.den,RX.look,F1.app,F2.app,Uni.int_i,Uni.nat_n,Uni.bool_c,Uni.str_s,Uni.adr_a,Uni.val_v,Uni.hp_p,hden,cden,V.den,W.den,A.den,BR.den,SA.den,FV.den,capV,exs,exP,allP,Cur.app,List.map_cons,List.map_nil,List.cons_append,List.nil_append,List.drop_succ_cons,List.drop_zero,List.length_cons,List.length_nil,Nat.zero_add,Nat.reduceAdd,Int.neg_neg,Bool.not_not,List.append_nil,Nat.add_zero,List.getElem?_cons_zero,List.getElem?_cons_succ,Decidable.not_not,semW_eq,semW_load,ne_eq,Nat.reduceEqDiff,not_false_eq_true,semW_ix,semW_fld]
 rw [dS6]
 intro _ _ _
 refine (rUp_ok path (by omega)).weak (fun _ _ _=>trivial) ?_
 rintro v R h rfl
 refine ⟨_,_,_,rfl,?_,trivial⟩
 cases e1:parentS path with
 | none =>
  refine ⟨fun _ => ?_,fun h=>by simp at h⟩
  have hE:=entry_no (NS:=NS) e1
  have hs:renameS NS path other=(NS,20):=by unfold renameS; rw [hE]; rfl
  rw [hs]
  exact DoR.code hg rfl
 | some q =>
 obtain ⟨ab,nm⟩:=q
 simp only [Option.getD_some,Option.isSome_some,if_true]
 refine ⟨fun h=>by simp at h,fun _ => ?_⟩
 refine (rFind_ok hB wf hg path (by omega)).weak (fun _ _ h=>h) ?_
 rintro v R h ⟨rfl,H⟩
 refine ⟨_,_,rfl,⟨fun h0 => ?_,fun h0 => ?_⟩,H⟩
 ·have hE:=entry_er e1 h0
  have hs:renameS NS path other=(NS,(findS NS path).2):=by unfold renameS; rw [hE]; exact if_pos h0
  rw [hs]
  exact DoR.code hg rfl
 clear H
 replace h0:(findS NS path).2=0:=by simpa using h0
 obtain ⟨x,hx,ha64⟩:=find_at wf h0
 obtain ⟨hE,y,hy,hyk,hyl⟩:=entry_yes e1 h0
 refine (rFind_ok hB wf hg ab (by have:=(parent_len e1).1; omega)).weak (fun _ _ h=>h) ?_
 rintro v R h ⟨rfl,H⟩
 refine ⟨_,_,rfl,?_,H⟩
 clear H
 have hu64:=wf.lt64 hy
 generalize (findS NS ab).1=u at *
 generalize (findS NS path).1=a at *
 have hgx:=hg.at' ha64 hx
 have hgy:=hg.at' hu64 hy
 refine ⟨.pointer (some ⟨b,a * 5,none⟩),ixN rfl ha64,.pointer (some ⟨b,a * 5 + 1,none⟩),fldN (by omega),_,rtKind ha64,?_⟩
 have hs:renameS NS path other=if other=path then (NS,0) else if insideP other path=true then (NS,26) else if (placeS NS other).2.2 ≠ 0 then (NS,(placeS NS other).2.2) else (setP (setP NS u (fE (dropE nm))) (placeS NS other).1 (fE (putE (placeS NS other).2.1 a)),0):=by
  unfold renameS; rw [hE]; simp only [ne_eq,not_true_eq_false,if_false]
 rw [hs]
 refine ⟨fun ho' => ?_,fun ho' => ?_⟩
 ·rw [if_pos ho']; exact DoR.code hg rfl
 rw [if_neg ho']
 refine (inside03_ok other path (by omega) (by omega)).weak (fun _ _ _=>trivial) ?_
 rintro v R h rfl
 refine ⟨_,rfl,⟨fun hi => ?_,fun hi => ?_⟩,trivial⟩
 ·rw [if_pos hi]; exact DoR.code hg rfl
 rw [if_neg hi]
 refine (rPlace_ok hB wf hg other (by omega)).weak (fun _ _ h=>h) ?_
 rintro v R h ⟨rfl,H⟩
 refine ⟨_,_,_,rfl,⟨fun hc => ?_,fun hc => ?_⟩,H⟩
 ·rw [if_pos hc]; exact DoR.code hg rfl
 clear H
 replace hc:(placeS NS other).2.2=0:=by simpa using hc
 rw [if_neg (by simpa using hc)]
 obtain ⟨w,hw,hwk,hwl,_⟩:=place_at hc
 have hw64:=wf.lt64 hw
 generalize (placeS NS other).1=t at *
 generalize (placeS NS other).2.1=nm2 at *
 refine (rDrop_ok hu64 nm (by rw [hgy]; exact ents_le wf hB hy)).weak (fun _ _ h=>h) ?_
 rintro v R h ⟨a',c',rfl,H⟩
 refine ⟨_,rfl,?_,H⟩
 clear H
 have rp1:Rp (upd g u (withE (g u) (dropE nm (g u).nd.ents) a' c')) (setP NS u (fE (dropE nm))):=hg.set (fE_num _) hy (by
  show ({ (g u).nd with ents:=dropE nm (g u).nd.ents }:Nd)=_
  rw [hgy]; rfl)
 generalize upd g u (withE (g u) (dropE nm (g u).nd.ents) a' c')=g1 at *
 obtain ⟨w',hw',hwe⟩ : ∃ w',nodeAt (setP NS u (fE (dropE nm))) t=some w' ∧ w'.ents.length ≤ 100000:=by
  have hwl:=ents_le wf hB hw
  rw [nodeAt_set (fE_num _)]
  by_cases e:t=u
  ·rw [if_pos e,← e,hw]
   refine ⟨_,rfl,?_⟩
   show (dropE nm w.ents).length ≤ 100000
   exact Nat.le_trans (List.length_filter_le _ _) hwl
  ·rw [if_neg e]; exact ⟨w,hw,hwl⟩
 have hgw':=rp1.at' hw64 hw'
 refine (rPut_ok hw64 nm2 a (by rw [hgw']; exact hwe)).weak (fun _ _ h=>h) ?_
 rintro v R h ⟨a2,c2,rfl,H⟩
 refine ⟨_,rfl,DoR.code0 (rp1.set (fE_num _) hw' ?_) rfl,H⟩
 show ({ (g1 t).nd with ents:=putE nm2 a (g1 t).nd.ents }:Nd)=_
 rw [hgw']; rfl
end Go.Proofs.YtdieogcemmnaaaaGreatDoor

namespace Go.Proofs.YtdieogcemmnaaaaGreatDoor
open Go.Proofs.YtdieogcemmnaaaaGreatDoor RX
set_option maxRecDepth 100000
theorem four (l:List UInt8) (k:Nat):l.take (256 * k) ++ (l.drop (256 * k)).take 256=l.take (256 * (k + 1)):=by
 rw [Nat.mul_add,Nat.mul_one,List.take_add]
theorem storeByte {a:Option Addr} {n c:Nat} {l:List UInt8} {k:Nat} (x:UInt8) (hk:k < n) {P:HP} (hP:HP.ent P (OwB a n c l)) {B:Value → HP} (post : ∀ R h,(OwB a n c (l.set k x)).p R h → (B (.tuple #[])).p R h) :
  OTri Tryz.prog (storeS 5 (.pointer (a.map fun y=>(y.add (k * 1)).add 0)) (.int .u8 x.toNat)) P B:=by
 obtain ⟨i,hi,h1,h2,h3⟩:=info_parts info8
 have:=store_ok (t:=5) hi 5 1 a n c (l.map u8v) (k * 1) 0 (u8v x) [u8v x] rfl (by rw [h2]; rfl) (by simp) (by simp [u8v,Value.oneCell']) (by simp; omega)
 refine (OTri.fact (φ:=l.length=n) (fun R h H=>by have:=H.1; simpa using this) fun hl => ?_:OTri _ _ (OwB a n c l) B).conseq (K:=HP.tt) (hP.trans (.of fun R h H=>HP.sep_tt H)) fun v => .of fun R h H=>HP.sep_left H
 refine this.weak (fun _ _ h=>h) ?_
 rintro v R h ⟨rfl,H⟩
 refine post R h ?_
 have e:(l.map u8v).take (k * 1 + 0) ++ [u8v x] ++ (l.map u8v).drop (k * 1 + 0 + [u8v x].length)=(l.set k x).map u8v:=by
  rw [List.map_set,List.set_eq_take_append_cons_drop,if_pos (by simp; omega)]
  simp
 rw [e] at H
 exact H
end Go.Proofs.YtdieogcemmnaaaaGreatDoor

namespace Go.Proofs.YtdieogcemmnaaaaGreatDoor
set_option linter.unusedSimpArgs false
set_option linter.unusedVariables false
open Go.Proofs.YtdieogcemmnaaaaGreatDoor RX
set_option maxRecDepth 100000
variable {B b:Nat} {g:Nat → NodeE} {NS:List Nd} {path other:Nm} {off n:Int} {S:HP} {da:Option Addr} {dl dc:Nat} {d:List UInt8}
theorem put2 {A S O N:HP} {R h:PH} (H:(HP.sep A (HP.sep S (HP.sep O N))).p R h):(HP.sep O (HP.sep A S)).p R h :=
 HP.sep_comm (HP.sep_assoc' (HP.sep_mono H (fun _ h=>h) fun _ hz=>HP.sep_mono hz (fun _ h=>h) fun _ h=>HP.sep_left h))
theorem put3 {A S O N:HP} {R h:PH} (H:(HP.sep A (HP.sep S (HP.sep N O))).p R h):(HP.sep O (HP.sep A S)).p R h :=
 HP.sep_comm (HP.sep_assoc' (HP.sep_mono H (fun _ h=>h) fun _ hz=>HP.sep_mono hz (fun _ h=>h) fun _ h=>HP.sep_right h))
set_option maxHeartbeats 4000000 in
theorem rdo9_ok (I:DoI B g NS path other S da dl d):DoT b g NS 9 path other off n S da dl dc d:=by
 obtain ⟨hB,wf,hg,hp,ho,hd,hdl,hd9,hda⟩:=I
 refine tri_of_tree (ρ:=[.n b,.p (RT b g),.i 9,.s path,.s other,.i off,.i n,.a da,.n dl,.n dc,.p S]) mixed Tryz.func77 tree_rdo9 ?_
 unfold t_rdo9
 simp only [T.den,E.prop,E.den,RX.look,F1.app,F2.app,Uni.int_i,Uni.nat_n,Uni.bool_c,Uni.str_s,Uni.adr_a,Uni.val_v,Uni.hp_p,hden,cden,V.den,W.den,A.den,BR.den,SA.den,FV.den,capV,exs,exP,allP,Cur.app,List.map_cons,List.map_nil,List.cons_append,List.nil_append,List.drop_succ_cons,List.drop_zero,List.length_cons,List.length_nil,Nat.zero_add,Nat.reduceAdd,Int.neg_neg,Bool.not_not,List.append_nil,Nat.add_zero,List.getElem?_cons_zero,List.getElem?_cons_succ,Decidable.not_not,semW_eq,semW_load,semW_store,semW_storeC,ne_eq,Nat.reduceEqDiff,not_false_eq_true,semW_ix,semW_fld]
 rw [dS9]
 intro _ _ _
 refine (rUp_ok path (by omega)).weak (fun _ _ _=>trivial) ?_
 rintro v R h rfl
 refine ⟨_,_,_,rfl,?_,trivial⟩
 refine (fun hX=>⟨fun _=>hX,fun _=>hX⟩) ?_
 refine (rFind_ok hB wf hg path (by omega)).weak (fun _ _ h=>h) ?_
 rintro v R h ⟨rfl,H⟩
 refine ⟨_,_,rfl,⟨fun h0 => ?_,fun h0 => ?_⟩,H⟩
 ·have hs:cutS NS path n=(NS,(findS NS path).2):=by unfold cutS; rw [file_er h0]; exact if_pos h0
  rw [hs]
  exact DoR.code hg rfl
 clear H
 replace h0:(findS NS path).2=0:=by simpa using h0
 obtain ⟨x,hx,ha64⟩:=find_at wf h0
 refine (rFind_ok hB wf hg _ (par_len path)).weak (fun _ _ h=>h) ?_
 rintro v R h ⟨rfl,H⟩
 refine ⟨_,_,rfl,?_,H⟩
 clear H
 have hgx:=hg.at' ha64 hx
 have hF:=file_yes h0 hx
 generalize (findS NS path).1=a at *
 refine ⟨.pointer (some ⟨b,a * 5,none⟩),ixN rfl ha64,.pointer (some ⟨b,a * 5 + 1,none⟩),fldN (by omega),_,rtKind ha64,?_⟩
 rw [hgx]
 refine ⟨fun hk => ?_,fun hk => ?_⟩
 ·rw [if_pos hk] at hF
  have hs:cutS NS path n=(NS,24):=by unfold cutS; rw [hF]; rfl
  rw [hs]; exact DoR.code hg rfl
 rw [if_neg hk] at hF
 have hs:cutS NS path n=if n < 0 then (NS,1) else if 512 < n then (NS,27) else (setP NS a (fD fun l=>sizeD l n.toNat),0):=by unfold cutS; rw [hF,if_neg (by simp)]
 rw [hs]
 refine ⟨.pointer (some ⟨b,a * 5,none⟩),ixN rfl ha64,.pointer (some ⟨b,a * 5 + 3,none⟩),fldN (by omega),(g a).da,(g a).nd.data.length,(g a).dc,rtData ha64,?_⟩
 refine ⟨fun h1 => ?_,fun h1=>⟨fun h2 => ?_,fun h2 => ?_⟩⟩
 ·rw [if_pos h1]; exact DoR.code hg rfl
 ·rw [if_neg h1,if_pos h2]; exact DoR.code hg rfl
 rw [if_neg h1,if_neg h2]
 obtain ⟨m,rfl⟩:=Int.eq_ofNat_of_zero_le (show 0 ≤ n by omega)
 refine ⟨fun P => ∃ g2,P=RT b g2 ∧ Rp g2 (setP NS a (fD fun l=>sizeD l m)),?_,fun P hP => ?_⟩
 ·refine (rSize_ok (g a).da (g a).nd.data.length (g a).dc (g a).nd.data (RT b g) (rtDataL ha64) rfl m (by omega)).weak (fun _ _ h=>h) ?_
  rintro v R h ⟨a',c',rfl,H⟩
  refine ⟨a',m,c',_,rfl,?_,H⟩
  refine ⟨.pointer (some ⟨b,a * 5,none⟩),ixN rfl ha64,.pointer (some ⟨b,a * 5 + 3,none⟩),fldN (by omega),?_⟩
  refine storeD ha64 (sizeD_len _ _) (.of fun _ _ h=>h) fun R h H=>⟨RT b (upd g a (withD (g a) (sizeD (g a).nd.data m) a' c')),rfl,?_,H⟩
  refine ⟨_,rfl,hg.set (fD_num _) hx ?_⟩
  show ({ (g a).nd with data:=sizeD (g a).nd.data m }:Nd)=_
  rw [hgx]; rfl
 ·obtain ⟨g2,rfl,rp2⟩:=hP
  exact DoR.code0 rp2 rfl
def midW (l d:List UInt8) (o k:Nat):List UInt8:=l.take o ++ d.take k ++ l.drop (o + k)
theorem midW_len {l d:List UInt8} {o k:Nat} (h:o + d.length ≤ l.length) (hk:k ≤ d.length):(midW l d o k).length=l.length:=by
 unfold midW; simp; omega
theorem midW_step {l d:List UInt8} {o k:Nat} {x:UInt8} (h:o + d.length ≤ l.length) (hx:d[k]? = some x):(midW l d o k).set (o + k) x=midW l d o (k + 1):=by
 have hk:=(List.getElem?_eq_some_iff.1 hx).1
 unfold midW
 have h1:(l.take o ++ d.take k).length=o + k:=by simp; omega
 rw [List.set_append_right _ _ (by omega),h1,Nat.sub_self,List.drop_eq_getElem_cons (show o + k < l.length by omega),List.set_cons_zero,List.take_add_one,hx]
 simp [Nat.add_assoc]
set_option maxHeartbeats 4000000 in
theorem rdo7_ok (I:DoI B g NS path other S da dl d):DoT b g NS 7 path other off n S da dl dc d:=by
 obtain ⟨hB,wf,hg,hp,ho,hd,hdl,hd9,hda⟩:=I
 refine tri_of_tree (ρ:=[.n b,.p (RT b g),.i 7,.s path,.s other,.i off,.i n,.a da,.n dl,.n dc,.p S]) mixed Tryz.func77 tree_rdo7 ?_
 unfold t_rdo7
 simp only [T.den,E.prop,E.den,RX.look,F1.app,F2.app,Uni.int_i,Uni.nat_n,Uni.bool_c,Uni.str_s,Uni.adr_a,Uni.val_v,Uni.hp_p,hden,cden,V.den,W.den,A.den,BR.den,SA.den,FV.den,capV,exs,exP,allP,Cur.app,List.map_cons,List.map_nil,List.cons_append,List.nil_append,List.drop_succ_cons,List.drop_zero,List.length_cons,List.length_nil,Nat.zero_add,Nat.reduceAdd,Int.neg_neg,Bool.not_not,List.append_nil,Nat.add_zero,List.getElem?_cons_zero,List.getElem?_cons_succ,Decidable.not_not,semW_eq,semW_load,semW_store,semW_storeC,ne_eq,Nat.reduceEqDiff,not_false_eq_true,semW_ix,semW_fld]
 rw [dS7]
 intro _ _ _
 refine (rUp_ok path (by omega)).weak (fun _ _ _=>trivial) ?_
 rintro v R h rfl
 refine ⟨_,_,_,rfl,?_,trivial⟩
 refine (fun hX=>⟨fun _=>hX,fun _=>hX⟩) ?_
 refine (rFind_ok hB wf hg path (by omega)).weak (fun _ _ h=>h) ?_
 rintro v R h ⟨rfl,H⟩
 refine ⟨_,_,rfl,⟨fun h0 => ?_,fun h0 => ?_⟩,H⟩
 ·have hs:writeS NS path off d=(NS,(findS NS path).2):=by unfold writeS; rw [file_er h0]; exact if_pos h0
  rw [hs]
  exact DoR.code hg rfl
 clear H
 replace h0:(findS NS path).2=0:=by simpa using h0
 obtain ⟨x,hx,ha64⟩:=find_at wf h0
 refine (rFind_ok hB wf hg _ (par_len path)).weak (fun _ _ h=>h) ?_
 rintro v R h ⟨rfl,H⟩
 refine ⟨_,_,rfl,?_,H⟩
 clear H
 have hgx:=hg.at' ha64 hx
 have hF:=file_yes h0 hx
 generalize (findS NS path).1=a at *
 refine ⟨.pointer (some ⟨b,a * 5,none⟩),ixN rfl ha64,.pointer (some ⟨b,a * 5 + 1,none⟩),fldN (by omega),_,rtKind ha64,?_⟩
 rw [hgx]
 refine ⟨fun hk => ?_,fun hk => ?_⟩
 ·rw [if_pos hk] at hF
  have hs:writeS NS path off d=(NS,24):=by unfold writeS; rw [hF]; rfl
  rw [hs]; exact DoR.code hg rfl
 rw [if_neg hk] at hF
 have hs:writeS NS path off d=if off < 0 ∨ 256 < d.length then (NS,1) else if 512 < off + d.length then (NS,27) else if d=[] then (NS,0) else (setP NS a (fD (wrote off.toNat d)),0):=by unfold writeS; rw [hF,if_neg (by simp)]
 rw [hs]
 have hxd:=(wf.at' hx).1.data
 refine ⟨.pointer (some ⟨b,a * 5,none⟩),ixN rfl ha64,.pointer (some ⟨b,a * 5 + 3,none⟩),fldN (by omega),(g a).da,(g a).nd.data.length,(g a).dc,rtData ha64,?_⟩
 refine ⟨fun h1 => ?_,fun h1=>⟨fun h2 => ?_,fun h2=>⟨fun h3 => ?_,fun h3=>⟨inI64' _ (by omega) (by omega),fun _=>⟨fun h4 => ?_,fun h4=>⟨fun h5 => ?_,fun h5 => ?_⟩⟩⟩⟩⟩⟩
 ·rw [if_pos (.inl h1)]; exact DoR.code hg rfl
 ·rw [if_pos (.inr (by omega))]; exact DoR.code hg rfl
 ·rw [if_neg (by omega),if_pos (by omega)]; exact DoR.code hg rfl
 ·rw [if_neg (by omega),if_pos (by omega)]; exact DoR.code hg rfl
 ·have hd0 : ¬ d=[]:=fun h=>by rw [h] at hdl; simp at hdl; omega
  rw [if_neg (by omega),if_neg (by omega),if_neg hd0]
  obtain ⟨o,rfl⟩:=Int.eq_ofNat_of_zero_le (show 0 ≤ off by omega)
  subst hdl
  obtain ⟨m,hm⟩ : ∃ m,m=max (g a).nd.data.length (o + d.length):=⟨_,rfl⟩
  have em:max ((g a).nd.data.length:Int) ((o:Int) + (d.length:Int))=(m:Int):=by omega
  rw [em]
  have hml:m ≤ 512:=by rw [hgx] at hm; omega
  refine (rSize_ok (g a).da (g a).nd.data.length (g a).dc (g a).nd.data (RT b g) (rtDataL ha64) rfl m (by omega)).weak (fun _ _ h=>h) ?_
  rintro v R h ⟨a',c',rfl,H⟩
  have hsome:a'.isSome=true:=OwC.some (HP.sep_left H) (by omega)
  refine ⟨a',m,c',_,rfl,?_,H⟩
  clear H
  have hsl:(sizeD (g a).nd.data m).length=m:=sizeD_len _ _
  refine ⟨fun i P => ∃ k:Nat,i=k ∧ k ≤ d.length ∧ HP.ent P (OwB a' m c' (midW (sizeD (g a).nd.data m) d o k)),fun i _=>d.length - i.toNat,⟨0,rfl,Nat.zero_le _,by unfold midW; simp only [List.take_zero,List.append_nil,Nat.add_zero,List.take_append_drop]; exact .of fun _ _ h=>h⟩,?_⟩
  rintro _ P ⟨k,rfl,hk',hP⟩
  refine ⟨fun hlt => ?_,fun hge => ?_⟩
  ·obtain ⟨x0,hx0⟩:=getN (l:=d) (k:=k) (by omega)
   refine ⟨fun P'=>HP.ent P' (OwB a' m c' (midW (sizeD (g a).nd.data m) d o (k + 1))),?_,fun P' hP'=>⟨inI64' _ (by omega) (by omega),fun _=>⟨⟨k + 1,by omega,by omega,hP'⟩,by dsimp only; omega⟩⟩⟩
   refine ⟨inI64' _ (by omega) (by omega),fun _=>⟨by omega,fun _=>⟨hda (by omega),fun _=>⟨x0.toNat,load1_ok und8b agg8 sz8 hd.rd (k:=(k:Int).toNat * 1) (off:=0) (by rw [Int.toNat_natCast,Nat.mul_one,Nat.add_zero,List.getElem?_map,hx0]; rfl),by omega,fun _=>⟨by omega,fun _=>⟨hsome,fun _ => ?_⟩⟩⟩⟩⟩⟩
   have e1:((o:Int) + (k:Int)).toNat=o + k:=by omega
   rw [e1]
   refine storeByte x0 (by omega) hP fun R h H => ?_
   rw [midW_step (by rw [hsl]; omega) hx0] at H
   exact ⟨_,rfl,.of fun _ _ h=>h,H⟩
  ·have hkd:k=d.length:=by omega
   subst hkd
   refine ⟨.pointer (some ⟨b,a * 5,none⟩),ixN rfl ha64,.pointer (some ⟨b,a * 5 + 3,none⟩),fldN (by omega),?_⟩
   refine storeD ha64 (by rw [midW_len (by rw [hsl]; omega) (Nat.le_refl _),hsl]) hP fun R h H=>⟨_,rfl,?_,H⟩
   refine DoR.code0 (hg.set (fD_num _) hx ?_) rfl
   show ({ (g a).nd with data:=midW (sizeD (g a).nd.data m) d o d.length }:Nd)=_
   unfold midW
   rw [List.take_length,hm,hgx]
   rfl
 ·have hd0:d=[]:=List.eq_nil_of_length_eq_zero (by omega)
  rw [if_neg (by omega),if_neg (by omega),if_pos hd0]; exact DoR.code0 hg rfl
set_option maxHeartbeats 4000000 in
theorem rdo8_ok (I:DoI B g NS path other S da dl d):DoT b g NS 8 path other off n S da dl dc d:=by
 obtain ⟨hB,wf,hg,hp,ho,hd,hdl,hd9,hda⟩:=I
 refine Tri.fact (φ := ∀ i,i < 64 → (g i).nd.data.length ≠ 0 → (g i).da.isSome=true) (fun R h H=>RT.da (HP.sep_left H)) fun hgd => ?_
 refine tri_of_tree (ρ:=[.n b,.p (RT b g),.i 8,.s path,.s other,.i off,.i n,.a da,.n dl,.n dc,.p S]) mixed Tryz.func77 tree_rdo8 ?_
 unfold t_rdo8
 simp only [T.den,E.prop,E.den,RX.look,F1.app,F2.app,Uni.int_i,Uni.nat_n,Uni.bool_c,Uni.str_s,Uni.adr_a,Uni.val_v,Uni.hp_p,hden,cden,V.den,W.den,A.den,BR.den,SA.den,FV.den,capV,exs,exP,allP,Cur.app,List.map_cons,List.map_nil,List.cons_append,List.nil_append,List.drop_succ_cons,List.drop_zero,List.length_cons,List.length_nil,Nat.zero_add,Nat.reduceAdd,Int.neg_neg,Bool.not_not,List.append_nil,Nat.add_zero,List.getElem?_cons_zero,List.getElem?_cons_succ,Decidable.not_not,semW_eq,semW_load,semW_append,ne_eq,Nat.reduceEqDiff,not_false_eq_true,semW_ix,semW_fld]
 rw [dS8]
 intro _ _ _
 refine (rUp_ok path (by omega)).weak (fun _ _ _=>trivial) ?_
 rintro v R h rfl
 refine ⟨_,_,_,rfl,?_,trivial⟩
 refine (fun hX=>⟨fun _=>hX,fun _=>hX⟩) ?_
 refine (rFind_ok hB wf hg path (by omega)).weak (fun _ _ h=>h) ?_
 rintro v R h ⟨rfl,H⟩
 refine ⟨_,_,rfl,⟨fun h0 => ?_,fun h0 => ?_⟩,H⟩
 ·have hs:readS' NS path off n={ err:=(findS NS path).2 }:=by unfold readS' readS; rw [file_er h0,if_pos h0]
  rw [hs]
  exact DoR.code hg rfl
 clear H
 replace h0:(findS NS path).2=0:=by simpa using h0
 obtain ⟨x,hx,ha64⟩:=find_at wf h0
 refine (rFind_ok hB wf hg _ (par_len path)).weak (fun _ _ h=>h) ?_
 rintro v R h ⟨rfl,H⟩
 refine ⟨_,_,rfl,?_,H⟩
 clear H
 have hgx:=hg.at' ha64 hx
 have hF:=file_yes h0 hx
 have hgda:=hgd _ ha64
 generalize (findS NS path).1=a at *
 refine ⟨.pointer (some ⟨b,a * 5,none⟩),ixN rfl ha64,.pointer (some ⟨b,a * 5 + 1,none⟩),fldN (by omega),_,rtKind ha64,?_⟩
 rw [hgx]
 refine ⟨fun hk => ?_,fun hk => ?_⟩
 ·rw [if_pos hk] at hF
  have hs:readS' NS path off n={ err:=24 }:=by unfold readS' readS; rw [hF]; rfl
  rw [hs]; exact DoR.code hg rfl
 rw [if_neg hk] at hF
 have hs:readS' NS path off n=if off < 0 ∨ n < 0 ∨ 256 < n then { err:=1 } else { data:=(x.data.drop off.toNat).take n.toNat }:=by
  unfold readS' readS; rw [hF]; simp only [ne_eq,not_true_eq_false,if_false]
  split
  ·rfl
  ·rw [hx]
 rw [hs]
 have hxd:=(wf.at' hx).1.data
 refine ⟨.pointer (some ⟨b,a * 5,none⟩),ixN rfl ha64,.pointer (some ⟨b,a * 5 + 3,none⟩),fldN (by omega),(g a).da,(g a).nd.data.length,(g a).dc,rtData ha64,?_⟩
 refine ⟨fun h1 => ?_,fun h1=>⟨fun h2 => ?_,fun h2=>⟨fun h3 => ?_,fun h3 => ?_⟩⟩⟩
 ·rw [if_pos (.inl h1)]; exact DoR.code hg rfl
 ·rw [if_pos (.inr (.inl h2))]; exact DoR.code hg rfl
 ·rw [if_pos (.inr (.inr h3))]; exact DoR.code hg rfl
 rw [if_neg (by omega)]
 obtain ⟨o,rfl⟩:=Int.eq_ofNat_of_zero_le (show 0 ≤ off by omega)
 obtain ⟨m,rfl⟩:=Int.eq_ofNat_of_zero_le (show 0 ≤ n by omega)
 simp only [Int.toNat_natCast]
 have rd:=rtDataL (b:=b) (g:=g) ha64
 rw [hgx] at rd ⊢
 refine ⟨fun i e k s l a1 n1 c1 P na nn nc NP => ∃ j:Nat,i=j ∧ j ≤ m ∧ e=0 ∧ k=0 ∧ s=0 ∧ l=0 ∧ n1=((x.data.drop o).take j).length ∧ na=none ∧ nn=0 ∧ nc=0 ∧ HP.ent P (OwB a1 n1 c1 ((x.data.drop o).take j)),fun i _ _ _ _ _ _ _ _ _ _ _ _=>m - i.toNat,
  ⟨0,rfl,Nat.zero_le _,rfl,rfl,rfl,rfl,by simp,rfl,rfl,rfl,.of fun R h H=>(by show (OwB none 0 0 ((x.data.drop o).take 0)).p R h; rw [List.take_zero]; exact OwC.nil _ _ R h)⟩,?_⟩
 rintro _ _ _ _ _ a1 _ c1 P _ _ _ NP ⟨j,rfl,hj,rfl,rfl,rfl,rfl,rfl,rfl,rfl,rfl,hP⟩
 have fin:(x.data.drop o).take j=(x.data.drop o).take m → HP.ent (HP.sep (RT b g) (HP.sep S (HP.sep P NP))) (DoR b NS { data:=(x.data.drop o).take m } S (.tuple #[.agg #[.int .i64 0,.int .i64 0,.int .i64 0,.int .i64 0,.slice a1 ((x.data.drop o).take j).length c1,.slice none 0 0],.int .i64 0])):=fun e =>
  (HP.ent2 (HP.ent.refl _) (HP.ent2 (HP.ent.refl _) (HP.ent2 hP (HP.ent.refl _)))).trans (.of fun R h H=>by
   refine ⟨{ data:=(x.data.drop o).take j },a1,c1,none,0,g,⟨rfl,fun _=>by rw [e],hg⟩,?_⟩
   exact HP.sep_mono (put2 H) (fun _ h=>h) fun _ hz=>HP.sep_comm (HP.sep_mono (HP.sep_tt hz) (fun _ h=>h) fun _ _=>OwC.nil _ _ _ _))
 have full:(x.data.drop o).length ≤ j → (x.data.drop o).take j=(x.data.drop o).take m:=fun h=>by
  rw [List.take_of_length_le h,List.take_of_length_le (by omega)]
 refine ⟨fun hlt=>⟨fun hol=>⟨inI64' _ (by omega) (by omega),fun _=>⟨fun hol2 => ?_,fun hol2=>fin (full (by rw [List.length_drop]; omega))⟩⟩,fun hol=>fin (full (by rw [List.length_drop]; omega))⟩,fun hge=>fin (by rw [show j=m by omega])⟩
 obtain ⟨x0,hx0⟩:=getN (l:=x.data) (k:=o + j) (by omega)
 have e1:((o:Int) + (j:Int)).toNat=o + j:=by omega
 have ht:(x.data.drop o).take (j + 1)=(x.data.drop o).take j ++ [x0]:=by
  rw [List.take_add_one,List.getElem?_drop,hx0]; rfl
 have hjl:((x.data.drop o).take j).length ≤ 512:=by rw [List.length_take,List.length_drop]; omega
 refine ⟨fun a2 n2 c2 P2=>n2=((x.data.drop o).take (j + 1)).length ∧ HP.ent P2 (OwB a2 n2 c2 ((x.data.drop o).take (j + 1))),?_,fun a2 n2 c2 P2 hI => ?_⟩
 ·refine ⟨by omega,fun _=>⟨?_,fun _=>⟨x0.toNat,?_,fun q => ?_⟩⟩⟩
  ·exact hgda (by rw [hgx]; omega)
  ·rw [e1]
   exact load1_ok und8b agg8 sz8 rd.rd (k:=(o + j) * 1) (off:=0) (by rw [Nat.mul_one,Nat.add_zero,List.getElem?_map,hx0]; rfl)
  ·have ap:=append8 a1 ((x.data.drop o).take j).length c1 ((x.data.drop o).take j) (HP.one q (.cells #[.int .u8 x0.toNat] 5 (0,0))) (some ⟨q,0,none⟩) 1 1 [x0] ⟨one_rd q #[.int .u8 x0.toNat] 5,fun _ _ _ e=>by cases e⟩ rfl (fun _=>rfl) (by omega)
   refine OTri.pre3 (ap.weak (fun _ _ h=>h) ?_) (HP.ent.sep hP _)
   rintro v R h ⟨a',c',rfl,H⟩
   rw [← ht] at H
   have hI2:((x.data.drop o).take j).length + 1=((x.data.drop o).take (j + 1)).length ∧ HP.ent (OwB a' (((x.data.drop o).take j).length + 1) c' ((x.data.drop o).take (j + 1))) (OwB a' (((x.data.drop o).take j).length + 1) c' ((x.data.drop o).take (j + 1))):=⟨by rw [ht]; simp,.of fun _ _ h=>h⟩
   exact ⟨a',_,c',OwB a' (((x.data.drop o).take j).length + 1) c' ((x.data.drop o).take (j + 1)),rfl,hI2,H⟩
 ·obtain ⟨rfl,hP2⟩:=hI
  exact ⟨inI64' _ (by omega) (by omega),fun _=>⟨⟨j + 1,by omega,by omega,rfl,rfl,rfl,rfl,rfl,rfl,rfl,rfl,hP2⟩,by dsimp only; omega⟩⟩
set_option maxHeartbeats 4000000 in
theorem rdo10_ok (I:DoI B g NS path other S da dl d):DoT b g NS 10 path other off n S da dl dc d:=by
 obtain ⟨hB,wf,hg,hp,ho,hd,hdl,hd9,hda⟩:=I
 refine tri_of_tree (ρ:=[.n b,.p (RT b g),.i 10,.s path,.s other,.i off,.i n,.a da,.n dl,.n dc,.p S]) mixed Tryz.func77 tree_rdo10 ?_
 unfold t_rdo10
 simp only [T.den,E.prop,E.den,RX.look,F1.app,F2.app,Uni.int_i,Uni.nat_n,Uni.bool_c,Uni.str_s,Uni.adr_a,Uni.val_v,Uni.hp_p,hden,cden,V.den,W.den,A.den,BR.den,SA.den,FV.den,capV,exs,exP,allP,Cur.app,List.map_cons,List.map_nil,List.cons_append,List.nil_append,List.drop_succ_cons,List.drop_zero,List.length_cons,List.length_nil,Nat.zero_add,Nat.reduceAdd,Int.neg_neg,Bool.not_not,List.append_nil,Nat.add_zero,List.getElem?_cons_zero,List.getElem?_cons_succ,Decidable.not_not,semW_eq,semW_load,ne_eq,Nat.reduceEqDiff,not_false_eq_true,semW_ix,semW_fld]
 rw [dS10]
 intro _ _ _
 refine (rUp_ok path (by omega)).weak (fun _ _ _=>trivial) ?_
 rintro v R h rfl
 refine ⟨_,_,_,rfl,?_,trivial⟩
 refine (fun hX=>⟨fun _=>hX,fun _=>hX⟩) ?_
 refine (rFind_ok hB wf hg path (by omega)).weak (fun _ _ h=>h) ?_
 rintro v R h ⟨rfl,H⟩
 refine ⟨_,_,rfl,⟨fun h0 => ?_,fun h0 => ?_⟩,H⟩
 ·have hs:statS NS path={ err:=(findS NS path).2 }:=by unfold statS; rw [if_pos h0]
  rw [hs]
  exact DoR.code hg rfl
 clear H
 replace h0:(findS NS path).2=0:=by simpa using h0
 obtain ⟨x,hx,ha64⟩:=find_at wf h0
 refine (rFind_ok hB wf hg _ (par_len path)).weak (fun _ _ h=>h) ?_
 rintro v R h ⟨rfl,H⟩
 refine ⟨_,_,rfl,?_,H⟩
 clear H
 have hgx:=hg.at' ha64 hx
 have hs:statS NS path={ kind:=x.kind,size:=if x.kind=1 then x.ents.length else x.data.length,links:=x.links }:=by
  unfold statS; rw [if_neg (by simpa using h0),hx]
 rw [hs]
 have hel:=ents_le wf hB hx
 have hdl':=(wf.at' hx).1.data
 generalize (findS NS path).1=a at *
 refine ⟨.pointer (some ⟨b,a * 5,none⟩),ixN rfl ha64,.pointer (some ⟨b,a * 5 + 1,none⟩),fldN (by omega),_,rtKind ha64,?_⟩
 refine ⟨.pointer (some ⟨b,a * 5,none⟩),ixN rfl ha64,(g a).nd.num,(g a).nd.kind,(g a).nd.links,(g a).da,(g a).nd.data.length,(g a).dc,(g a).ea,(g a).nd.ents.length,(g a).ec,rtLdN ha64,fun _ => ?_⟩
 rw [hgx]
 refine ⟨inI64' _ (by omega) (by omega),fun _ => .of fun R h H => ?_⟩
 refine ⟨{ kind:=x.kind,size:=(x.data.length:Int) + (x.ents.length:Int),links:=x.links },none,0,none,0,g,⟨rfl,fun _ => ?_,hg⟩,AnsR.nil rfl rfl H⟩
 rcases kinds wf hx with ⟨h1,h2,_⟩ | ⟨h1,h2,h3⟩
 ·rw [if_pos h1,h2]; simp
 ·rw [if_neg h3,h2]; simp
set_option maxHeartbeats 4000000 in
theorem rdo11_ok (I:DoI B g NS path other S da dl d):DoT b g NS 11 path other off n S da dl dc d:=by
 obtain ⟨hB,wf,hg,hp,ho,hd,hdl,hd9,hda⟩:=I
 refine Tri.fact (φ := ∀ i,i < 64 → (g i).nd.ents.length ≠ 0 → (g i).ea.isSome=true) (fun R h H=>RT.ea (HP.sep_left H)) fun hge => ?_
 refine tri_of_tree (ρ:=[.n b,.p (RT b g),.i 11,.s path,.s other,.i off,.i n,.a da,.n dl,.n dc,.p S]) mixed Tryz.func77 tree_rdo11 ?_
 unfold t_rdo11
 simp only [T.den,E.prop,E.den,RX.look,F1.app,F2.app,Uni.int_i,Uni.nat_n,Uni.bool_c,Uni.str_s,Uni.adr_a,Uni.val_v,Uni.hp_p,hden,cden,V.den,W.den,A.den,BR.den,SA.den,FV.den,capV,exs,exP,allP,Cur.app,List.map_cons,List.map_nil,List.cons_append,List.nil_append,List.drop_succ_cons,List.drop_zero,List.length_cons,List.length_nil,Nat.zero_add,Nat.reduceAdd,Int.neg_neg,Bool.not_not,List.append_nil,Nat.add_zero,List.getElem?_cons_zero,List.getElem?_cons_succ,Decidable.not_not,semW_eq,semW_load,semW_append,ne_eq,Nat.reduceEqDiff,not_false_eq_true,semW_ix,semW_fld]
 rw [dS11]
 intro _ _ _
 refine (rUp_ok path (by omega)).weak (fun _ _ _=>trivial) ?_
 rintro v R h rfl
 refine ⟨_,_,_,rfl,?_,trivial⟩
 refine (fun hX=>⟨fun _=>hX,fun _=>hX⟩) ?_
 refine (rFind_ok hB wf hg path (by omega)).weak (fun _ _ h=>h) ?_
 rintro v R h ⟨rfl,H⟩
 refine ⟨_,_,rfl,⟨fun h0 => ?_,fun h0 => ?_⟩,H⟩
 ·have hs:listS NS path={ err:=(findS NS path).2 }:=by unfold listS; rw [if_pos h0]
  rw [hs]
  exact DoR.code hg rfl
 clear H
 replace h0:(findS NS path).2=0:=by simpa using h0
 obtain ⟨x,hx,ha64⟩:=find_at wf h0
 refine (rFind_ok hB wf hg _ (par_len path)).weak (fun _ _ h=>h) ?_
 rintro v R h ⟨rfl,H⟩
 refine ⟨_,_,rfl,?_,H⟩
 clear H
 have hgx:=hg.at' ha64 hx
 have hs:listS NS path=if x.kind ≠ 1 then { err:=23 } else { names:=x.ents.map (·.1) }:=by
  unfold listS; rw [if_neg (by simpa using h0),hx]
 rw [hs]
 have hel:=ents_le wf hB hx
 have hgea:=hge _ ha64
 generalize (findS NS path).1=a at *
 refine ⟨.pointer (some ⟨b,a * 5,none⟩),ixN rfl ha64,.pointer (some ⟨b,a * 5 + 1,none⟩),fldN (by omega),_,rtKind ha64,?_⟩
 rw [hgx]
 refine ⟨fun hk => ?_,fun hk => ?_⟩
 ·rw [if_pos hk]; exact DoR.code hg rfl
 rw [if_neg (by simpa using hk)]
 refine ⟨fun i e k s l na nn nc NP a1 n1 c1 P => ∃ j:Nat,i=j ∧ j ≤ x.ents.length ∧ e=0 ∧ k=0 ∧ s=0 ∧ l=0 ∧ n1=((x.ents.map (·.1)).take j).length ∧ na=none ∧ nn=0 ∧ nc=0 ∧ HP.ent P (OwS a1 n1 c1 ((x.ents.map (·.1)).take j)),fun i _ _ _ _ _ _ _ _ _ _ _ _=>x.ents.length - i.toNat,
  ⟨0,rfl,Nat.zero_le _,rfl,rfl,rfl,rfl,by simp,rfl,rfl,rfl,.of fun R h H=>(by show (OwS none 0 0 ((x.ents.map (·.1)).take 0)).p R h; rw [List.take_zero]; exact OwC.nil _ _ R h)⟩,?_⟩
 rintro _ _ _ _ _ _ _ _ NP a1 _ c1 P ⟨j,rfl,hj,rfl,rfl,rfl,rfl,rfl,rfl,rfl,rfl,hP⟩
 refine ⟨.pointer (some ⟨b,a * 5,none⟩),ixN rfl ha64,.pointer (some ⟨b,a * 5 + 4,none⟩),fldN (by omega),(g a).ea,(g a).nd.ents.length,(g a).ec,rtEnts ha64,?_⟩
 rw [hgx]
 refine ⟨fun hlt => ?_,fun hge' => ?_⟩
 ·obtain ⟨e,he⟩:=getN (l:=x.ents) (k:=j) (by omega)
  have he':(g a).nd.ents[j]? = some e:=by rw [hgx]; exact he
  have ht:(x.ents.map (·.1)).take (j + 1)=(x.ents.map (·.1)).take j ++ [e.1]:=by
   rw [List.take_add_one,List.getElem?_map,he]; rfl
  have hjl:((x.ents.map (·.1)).take j).length ≤ 100000:=by rw [List.length_take,List.length_map]; omega
  refine ⟨fun a2 n2 c2 P2=>n2=((x.ents.map (·.1)).take (j + 1)).length ∧ HP.ent P2 (OwS a2 n2 c2 ((x.ents.map (·.1)).take (j + 1))),?_,fun a2 n2 c2 P2 hI => ?_⟩
  ·refine ⟨.pointer (some ⟨b,a * 5,none⟩),ixN rfl ha64,.pointer (some ⟨b,a * 5 + 4,none⟩),fldN (by omega),(g a).ea,(g a).nd.ents.length,(g a).ec,rtEnts ha64,by omega,fun _=>⟨by rw [hgx]; omega,fun _=>⟨hgea (by rw [hgx]; omega),fun _=>⟨e.1,rtEnt1 ha64 he' undStr (by kernel_rfl) (by kernel_rfl) rfl,fun q => ?_⟩⟩⟩⟩
   refine appS1 a1 _ c1 _ q e.1 (by omega) hP fun a' c' R h H => ?_
   rw [← ht] at H
   have hI2:((x.ents.map (·.1)).take j).length + 1=((x.ents.map (·.1)).take (j + 1)).length ∧ HP.ent (OwS a' (((x.ents.map (·.1)).take j).length + 1) c' ((x.ents.map (·.1)).take (j + 1))) (OwS a' (((x.ents.map (·.1)).take j).length + 1) c' ((x.ents.map (·.1)).take (j + 1))):=⟨by rw [ht]; simp,.of fun _ _ h=>h⟩
   exact ⟨a',_,c',OwS a' (((x.ents.map (·.1)).take j).length + 1) c' ((x.ents.map (·.1)).take (j + 1)),rfl,hI2,H⟩
  ·obtain ⟨rfl,hP2⟩:=hI
   exact ⟨inI64' _ (by omega) (by omega),fun _=>⟨⟨j + 1,by omega,by omega,rfl,rfl,rfl,rfl,rfl,rfl,rfl,rfl,hP2⟩,by dsimp only; omega⟩⟩
 ·have hjj:(x.ents.map (·.1)).take j=x.ents.map (·.1):=List.take_of_length_le (by rw [List.length_map]; omega)
  rw [hjj] at hP ⊢
  refine (HP.ent2 (HP.ent.refl _) (HP.ent2 (HP.ent.refl _) (HP.ent2 (HP.ent.refl _) hP))).trans (.of fun R h H => ?_)
  refine ⟨{ names:=x.ents.map (·.1) },none,0,a1,c1,g,⟨rfl,fun _=>rfl,hg⟩,?_⟩
  exact HP.sep_comm (HP.sep_mono (HP.sep_tt (put3 H)) (fun _ h=>h) fun _ _=>OwC.nil _ _ _ _)
end Go.Proofs.YtdieogcemmnaaaaGreatDoor

namespace Go.Proofs.YtdieogcemmnaaaaGreatDoor
open Go.Proofs.YtdieogcemmnaaaaGreatDoor RX
set_option maxRecDepth 100000
def linksOf (T:List Nd):Int:=(T.map fun n=>n.links).sum
end Go.Proofs.YtdieogcemmnaaaaGreatDoor

namespace Go.Proofs.YtdieogcemmnaaaaGreatDoor
set_option linter.unusedSimpArgs false
set_option linter.unusedVariables false
open Go.Proofs.YtdieogcemmnaaaaGreatDoor RX
set_option maxRecDepth 100000
end Go.Proofs.YtdieogcemmnaaaaGreatDoor

namespace Go.Proofs.YtdieogcemmnaaaaGreatDoor.RX
set_option maxRecDepth 100000
-- tideline/tidelinelaw04.TreeRenames: ρ:=[.a callsa,.n callsl,.n callsc,.p callsP,.s from,.s to]
end Go.Proofs.YtdieogcemmnaaaaGreatDoor.RX

namespace Go.Proofs.YtdieogcemmnaaaaGreatDoor
set_option linter.unusedSimpArgs false
set_option linter.unusedVariables false
open Go.Proofs.YtdieogcemmnaaaaGreatDoor RX
set_option maxRecDepth 100000
theorem statS_len {T:List Nd} {p:Nm}:(statS T p).data=[] ∧ (statS T p).names=[]:=by
 unfold statS
 split
 ·exact ⟨rfl,rfl⟩
 ·split <;> exact ⟨rfl,rfl⟩
end Go.Proofs.YtdieogcemmnaaaaGreatDoor

namespace Go.Proofs.YtdieogcemmnaaaaGreatDoor
open Go.Proofs.YtdieogcemmnaaaaGreatDoor RX
set_option maxRecDepth 100000
set_option maxHeartbeats 2000000 in
theorem doS_err {T:List Nd} {kind:Int} {p o:Nm} {off n:Int} {d:List UInt8} (h:(doS T kind p o off n d).2.err ≠ 0):(doS T kind p o off n d).1=T ∧ (doS T kind p o off n d).2={ err:=(doS T kind p o off n d).2.err }:=by
 have mk:(makeS T kind p).2 ≠ 0 → (makeS T kind p).1=T:=fun h=>by
  unfold makeS at h ⊢
  split
  ·rfl
  split
  ·rfl
  ·rename_i h1 h2; rw [if_neg h1,if_neg h2] at h; exact absurd rfl h
 have rm:(rmdirS T p).2 ≠ 0 → (rmdirS T p).1=T:=fun h=>by
  unfold rmdirS at h ⊢
  split
  ·rfl
  ·rename_i h1
   rw [if_neg h1] at h
   split
   ·rfl
   ·rename_i x hx
    rw [hx] at h
    simp only at h
    split
    ·rfl
    split
    ·rfl
    ·rename_i h2 h3; rw [if_neg h2,if_neg h3] at h; exact absurd rfl h
 have ul:(unlinkS T p).2 ≠ 0 → (unlinkS T p).1=T:=fun h=>by
  unfold unlinkS at h ⊢
  split
  ·rfl
  ·rename_i h1
   rw [if_neg h1] at h
   split
   ·rfl
   ·rename_i x hx
    rw [hx] at h
    simp only at h
    split
    ·rfl
    ·rename_i h2
     rw [if_neg h2] at h
     split at h <;> exact absurd rfl h
 have lnk:(linkS T p o).2 ≠ 0 → (linkS T p o).1=T:=fun h=>by
  unfold linkS at h ⊢
  split
  ·rfl
  split
  ·rfl
  ·rename_i h1 h2; rw [if_neg h1,if_neg h2] at h; exact absurd rfl h
 have wr:(writeS T p off d).2 ≠ 0 → (writeS T p off d).1=T:=fun h=>by
  unfold writeS at h ⊢
  split
  ·rfl
  split
  ·rfl
  split
  ·rfl
  split
  ·rfl
  ·rename_i h1 h2 h3 h4; rw [if_neg h1,if_neg h2,if_neg h3,if_neg h4] at h; exact absurd rfl h
 have ct:(cutS T p n).2 ≠ 0 → (cutS T p n).1=T:=fun h=>by
  unfold cutS at h ⊢
  split
  ·rfl
  split
  ·rfl
  split
  ·rfl
  ·rename_i h1 h2 h3; rw [if_neg h1,if_neg h2,if_neg h3] at h; exact absurd rfl h
 have st:(statS T p).err ≠ 0 → statS T p={ err:=(statS T p).err }:=fun h=>by
  unfold statS at h ⊢
  split
  ·rfl
  ·rename_i h1
   rw [if_neg h1] at h
   split at h <;> exact absurd rfl h
 have ls:(listS T p).err ≠ 0 → listS T p={ err:=(listS T p).err }:=fun h=>by
  unfold listS at h ⊢
  split
  ·rfl
  ·rename_i h1
   rw [if_neg h1] at h
   split
   ·rfl
   ·rename_i x hx
    rw [hx] at h
    simp only at h
    split
    ·rfl
    ·rename_i h2; rw [if_neg h2] at h; exact absurd rfl h
 have rd:(readS' T p off n).err ≠ 0 → readS' T p off n={ err:=(readS' T p off n).err }:=fun h=>by
  have:(readS T p off n).2=[]:=by
   have h':(readS T p off n).1 ≠ 0:=h
   unfold readS at h' ⊢
   split
   ·rfl
   ·rename_i h1
    rw [if_neg h1] at h'
    split
    ·rfl
    ·rename_i h2
     rw [if_neg h2] at h'
     split at h' <;> exact absurd rfl h'
  show ({ err:=(readS T p off n).1,data:=(readS T p off n).2 }:AnsM)={ err:=(readS T p off n).1 }
  rw [this]
 have key : ∀ r,doS T kind p o off n d=r → r.2.err ≠ 0 → r.1=T ∧ r.2={ err:=r.2.err }:=fun r hr h=>by
  unfold doS at hr
  split at hr
  ·subst hr; exact ⟨mk h,rfl⟩
  split at hr
  ·subst hr; exact ⟨rm h,rfl⟩
  split at hr
  ·subst hr; exact ⟨ul h,rfl⟩
  split at hr
  ·subst hr; exact ⟨lnk h,rfl⟩
  split at hr
  ·subst hr; exact ⟨rename_err (.inl h),rfl⟩
  split at hr
  ·subst hr; exact ⟨wr h,rfl⟩
  split at hr
  ·subst hr; exact ⟨rfl,rd h⟩
  split at hr
  ·subst hr; exact ⟨ct h,rfl⟩
  split at hr
  ·subst hr; exact ⟨rfl,st h⟩
  split at hr
  ·subst hr; exact ⟨rfl,ls h⟩
  split at hr
  ·subst hr; exact absurd rfl h
  ·subst hr; exact ⟨rfl,rfl⟩
 exact key _ rfl h
end Go.Proofs.YtdieogcemmnaaaaGreatDoor

namespace Go.Proofs.YtdieogcemmnaaaaGreatDoor.RX
set_option maxRecDepth 100000
-- tideline/tidelinelaw04.TreeCalls: ρ:=[.a callsa,.n callsl,.n callsc,.p callsP]
end Go.Proofs.YtdieogcemmnaaaaGreatDoor.RX

namespace Go.Proofs.YtdieogcemmnaaaaGreatDoor
set_option linter.unusedSimpArgs false
set_option linter.unusedVariables false
open Go.Proofs.YtdieogcemmnaaaaGreatDoor RX
set_option maxRecDepth 100000
theorem rdo_ok {B b:Nat} {g:Nat → NodeE} {NS:List Nd} {path other:Nm} {off n:Int} {S:HP} {da:Option Addr} {dl dc:Nat} {d:List UInt8} (kind:Int) (I:DoI B g NS path other S da dl d):DoT b g NS kind path other off n S da dl dc d:=by
 by_cases h0:kind < 1 ∨ 12 < kind
 ·exact rdo0_ok kind h0 I
 by_cases h:kind=1
 ·subst h; exact rdo1_ok I
 by_cases h:kind=2
 ·subst h; exact rdo2_ok I
 by_cases h:kind=3
 ·subst h; exact rdo3_ok I
 by_cases h:kind=4
 ·subst h; exact rdo4_ok I
 by_cases h:kind=5
 ·subst h; exact rdo5_ok I
 by_cases h:kind=6
 ·subst h; exact rdo6_ok I
 by_cases h:kind=7
 ·subst h; exact rdo7_ok I
 by_cases h:kind=8
 ·subst h; exact rdo8_ok I
 by_cases h:kind=9
 ·subst h; exact rdo9_ok I
 by_cases h:kind=10
 ·subst h; exact rdo10_ok I
 by_cases h:kind=11
 ·subst h; exact rdo11_ok I
 obtain rfl:kind=12:=by omega
 exact rdo12_ok I
theorem put4 {A S O N:HP} {R h:PH} (H:(HP.sep A (HP.sep S (HP.sep O N))).p R h):(HP.sep O (HP.sep N (HP.sep A S))).p R h :=
 HP.sep_assoc (HP.sep_comm (HP.sep_assoc' H))
set_option maxHeartbeats 1000000 in
theorem rDo_ok {B b:Nat} {g:Nat → NodeE} {NS:List Nd} {path other:Nm} {off n:Int} {S:HP} {da:Option Addr} {dl dc:Nat} {d:List UInt8} (kind:Int) (I:DoI B g NS path other S da dl d) :
  Tri Tryz.prog 23 #[.pointer (some ⟨b,0,none⟩),.agg #[.int .i64 kind,sE path,sE other,.int .i64 off,.int .i64 n,.slice da dl dc]] (HP.sep (RT b g) S)
   (fun v=>HP.ex fun da'=>HP.ex fun dc'=>HP.ex fun na'=>HP.ex fun nc'=>HP.ex fun g'=>HP.and (v=(doS NS kind path other off n d).2.at da' dc' na' nc' ∧ Rp g' (doS NS kind path other off n d).1)
    (HP.sep (OwB da' (doS NS kind path other off n d).2.data.length dc' (doS NS kind path other off n d).2.data) (HP.sep (OwS na' (doS NS kind path other off n d).2.names.length nc' (doS NS kind path other off n d).2.names) (HP.sep (RT b g') S)))):=by
 refine tri_of_tree (ρ:=[.n b,.p (RT b g),.i kind,.s path,.s other,.i off,.i n,.a da,.n dl,.n dc,.p S]) mixed Tryz.func23 tree_rDo ?_
 unfold t_rDo
 simp only [T.den,E.prop,E.den,RX.look,F1.app,F2.app,Uni.int_i,Uni.nat_n,Uni.bool_c,Uni.str_s,Uni.adr_a,Uni.val_v,Uni.hp_p,hden,cden,V.den,W.den,A.den,BR.den,SA.den,FV.den,capV,exs,exP,allP,Cur.app,List.map_cons,List.map_nil,List.cons_append,List.nil_append,List.drop_succ_cons,List.drop_zero,List.length_cons,List.length_nil,Nat.zero_add,Nat.reduceAdd,Int.neg_neg,Bool.not_not,List.append_nil,Nat.add_zero,List.getElem?_cons_zero,List.getElem?_cons_succ,Decidable.not_not,semW_eq,ne_eq,Nat.reduceEqDiff,not_false_eq_true]
 intro _ _
 have er:(doS NS kind path other off n d).2.err ≠ 0 → (doS NS kind path other off n d).2={ err:=(doS NS kind path other off n d).2.err }:=fun h=>(doS_err h).2
 refine (rdo_ok (b:=b) (dc:=dc) kind I).weak (fun _ _ h=>h) ?_
 rintro v R h ⟨r0,da',dc',na',nc',g',⟨rfl,h1,h2⟩,H⟩
 generalize (doS NS kind path other off n d).2=r at *
 refine ⟨r0.err,r0.kind,r0.size,r0.links,da',r0.data.length,dc',_,na',r0.names.length,nc',_,r.err,_,rfl,?_,H⟩
 clear H
 intro _
 refine ⟨fun hne => .of fun R h H => ?_,fun he => .of fun R h H => ?_⟩
 ·have e:=er hne
  refine ⟨none,0,none,0,g',⟨?_,h2⟩,AnsR.nil (by rw [e]) (by rw [e]) H⟩
  rw [e]; rfl
 ·have e:=h1 he
  subst e
  exact ⟨da',dc',na',nc',g',⟨rfl,h2⟩,put4 H⟩
theorem great_x {L:List CallE} (h : ¬ greatB L=true) : ∀ x ∈ L,x.path.length ≤ 300 ∧ x.other.length ≤ 300 ∧ x.data.length ≤ 600:=fun x hx=>by
 have h':greatB L=false:=by simpa using h
 unfold greatB at h'
 rw [Bool.or_eq_false_iff,List.any_eq_false] at h'
 have:=h'.2 x hx
 simp at this
 omega
set_option maxHeartbeats 4000000 in
theorem doS_len {B:Nat} {T:List Nd} (wf:TWf B T) (hB:B ≤ 100000) {kind:Int} {p o:Nm} {off n:Int} {d:List UInt8}:(doS T kind p o off n d).2.data.length ≤ 1000000 ∧ (doS T kind p o off n d).2.names.length ≤ 1000000:=by
 have key : ∀ r,doS T kind p o off n d=r → r.2.data.length ≤ 1000000 ∧ r.2.names.length ≤ 1000000:=fun r hr=>by
  have rd:(readS T p off n).2.length ≤ 1000000:=by
   unfold readS
   split
   ·simp
   split
   ·simp
   split
   ·simp
   ·rename_i x hx
    have:=(wf.at' hx).1.data
    rw [List.length_take,List.length_drop]; omega
  have ls:(listS T p).data.length ≤ 1000000 ∧ (listS T p).names.length ≤ 1000000:=by
   unfold listS
   split
   ·simp
   split
   ·simp
   ·rename_i x hx
    have:=(wf.at' hx).1.efew
    split
    ·simp
    ·simp; omega
  unfold doS at hr
  split at hr
  ·subst hr; simp
  split at hr
  ·subst hr; simp
  split at hr
  ·subst hr; simp
  split at hr
  ·subst hr; simp
  split at hr
  ·subst hr; simp
  split at hr
  ·subst hr; simp
  split at hr
  ·subst hr; exact ⟨rd,by simp [readS']⟩
  split at hr
  ·subst hr; simp
  split at hr
  ·subst hr; rw [(statS_len (T:=T) (p:=p)).1,(statS_len (T:=T) (p:=p)).2]; simp
  split at hr
  ·subst hr; exact ls
  split at hr
  ·subst hr; simp
  ·subst hr; simp
 exact key _ rfl
end Go.Proofs.YtdieogcemmnaaaaGreatDoor

namespace Go.Proofs.YtdieogcemmnaaaaGreatDoor.RX
set_option maxRecDepth 100000
-- tideline/tidelineref11.SameInts: ρ:=[.a aa,.n al,.n ac,.p aP,.a ba,.n bl,.n bc,.p bP]
def t_sameInts11:T :=
(.br (.o1 .not (.o2 .eq (.o1 .ofNat (.v 1)) (.o1 .ofNat (.v 5))))
(.ret (.w (.a (.bool (.c false)))) [(.a 0,.prop 3),(.a 4,.prop 7)])
(.loop [.c,.i] [.e (.o1 .not (.o1 .not (.c false))),.e (.o1 .neg (.o1 .neg (.i 0)))]
(.br (.o2 .lt (.v 9) (.o1 .ofNat (.v 1)))
(.need (.o2 .le (.i 0) (.v 9))
(.need (.o1 .isSome (.v 0))
(.read (.load 3 (.tmp 19)) 3 [(19,.w (.a (.eptr 0 (.v 9) 1 0)))] [(.a 0,.prop 3)] [.i] (.w (.a (.int .i64 (.v 10))))
(.need (.o2 .lt (.v 9) (.o1 .ofNat (.v 5)))
(.need (.o1 .isSome (.v 4))
(.read (.load 3 (.tmp 23)) 3 [(23,.w (.a (.eptr 4 (.v 9) 1 0)))] [(.a 4,.prop 7)] [.i] (.w (.a (.int .i64 (.v 11))))
(.br (.o1 .not (.o2 .eq (.v 10) (.v 11)))
(.ret (.w (.a (.bool (.c false)))) [(.a 0,.prop 3),(.a 4,.prop 7)])
(.need (.o1 (.inr .i64) (.o2 .add (.v 9) (.i 1)))
(.again 0 [.e (.o1 .not (.o1 .not (.v 8))),.e (.o1 .neg (.o1 .neg (.o2 .add (.v 9) (.i 1))))])))))))))
(.ret (.w (.a (.bool (.c true)))) [(.a 0,.prop 3),(.a 4,.prop 7)]))))
theorem tree_sameInts11:tree Tryz.prog { absT:=[142,144],keep:=[16,47,48,24,20,49,46,39,50],turn:=[(23,[0])],rdf:=true } Tryz.f49 [.a (.sl (.v 0) (.v 1) (.v 2)),.a (.sl (.v 4) (.v 5) (.v 6))] [(.a 0,.prop 3),(.a 4,.prop 7)] 8=t_sameInts11:=by kernel_rfl
def t_speaks21:T :=
(.new
(.call 47 [.a (.sl .nil (.n 0) (.n 0)),.a (.sl (.b (.v 0) 0) (.n 1) (.n 1))] [(.b (.v 0),.cells [.int .i64 (.i 0),.int .i64 (.i 0),.int .i64 (.i 0),.int .i64 (.i 0),.str (.s []),.str (.s []),.int .i64 (.i 0),.int .i64 (.i 0),.sl .nil (.n 0) (.n 0),.int .i64 (.i 0),.int .i64 (.i 3),.int .i64 (.i 0),.int .i64 (.i 0),.int .i64 (.i 0),.int .i64 (.i 0),.sl .nil (.n 0) (.n 0),.sl .nil (.n 0) (.n 0)] 88)] [.a,.n,.n,.p] (.w (.a (.sl (.v 1) (.v 2) (.v 3)))) [(.a 1,.prop 4),(.b (.v 0),.cells [.int .i64 (.i 0),.int .i64 (.i 0),.int .i64 (.i 0),.int .i64 (.i 0),.str (.s []),.str (.s []),.int .i64 (.i 0),.int .i64 (.i 0),.sl .nil (.n 0) (.n 0),.int .i64 (.i 0),.int .i64 (.i 3),.int .i64 (.i 0),.int .i64 (.i 0),.int .i64 (.i 0),.int .i64 (.i 0),.sl .nil (.n 0) (.n 0),.sl .nil (.n 0) (.n 0)] 88)]
(.new
(.call 49 [.a (.sl (.v 1) (.v 2) (.v 3)),.a (.sl (.b (.v 5) 0) (.n 1) (.n 1))] [(.a 1,.prop 4),(.b (.v 5),.cells [.int .i64 (.i 3)] 3)] [.c] (.w (.a (.bool (.v 6)))) [(.a 1,.prop 4),(.b (.v 5),.cells [.int .i64 (.i 3)] 3)]
(.br (.v 6)
(.call 48 [.a (.sl .nil (.n 0) (.n 0))] [] [.a,.n,.n,.p] (.w (.a (.sl (.v 7) (.v 8) (.v 9)))) [(.a 7,.prop 10)]
(.ret (.w (.a (.bool (.o2 .eq (.o1 .ofNat (.v 8)) (.i 1))))) []))
(.ret (.w (.a (.bool (.c false)))) []))))))
theorem tree_speaks21:tree Tryz.prog { absT:=[142,144],keep:=[16,47,48,24,20,49,46,39,50],turn:=[(23,[0])],rdf:=true } Tryz.f45 [] [] 0=t_speaks21:=by kernel_rfl
def t_judgeRight:T :=
(.call 45 [] [] [.c] (.w (.a (.bool (.v 6)))) []
(.br (.o1 .not (.v 6))
(.ret (.w (.a (.bool (.c false)))) [(.a 0,.prop 3)])
(.call 16 [.a (.sl (.v 0) (.v 1) (.v 2))] [(.a 0,.prop 3)] [.c] (.w (.a (.bool (.v 7)))) [(.a 0,.prop 3)]
(.br (.v 7)
(.ret (.w (.a (.bool (.c true)))) [(.a 0,.prop 3)])
(.br (.o2 .lt (.i 40) (.o1 .ofNat (.v 1)))
(.ret (.w (.a (.bool (.c true)))) [(.a 0,.prop 3)])
(.call 22 [] [] [.n,.p] (.w (.a (.ptr (.v 8) 0))) [(.b (.v 8),.prop 9)]
(.new
(.new
(.loop [.c,.a,.n,.n,.a,.n,.n,.i,.p,.p,.p] [.e (.o1 .not (.o1 .not (.c false))),.a (.b (.v 10) 0),.e (.o2 .nadd (.n 0) (.n 0)),.e (.o2 .nadd (.n 0) (.n 0)),.a (.b (.v 11) 0),.e (.o2 .nadd (.n 0) (.n 0)),.e (.o2 .nadd (.n 0) (.n 0)),.e (.o1 .neg (.o1 .neg (.i 0))),.p [(.b (.v 11),.cells [] 88)],.p [(.b (.v 10),.cells [] 68)],.p [(.b (.v 8),.prop 9)]]
(.br (.o2 .lt (.v 19) (.o1 .ofNat (.v 1)))
(.need (.o2 .le (.i 0) (.v 19))
(.need (.o1 .isSome (.v 0))
(.read (.load 34 (.tmp 33)) 34 [(33,.w (.a (.eptr 0 (.v 19) 6 0)))] [(.a 0,.prop 3)] [.i,.s,.s,.i,.i,.a,.n,.n] (.w (.agg [.int .i64 (.v 23),.str (.v 24),.str (.v 25),.int .i64 (.v 26),.int .i64 (.v 27),.sl (.v 28) (.v 29) (.v 30)]))
(.new
(.br (.o2 .lt (.i 300) (.o1 .ofNat (.o1 .size (.v 24))))
(.ret (.w (.a (.bool (.c true)))) [(.a 0,.prop 3)])
(.br (.o2 .lt (.i 300) (.o1 .ofNat (.o1 .size (.v 25))))
(.ret (.w (.a (.bool (.c true)))) [(.a 0,.prop 3)])
(.br (.o2 .lt (.i 600) (.o1 .ofNat (.v 29)))
(.ret (.w (.a (.bool (.c true)))) [(.a 0,.prop 3)])
(.br (.o2 .lt (.v 23) (.i 0))
(.ret (.w (.a (.bool (.c true)))) [(.a 0,.prop 3)])
(.br (.o2 .lt (.i 255) (.v 23))
(.ret (.w (.a (.bool (.c true)))) [(.a 0,.prop 3)])
(.new
(.join [.a,.n,.n,.p]
      (.all
(.call 46 [.agg [.int .i64 (.v 23),.str (.v 24),.str (.v 25),.int .i64 (.v 26),.int .i64 (.v 27),.sl (.v 28) (.v 29) (.v 30)]] [(.a 0,.prop 3)] [.a,.n,.n,.p] (.w (.a (.sl (.v 33) (.v 34) (.v 35)))) [(.a 33,.prop 36),(.a 0,.prop 3)]
(.call 39 [.agg [.int .i64 (.i 1),.int .i64 (.i 0),.int .i64 (.i 0),.int .i64 (.v 19),.int .i64 (.i 0),.int .i64 (.i (-1)),.sl (.v 33) (.v 34) (.v 35)]] [(.a 33,.prop 36)] [.a,.n,.n,.p] (.w (.a (.sl (.v 37) (.v 38) (.v 39)))) [(.a 37,.prop 40),(.a 33,.prop 36)]
(.new
(.op (.call ⟨.builtin .append,#[.tmp 63,.tmp 71],#[79,79]⟩) 79 [(63,.w (.a (.sl (.v 13) (.v 14) (.v 15)))),(71,.w (.a (.sl (.b (.v 41) 0) (.n 2) (.n 2))))] [(.a 13,.prop 21),(.b (.v 41),.cells [.int .i64 (.i 2),.sl .nil (.n 0) (.n 0),.int .i64 (.i 1),.sl (.v 37) (.v 38) (.v 39)] 68),(.a 37,.prop 40)] [.a,.n,.n,.p] (.w (.a (.sl (.v 42) (.v 43) (.v 44)))) [(.a 42,.prop 45),(.b (.v 41),.cells [.int .i64 (.i 2),.sl .nil (.n 0) (.n 0),.int .i64 (.i 1),.sl (.v 37) (.v 38) (.v 39)] 68),(.a 37,.prop 40)]
(.again 0 [.a (.v 42),.e (.o2 .nadd (.v 43) (.n 0)),.e (.o2 .nadd (.v 44) (.n 0)),.p [(.a 42,.prop 45)]])))))
(.call 46 [.agg [.int .i64 (.v 23),.str (.v 24),.str (.v 25),.int .i64 (.v 26),.int .i64 (.v 27),.sl (.v 28) (.v 29) (.v 30)]] [(.a 0,.prop 3)] [.a,.n,.n,.p] (.w (.a (.sl (.v 33) (.v 34) (.v 35)))) [(.a 33,.prop 36),(.a 0,.prop 3)]
      (.all
(.call 39 [.agg [.int .i64 (.i 1),.int .i64 (.i 0),.int .i64 (.i 0),.int .i64 (.v 19),.int .i64 (.i 0),.int .i64 (.i (-1)),.sl (.v 33) (.v 34) (.v 35)]] [(.a 33,.prop 36)] [.a,.n,.n,.p] (.w (.a (.sl (.v 37) (.v 38) (.v 39)))) [(.a 37,.prop 40),(.a 33,.prop 36)]
(.new
(.op (.call ⟨.builtin .append,#[.tmp 63,.tmp 71],#[79,79]⟩) 79 [(63,.w (.a (.sl (.v 13) (.v 14) (.v 15)))),(71,.w (.a (.sl (.b (.v 41) 0) (.n 2) (.n 2))))] [(.a 13,.prop 21),(.b (.v 41),.cells [.int .i64 (.i 2),.sl .nil (.n 0) (.n 0),.int .i64 (.i 1),.sl (.v 37) (.v 38) (.v 39)] 68),(.a 37,.prop 40)] [.a,.n,.n,.p] (.w (.a (.sl (.v 42) (.v 43) (.v 44)))) [(.a 42,.prop 45),(.b (.v 41),.cells [.int .i64 (.i 2),.sl .nil (.n 0) (.n 0),.int .i64 (.i 1),.sl (.v 37) (.v 38) (.v 39)] 68),(.a 37,.prop 40)]
(.again 0 [.a (.v 42),.e (.o2 .nadd (.v 43) (.n 0)),.e (.o2 .nadd (.v 44) (.n 0)),.p [(.a 42,.prop 45)]]))))
       (.all
(.call 39 [.agg [.int .i64 (.i 1),.int .i64 (.i 0),.int .i64 (.i 0),.int .i64 (.v 19),.int .i64 (.i 0),.int .i64 (.i (-1)),.sl (.v 33) (.v 34) (.v 35)]] [(.a 33,.prop 36)] [.a,.n,.n,.p] (.w (.a (.sl (.v 37) (.v 38) (.v 39)))) [(.a 37,.prop 40),(.a 33,.prop 36)]
(.new
(.op (.call ⟨.builtin .append,#[.tmp 63,.tmp 71],#[79,79]⟩) 79 [(63,.w (.a (.sl (.v 13) (.v 14) (.v 15)))),(71,.w (.a (.sl (.b (.v 41) 0) (.n 2) (.n 2))))] [(.a 13,.prop 21),(.b (.v 41),.cells [.int .i64 (.i 2),.sl .nil (.n 0) (.n 0),.int .i64 (.i 1),.sl (.v 37) (.v 38) (.v 39)] 68),(.a 37,.prop 40)] [.a,.n,.n,.p] (.w (.a (.sl (.v 42) (.v 43) (.v 44)))) [(.a 42,.prop 45),(.b (.v 41),.cells [.int .i64 (.i 2),.sl .nil (.n 0) (.n 0),.int .i64 (.i 1),.sl (.v 37) (.v 38) (.v 39)] 68),(.a 37,.prop 40)]
(.again 0 [.a (.v 42),.e (.o2 .nadd (.v 43) (.n 0)),.e (.o2 .nadd (.v 44) (.n 0)),.p [(.a 42,.prop 45)]]))))
(.call 39 [.agg [.int .i64 (.i 1),.int .i64 (.i 0),.int .i64 (.i 0),.int .i64 (.v 19),.int .i64 (.i 0),.int .i64 (.i (-1)),.sl (.v 33) (.v 34) (.v 35)]] [(.a 33,.prop 36)] [.a,.n,.n,.p] (.w (.a (.sl (.v 37) (.v 38) (.v 39)))) [(.a 37,.prop 40),(.a 33,.prop 36)]
       (.all
(.new
(.op (.call ⟨.builtin .append,#[.tmp 63,.tmp 71],#[79,79]⟩) 79 [(63,.w (.a (.sl (.v 13) (.v 14) (.v 15)))),(71,.w (.a (.sl (.b (.v 41) 0) (.n 2) (.n 2))))] [(.a 13,.prop 21),(.b (.v 41),.cells [.int .i64 (.i 2),.sl .nil (.n 0) (.n 0),.int .i64 (.i 1),.sl (.v 37) (.v 38) (.v 39)] 68),(.a 37,.prop 40)] [.a,.n,.n,.p] (.w (.a (.sl (.v 42) (.v 43) (.v 44)))) [(.a 42,.prop 45),(.b (.v 41),.cells [.int .i64 (.i 2),.sl .nil (.n 0) (.n 0),.int .i64 (.i 1),.sl (.v 37) (.v 38) (.v 39)] 68),(.a 37,.prop 40)]
(.again 0 [.a (.v 42),.e (.o2 .nadd (.v 43) (.n 0)),.e (.o2 .nadd (.v 44) (.n 0)),.p [(.a 42,.prop 45)]])))
(.new
(.op (.call ⟨.builtin .append,#[.tmp 63,.tmp 71],#[79,79]⟩) 79 [(63,.w (.a (.sl (.v 13) (.v 14) (.v 15)))),(71,.w (.a (.sl (.b (.v 41) 0) (.n 2) (.n 2))))] [(.a 13,.prop 21),(.b (.v 41),.cells [.int .i64 (.i 2),.sl .nil (.n 0) (.n 0),.int .i64 (.i 1),.sl (.v 37) (.v 38) (.v 39)] 68),(.a 37,.prop 40)] [.a,.n,.n,.p] (.w (.a (.sl (.v 42) (.v 43) (.v 44)))) [(.a 42,.prop 45),(.b (.v 41),.cells [.int .i64 (.i 2),.sl .nil (.n 0) (.n 0),.int .i64 (.i 1),.sl (.v 37) (.v 38) (.v 39)] 68),(.a 37,.prop 40)]
(.again 0 [.a (.v 42),.e (.o2 .nadd (.v 43) (.n 0)),.e (.o2 .nadd (.v 44) (.n 0)),.p [(.a 42,.prop 45)]])))))))))
(.need (.o1 (.inr .i64) (.o2 .mul (.i 2) (.v 19)))
(.need (.o1 (.inr .i64) (.o2 .add (.o2 .mul (.i 2) (.v 19)) (.i 1)))
(.call 23 [.a (.ptr (.v 8) 0),.agg [.int .i64 (.v 23),.str (.v 24),.str (.v 25),.int .i64 (.v 26),.int .i64 (.v 27),.sl (.v 28) (.v 29) (.v 30)]] [(.b (.v 8),.prop 22),(.a 0,.prop 3)] [.i,.i,.i,.i,.a,.n,.n,.p,.a,.n,.n,.p,.p] (.w (.agg [.int .i64 (.v 37),.int .i64 (.v 38),.int .i64 (.v 39),.int .i64 (.v 40),.sl (.v 41) (.v 42) (.v 43),.sl (.v 45) (.v 46) (.v 47)])) [(.a 41,.prop 44),(.a 45,.prop 48),(.b (.v 8),.prop 49),(.a 0,.prop 3)]
(.new
(.op (.call ⟨.builtin .append,#[.tmp 73,.tmp 85],#[85,85]⟩) 85 [(73,.w (.a (.sl (.v 16) (.v 17) (.v 18)))),(85,.w (.a (.sl (.b (.v 50) 0) (.n 1) (.n 1))))] [(.a 16,.prop 20),(.b (.v 50),.cells [.int .i64 (.i 0),.int .i64 (.i 0),.int .i64 (.v 19),.int .i64 (.v 23),.str (.v 24),.str (.v 25),.int .i64 (.v 26),.int .i64 (.v 27),.sl (.v 28) (.v 29) (.v 30),.int .i64 (.o2 .mul (.i 2) (.v 19)),.int .i64 (.o2 .add (.o2 .mul (.i 2) (.v 19)) (.i 1)),.int .i64 (.v 37),.int .i64 (.v 38),.int .i64 (.v 39),.int .i64 (.v 40),.sl (.v 41) (.v 42) (.v 43),.sl (.v 45) (.v 46) (.v 47)] 88),(.a 0,.prop 3),(.a 41,.prop 44),(.a 45,.prop 48)] [.a,.n,.n,.p] (.w (.a (.sl (.v 51) (.v 52) (.v 53)))) [(.a 51,.prop 54),(.b (.v 50),.cells [.int .i64 (.i 0),.int .i64 (.i 0),.int .i64 (.v 19),.int .i64 (.v 23),.str (.v 24),.str (.v 25),.int .i64 (.v 26),.int .i64 (.v 27),.sl (.v 28) (.v 29) (.v 30),.int .i64 (.o2 .mul (.i 2) (.v 19)),.int .i64 (.o2 .add (.o2 .mul (.i 2) (.v 19)) (.i 1)),.int .i64 (.v 37),.int .i64 (.v 38),.int .i64 (.v 39),.int .i64 (.v 40),.sl (.v 41) (.v 42) (.v 43),.sl (.v 45) (.v 46) (.v 47)] 88),(.a 0,.prop 3),(.a 41,.prop 44),(.a 45,.prop 48)]
(.need (.o1 (.inr .i64) (.o2 .add (.v 19) (.i 1)))
(.again 0 [.e (.o1 .not (.o1 .not (.v 12))),.a (.v 33),.e (.o2 .nadd (.v 34) (.n 0)),.e (.o2 .nadd (.v 35) (.n 0)),.a (.v 51),.e (.o2 .nadd (.v 52) (.n 0)),.e (.o2 .nadd (.v 53) (.n 0)),.e (.o1 .neg (.o1 .neg (.o2 .add (.v 19) (.i 1)))),.p [(.a 51,.prop 54)],.p [(.a 33,.prop 36)],.p [(.b (.v 8),.prop 49)]]))))))))))))))))))
(.call 47 [.a (.sl (.v 13) (.v 14) (.v 15)),.a (.sl (.v 16) (.v 17) (.v 18))] [(.a 13,.prop 21),(.a 16,.prop 20)] [.a,.n,.n,.p] (.w (.a (.sl (.v 23) (.v 24) (.v 25)))) [(.a 23,.prop 26),(.a 13,.prop 21),(.a 16,.prop 20)]
(.br (.o1 .not (.o2 .eq (.o1 .ofNat (.v 24)) (.i 0)))
(.ret (.w (.a (.bool (.c false)))) [(.a 0,.prop 3)])
(.call 48 [.a (.sl (.v 13) (.v 14) (.v 15))] [(.a 13,.prop 21)] [.a,.n,.n,.p] (.w (.a (.sl (.v 27) (.v 28) (.v 29)))) [(.a 27,.prop 30),(.a 13,.prop 21)]
(.call 24 [.a (.ptr (.v 8) 0)] [(.b (.v 8),.prop 22)] [.a,.n,.n,.p] (.w (.a (.sl (.v 31) (.v 32) (.v 33)))) [(.a 31,.prop 34),(.b (.v 8),.prop 22)]
(.call 20 [.a (.sl (.v 27) (.v 28) (.v 29)),.a (.sl (.v 31) (.v 32) (.v 33))] [(.a 27,.prop 30),(.a 31,.prop 34)] [.c] (.w (.a (.bool (.v 35)))) [(.a 27,.prop 30),(.a 31,.prop 34)]
(.br (.o1 .not (.v 35))
(.ret (.w (.a (.bool (.c false)))) [(.a 0,.prop 3)])
(.br (.o2 .lt (.o1 .ofNat (.v 1)) (.i 2))
(.ret (.w (.a (.bool (.c true)))) [(.a 0,.prop 3)])
(.need (.o1 .not (.o2 .eq (.o1 .ofNat (.v 1)) (.i 0)))
(.br (.o2 .eq (.o2 .rem (.o2 (.bit .and .i64) (.v 4) (.i 65535)) (.o1 .ofNat (.v 1))) (.o2 .rem (.o2 (.bit .and .i64) (.v 5) (.i 65535)) (.o1 .ofNat (.v 1))))
(.need (.o2 .le (.i 0) (.o2 .rem (.o2 (.bit .and .i64) (.v 4) (.i 65535)) (.o1 .ofNat (.v 1))))
(.need (.o2 .lt (.o2 .rem (.o2 (.bit .and .i64) (.v 4) (.i 65535)) (.o1 .ofNat (.v 1))) (.o1 .ofNat (.v 17)))
(.need (.o1 .isSome (.v 16))
(.read (.load 3 (.tmp 121)) 3 [(121,.w (.a (.eptr 16 (.o2 .rem (.o2 (.bit .and .i64) (.v 4) (.i 65535)) (.o1 .ofNat (.v 1))) 17 13)))] [(.a 16,.prop 20)] [.i] (.w (.a (.int .i64 (.v 36))))
(.need (.o1 (.inr .i64) (.o2 .add (.v 36) (.i 1)))
(.op (.store 3 (.tmp 126) (.tmp 123)) 0 [(126,.w (.a (.eptr 16 (.o2 .rem (.o2 (.bit .and .i64) (.v 4) (.i 65535)) (.o1 .ofNat (.v 1))) 17 13))),(123,.w (.a (.int .i64 (.o2 .add (.v 36) (.i 1)))))] [(.a 16,.prop 20)] [.p] (.tup []) [(.a 16,.prop 37)]
(.call 47 [.a (.sl (.v 13) (.v 14) (.v 15)),.a (.sl (.v 16) (.v 17) (.v 18))] [(.a 13,.prop 21),(.a 16,.prop 37)] [.a,.n,.n,.p] (.w (.a (.sl (.v 38) (.v 39) (.v 40)))) [(.a 38,.prop 41),(.a 13,.prop 21),(.a 16,.prop 37)]
(.new
(.call 49 [.a (.sl (.v 38) (.v 39) (.v 40)),.a (.sl (.b (.v 42) 0) (.n 1) (.n 1))] [(.a 38,.prop 41),(.b (.v 42),.cells [.int .i64 (.i 4)] 3)] [.c] (.w (.a (.bool (.v 43)))) [(.a 38,.prop 41),(.b (.v 42),.cells [.int .i64 (.i 4)] 3)]
(.ret (.w (.a (.bool (.v 43)))) [(.a 0,.prop 3)]))))))))))
(.need (.o1 (.inr .i64) (.o2 .mul (.i 2) (.o2 .rem (.o2 (.bit .and .i64) (.v 4) (.i 65535)) (.o1 .ofNat (.v 1)))))
(.need (.o1 (.inr .i64) (.o2 .add (.o2 .mul (.i 2) (.o2 .rem (.o2 (.bit .and .i64) (.v 4) (.i 65535)) (.o1 .ofNat (.v 1)))) (.i 1)))
(.need (.o1 (.inr .i64) (.o2 .mul (.i 2) (.o2 .rem (.o2 (.bit .and .i64) (.v 5) (.i 65535)) (.o1 .ofNat (.v 1)))))
(.need (.o1 (.inr .i64) (.o2 .add (.o2 .mul (.i 2) (.o2 .rem (.o2 (.bit .and .i64) (.v 5) (.i 65535)) (.o1 .ofNat (.v 1)))) (.i 1)))
(.need (.o2 .le (.i 0) (.o2 .add (.o2 .mul (.i 2) (.o2 .rem (.o2 (.bit .and .i64) (.v 5) (.i 65535)) (.o1 .ofNat (.v 1)))) (.i 1)))
(.need (.o2 .lt (.o2 .add (.o2 .mul (.i 2) (.o2 .rem (.o2 (.bit .and .i64) (.v 5) (.i 65535)) (.o1 .ofNat (.v 1)))) (.i 1)) (.o1 .ofNat (.v 14)))
(.need (.o1 .isSome (.v 13))
(.read (.load 68 (.tmp 144)) 68 [(144,.w (.a (.eptr 13 (.o2 .add (.o2 .mul (.i 2) (.o2 .rem (.o2 (.bit .and .i64) (.v 5) (.i 65535)) (.o1 .ofNat (.v 1)))) (.i 1)) 2 0)))] [(.a 13,.prop 21)] [.i,.a,.n,.n] (.w (.agg [.int .i64 (.v 36),.sl (.v 37) (.v 38) (.v 39)]))
(.need (.o2 .le (.i 0) (.o2 .add (.o2 .mul (.i 2) (.o2 .rem (.o2 (.bit .and .i64) (.v 4) (.i 65535)) (.o1 .ofNat (.v 1)))) (.i 1)))
(.need (.o2 .lt (.o2 .add (.o2 .mul (.i 2) (.o2 .rem (.o2 (.bit .and .i64) (.v 4) (.i 65535)) (.o1 .ofNat (.v 1)))) (.i 1)) (.o1 .ofNat (.v 14)))
(.read (.load 68 (.tmp 150)) 68 [(150,.w (.a (.eptr 13 (.o2 .add (.o2 .mul (.i 2) (.o2 .rem (.o2 (.bit .and .i64) (.v 4) (.i 65535)) (.o1 .ofNat (.v 1)))) (.i 1)) 2 0)))] [(.a 13,.prop 21)] [.i,.a,.n,.n] (.w (.agg [.int .i64 (.v 40),.sl (.v 41) (.v 42) (.v 43)]))
(.op (.store 68 (.tmp 152) (.tmp 145)) 0 [(152,.w (.a (.eptr 13 (.o2 .add (.o2 .mul (.i 2) (.o2 .rem (.o2 (.bit .and .i64) (.v 4) (.i 65535)) (.o1 .ofNat (.v 1)))) (.i 1)) 2 0))),(145,.w (.agg [.int .i64 (.v 36),.sl (.v 37) (.v 38) (.v 39)]))] [(.a 13,.prop 21)] [.p] (.tup []) [(.a 13,.prop 44)]
(.op (.store 68 (.tmp 153) (.tmp 151)) 0 [(153,.w (.a (.eptr 13 (.o2 .add (.o2 .mul (.i 2) (.o2 .rem (.o2 (.bit .and .i64) (.v 5) (.i 65535)) (.o1 .ofNat (.v 1)))) (.i 1)) 2 0))),(151,.w (.agg [.int .i64 (.v 40),.sl (.v 41) (.v 42) (.v 43)]))] [(.a 13,.prop 44)] [.p] (.tup []) [(.a 13,.prop 45)]
(.call 47 [.a (.sl (.v 13) (.v 14) (.v 15)),.a (.sl (.v 16) (.v 17) (.v 18))] [(.a 13,.prop 45),(.a 16,.prop 20)] [.a,.n,.n,.p] (.w (.a (.sl (.v 46) (.v 47) (.v 48)))) [(.a 46,.prop 49),(.a 13,.prop 45),(.a 16,.prop 20)]
(.br (.o2 .lt (.i 0) (.o1 .ofNat (.v 47)))
(.need (.o1 (.inr .i64) (.o2 .sub (.o1 .ofNat (.v 47)) (.i 1)))
(.need (.o2 .le (.i 0) (.o2 .sub (.o1 .ofNat (.v 47)) (.i 1)))
(.need (.o2 .lt (.o2 .sub (.o1 .ofNat (.v 47)) (.i 1)) (.o1 .ofNat (.v 47)))
(.need (.o1 .isSome (.v 46))
(.read (.load 3 (.tmp 165)) 3 [(165,.w (.a (.eptr 46 (.o2 .sub (.o1 .ofNat (.v 47)) (.i 1)) 1 0)))] [(.a 46,.prop 49)] [.i] (.w (.a (.int .i64 (.v 50))))
(.ret (.w (.a (.bool (.o2 .eq (.v 50) (.i 5))))) [(.a 0,.prop 3)]))))))
(.ret (.w (.a (.bool (.c false)))) [(.a 0,.prop 3)])))))))))))))))))))))))))))))))))))
theorem tree_judgeRight:tree Tryz.prog { absT:=[142,144],hv:=[(0,[.b (.v 10),.b (.v 11),.b (.v 8)])],keep:=[16,47,48,24,20,49,46,39,50],turn:=[(23,[0])],rdf:=true,jn:=[((63,33),some { ss:=[.a,.n,.n,.p],n:=37,tv:=[(63,none),(64,none),(65,none),(66,none),(67,none),(68,none),(69,none),(70,none),(71,none),(72,none),(8,some (.w (.a (.sl (.v 33) (.v 34) (.v 35)))))],h:=[(.a 33,.prop 36),(.a 0,.prop 3),(.b (.v 32),.cells [.int .i64 (.i 0),.int .i64 (.i 0),.int .i64 (.v 19)] 57),(.b (.v 31),.cells [.int .i64 (.v 23),.str (.v 24),.str (.v 25),.int .i64 (.v 26),.int .i64 (.v 27),.sl (.v 28) (.v 29) (.v 30)] 34),(.a 16,.prop 20),(.b (.v 8),.prop 22)],lk:=[] })] } Tryz.f12 [.a (.sl (.v 0) (.v 1) (.v 2)),.a (.int .i64 (.v 4)),.a (.int .i64 (.v 5))] [(.a 0,.prop 3)] 6=t_judgeRight:=by kernel_rfl
end Go.Proofs.YtdieogcemmnaaaaGreatDoor.RX
