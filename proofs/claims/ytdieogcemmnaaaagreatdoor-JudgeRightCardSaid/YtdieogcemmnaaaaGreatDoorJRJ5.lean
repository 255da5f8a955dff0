/- Texts of this claim, joined. No condition. -/
import Derived.Test.YtdieogcemmnaaaaGreatDoorJRJ1
import Derived.Test.YtdieogcemmnaaaaGreatDoorJRJ2
import Derived.Test.YtdieogcemmnaaaaGreatDoorJRJ4
import Derived.Ground.SlsfProg
import Derived.Shelf.SlSortCmp.WholeK
import Derived.Test.YtdieogcemmnaaaaGreatDoorProg
import Derived.Shelf.SlSortCmp.NoneTotal
import Derived.KernelRfl
set_option linter.unusedSimpArgs false
set_option linter.unusedVariables false
namespace Go.Proofs.YtdieogcemmnaaaaGreatDoor
set_option linter.unusedSimpArgs false
set_option linter.unusedVariables false
open Go.Proofs.YtdieogcemmnaaaaGreatDoor RX
set_option maxRecDepth 100000
theorem undDeed : ∃ d,Tryz.prog.underlying 88=some d:=Option.isSome_iff_exists.1 (by kernel_rfl)
theorem aggDeed:aggT Tryz.prog 88=true:=by kernel_rfl
theorem szDeed:szT Tryz.prog 88=17:=by kernel_rfl
structure DeedE where
 id:IdM
 call:CallP
 ca:Option Addr
 cc:Nat
 be:Int
 en:Int
 ans:AnsM
 da:Option Addr
 dc:Nat
 na:Option Addr
 nc:Nat
def DeedE.p (x:DeedE):DeedP:=⟨x.id,x.call,x.be,x.en,x.ans⟩
abbrev DeedE.vals (x:DeedE):List Value:=[.int .i64 x.id.1,.int .i64 x.id.2.1,.int .i64 x.id.2.2,.int .i64 x.call.kind,sE x.call.path,sE x.call.other,.int .i64 x.call.off,.int .i64 x.call.n,.slice x.ca x.call.data.length x.cc,.int .i64 x.be,.int .i64 x.en,
 .int .i64 x.ans.err,.int .i64 x.ans.kind,.int .i64 x.ans.size,.int .i64 x.ans.links,.slice x.da x.ans.data.length x.dc,.slice x.na x.ans.names.length x.nc]
theorem DeedE.len (x:DeedE):x.vals.length=17:=rfl
theorem DeedE.one (x:DeedE) : ∀ u ∈ x.vals,u.oneCell'=true:=fun u hu=>by
 simp only [DeedE.vals,List.mem_cons,List.not_mem_nil,or_false] at hu
 rcases hu with rfl | rfl | rfl | rfl | rfl | rfl | rfl | rfl | rfl | rfl | rfl | rfl | rfl | rfl | rfl | rfl | rfl <;> rfl
abbrev dvs (l:List DeedE):List Value:=l.flatMap DeedE.vals
theorem dvs_len (l:List DeedE):(dvs l).length=l.length * 17:=flat_lenL DeedE.vals 17 DeedE.len l
theorem answered_ok (x:DeedE) (S:HP):Tri Tryz.prog 111 #[.agg x.vals.toArray] S (fun v=>HP.and (v = .bool x.p.ansd) S):=by
 refine Tri.weak (A:=HP.sep S (HP.sep HP.tt HP.tt)) (B:=fun v=>HP.and (v = .bool x.p.ansd) (HP.sep S (HP.sep HP.tt HP.tt))) ?_ (fun R h H=>HP.sep_tt H |> fun H=>HP.sep_mono H (fun _ h=>h) fun _ _=>HP.sep_tt trivial) fun v R h H=>⟨H.1,HP.sep_left H.2⟩
 refine tri_of_tree (ρ:=[.i x.id.1,.i x.id.2.1,.i x.id.2.2,.i x.call.kind,.s x.call.path,.s x.call.other,.i x.call.off,.i x.call.n,.a x.ca,.n x.call.data.length,.n x.cc,.p S,.i x.be,.i x.en,.i x.ans.err,.i x.ans.kind,.i x.ans.size,.i x.ans.links,.a x.da,.n x.ans.data.length,.n x.dc,.p HP.tt,.a x.na,.n x.ans.names.length,.n x.nc,.p HP.tt]) mixed Tryz.func111 tree_jAnswered ?_
 unfold t_jAnswered
 simp only [T.den,E.prop,E.den,RX.look,F1.app,F2.app,Uni.int_i,Uni.nat_n,Uni.bool_c,Uni.str_s,Uni.adr_a,Uni.val_v,Uni.hp_p,hden,cden,V.den,W.den,A.den,BR.den,SA.den,FV.den,capV,exs,exP,allP,Cur.app,List.map_cons,List.map_nil,List.cons_append,List.nil_append,List.drop_succ_cons,List.drop_zero,List.length_cons,List.length_nil,Nat.zero_add,Nat.reduceAdd,Int.neg_neg,Bool.not_not,List.append_nil,Nat.add_zero,List.getElem?_cons_zero,List.getElem?_cons_succ,Decidable.not_not,semW_eq,ne_eq,Nat.reduceEqDiff,not_false_eq_true]
 intro _
 refine ⟨fun h => .of fun R h' H=>⟨?_,H⟩,fun h => .of fun R h' H=>⟨?_,H⟩⟩
 ·unfold DeedP.ansd DeedE.p; simp [h]
 ·unfold DeedP.ansd DeedE.p; simp [h]
theorem late1_ok (x:DeedE) (S:HP):Tri Tryz.prog 173 #[.agg x.vals.toArray] S (fun v=>HP.and (v = .bool (!x.p.ansd)) S):=by
 refine Tri.weak (A:=HP.sep S (HP.sep HP.tt HP.tt)) (B:=fun v=>HP.and (v = .bool (!x.p.ansd)) (HP.sep S (HP.sep HP.tt HP.tt))) ?_ (fun R h H=>HP.sep_tt H |> fun H=>HP.sep_mono H (fun _ h=>h) fun _ _=>HP.sep_tt trivial) fun v R h H=>⟨H.1,HP.sep_left H.2⟩
 refine tri_of_tree (ρ:=[.i x.id.1,.i x.id.2.1,.i x.id.2.2,.i x.call.kind,.s x.call.path,.s x.call.other,.i x.call.off,.i x.call.n,.a x.ca,.n x.call.data.length,.n x.cc,.p S,.i x.be,.i x.en,.i x.ans.err,.i x.ans.kind,.i x.ans.size,.i x.ans.links,.a x.da,.n x.ans.data.length,.n x.dc,.p HP.tt,.a x.na,.n x.ans.names.length,.n x.nc,.p HP.tt]) mixed Tryz.func173 tree_jLate1 ?_
 unfold t_jLate1
 simp only [T.den,E.prop,E.den,RX.look,F1.app,F2.app,Uni.int_i,Uni.nat_n,Uni.bool_c,Uni.str_s,Uni.adr_a,Uni.val_v,Uni.hp_p,hden,cden,V.den,W.den,A.den,BR.den,SA.den,FV.den,capV,exs,exP,allP,Cur.app,List.map_cons,List.map_nil,List.cons_append,List.nil_append,List.drop_succ_cons,List.drop_zero,List.length_cons,List.length_nil,Nat.zero_add,Nat.reduceAdd,Int.neg_neg,Bool.not_not,List.append_nil,Nat.add_zero,List.getElem?_cons_zero,List.getElem?_cons_succ,Decidable.not_not,semW_eq,ne_eq,Nat.reduceEqDiff,not_false_eq_true]
 intro _
 refine (answered_ok x (HP.sep S (HP.sep HP.tt HP.tt))).weak (fun _ _ h=>h) ?_
 rintro v R h ⟨rfl,H⟩
 exact ⟨_,rfl,.of fun R h H=>⟨rfl,H⟩,H⟩
theorem fgoL1:Fgo Tryz.prog 173:=⟨_,Tryz.func173,by kernel_rfl,by kernel_rfl⟩
theorem late1_v (x:DeedE) (S:HP):VTri Tryz.prog (.func (.func 173) #[] #[]) #[.agg x.vals.toArray] S (fun v=>HP.and (v = .bool (!x.p.ansd)) S) := .inl ⟨_,_,rfl,fgoL1,late1_ok x S⟩
theorem dvs_get {l:List DeedE} {k j:Nat} {x:DeedE} (hk:l[k]? = some x) (hj:j < 17):(dvs l)[k * 17 + j]? = x.vals[j]? := flat_getL DeedE.vals 17 DeedE.len l k j x hk hj
theorem ldD {S:HP} {a:Option Addr} {zs:List DeedE} (r:Rd S a (dvs zs)) {k:Nat} {x:DeedE} (hk:zs[k]? = some x):ORead Tryz.prog (loadS 88 (.pointer (a.map fun y=>(y.add (k * 17)).add 0))) S (.agg x.vals.toArray):=by
 obtain ⟨d,hd⟩:=undDeed
 refine loadN_ok (vs:=x.vals) hd aggDeed r (k:=k * 17) (off:=0) szDeed (Nat.succ_pos _) fun j v hj => ?_
 have hlt:j < 17:=(List.getElem?_eq_some_iff.1 hj).1
 rw [Nat.add_zero,dvs_get hk hlt]
 exact hj
def okD (x:DeedE):Bool:=x.p.ansd
theorem inI64D (x:Int) (h1 : -1 ≤ x) (h2:x ≤ 1000000001):IntKind.i64.min ≤ x ∧ x ≤ IntKind.i64.max:=⟨by show (-9223372036854775808:Int) ≤ x; omega,by show x ≤ (9223372036854775807:Int); omega⟩
set_option maxHeartbeats 1000000 in
theorem indexD_ok (a:Option Addr) (n c:Nat) (zs:List DeedE) (hl:zs.length=n) (ha:n ≠ 0 → a.isSome=true) (hn:n ≤ 1000000) (S:HP) (rd:Rd S a (dvs zs)) :
  Tri Tryz.prog 207 #[.slice a n c,.func (.func 173) #[] #[]] (HP.sep S HP.tt)
   (fun v=>HP.ex fun k:Int=>HP.and (v = .int .i64 k ∧ ((k = -1 ∧ ∀ x ∈ zs,okD x=true) ∨ ∃ j:Nat,k=j ∧ j < n ∧ (∀ i x,i < j → zs[i]? = some x → okD x=true) ∧ (∀ x,zs[j]? = some x → okD x=false))) (HP.sep S HP.tt)):=by
 refine tri_of_tree (ρ:=[.a a,.n n,.n c,.p S,.v (.func (.func 173) #[] #[]),.p HP.tt]) mixed Tryz.func207 tree_jIndexD ?_
 unfold t_jIndexD
 simp only [T.den,E.prop,E.den,RX.look,F1.app,F2.app,Uni.int_i,Uni.nat_n,Uni.bool_c,Uni.str_s,Uni.adr_a,Uni.val_v,Uni.hp_p,hden,cden,V.den,W.den,A.den,BR.den,SA.den,FV.den,capV,exs,exP,allP,Cur.app,List.map_cons,List.map_nil,List.cons_append,List.nil_append,List.drop_succ_cons,List.drop_zero,List.length_cons,List.length_nil,Nat.zero_add,Nat.reduceAdd,Int.neg_neg,Bool.not_not,List.append_nil,Nat.add_zero,List.getElem?_cons_zero,List.getElem?_cons_succ,Decidable.not_not,semW_eq,semW_load,ne_eq,Nat.reduceEqDiff,not_false_eq_true]
 refine ⟨fun _ i P => ∃ k:Nat,i=k ∧ k ≤ n ∧ P=HP.tt ∧ ∀ j x,j < k → zs[j]? = some x → okD x=true,fun _ i _=>n - i.toNat,⟨0,rfl,Nat.zero_le _,rfl,fun j x hj=>absurd hj (by omega)⟩,?_⟩
 rintro _ _ _ ⟨k,rfl,hk,rfl,hp⟩
 refine ⟨fun hlt=>⟨by omega,fun _=>⟨ha (by omega),fun _ => ?_⟩⟩,fun hge => .of fun R h H=>⟨-1,⟨rfl,.inl ⟨rfl,fun x hx => ?_⟩⟩,H⟩⟩
 ·obtain ⟨x,hx⟩ : ∃ x,zs[k]? = some x:=⟨_,List.getElem?_eq_getElem (by omega)⟩
  refine ⟨x.id.1,x.id.2.1,x.id.2.2,x.call.kind,x.call.path,x.call.other,x.call.off,x.call.n,x.ca,x.call.data.length,x.cc,x.be,x.en,x.ans.err,x.ans.kind,x.ans.size,x.ans.links,x.da,x.ans.data.length,x.dc,x.na,x.ans.names.length,x.nc,ldD rd hx,?_⟩
  refine (late1_v x (HP.sep HP.tt S)).weak (fun _ _ h=>h) ?_
  rintro v R h ⟨rfl,H⟩
  refine ⟨_,HP.tt,rfl,⟨fun h1 => .of fun R h H=>⟨k,⟨rfl,.inr ⟨k,rfl,by omega,hp,fun y hy => ?_⟩⟩,H⟩,fun h1=>⟨inI64D _ (by omega) (by omega),fun _=>⟨⟨k + 1,by omega,by omega,rfl,fun j y hj hy => ?_⟩,by dsimp only; omega⟩⟩⟩,H⟩
  ·rw [hx] at hy; cases hy
   simpa [okD] using h1
  ·rcases Nat.lt_or_eq_of_le (Nat.le_of_lt_succ hj) with h | h
   ·exact hp j y h hy
   ·subst h; rw [hx] at hy; cases hy; simpa [okD] using h1
 ·obtain ⟨j,hj⟩:=List.mem_iff_getElem?.1 hx
  have:=(List.getElem?_eq_some_iff.1 hj).1
  exact hp j x (by omega) hj
def clrS (t ty:TypeId) (u:Value):Sem Next:=do pure (.value (← Builtin.clear_ #[t] ty #[u]))
theorem semW_clear {t ty:TypeId} {i:Nat} {u:Value}:semW (.call ⟨.builtin .clear,#[.tmp i],#[t]⟩) ty [(i,u)]=clrS t ty u:=by
 simp [semW,execOp,resolve,arW,invoke,builtin,clrS]
theorem infoD:(Tryz.prog.info? 88).map (fun i=>(i.zero.map (·.cells.size),i.zero.map (fun z=>z.cells.all (·.oneCell')),i.size,i.bytes))=some (some 17,some true,17,200):=by kernel_rfl
theorem undDs:Tryz.prog.underlying 85=some (.slice 88):=by kernel_rfl
theorem zeroCells_sz (z:Array Value) (n:Nat):(Builtin.zeroCells z n).size=n * z.size ∧ ∀ v ∈ Builtin.zeroCells z n,v ∈ z:=by
 refine ⟨by simp [Builtin.zeroCells],fun v hv => ?_⟩
 unfold Builtin.zeroCells at hv
 simp only [Array.mem_map,Array.mem_range] at hv
 obtain ⟨i,hi,rfl⟩:=hv
 have hz:0 < z.size:=by
  rcases Nat.eq_zero_or_pos z.size with h | h
  ·rw [h,Nat.mul_zero] at hi; omega
  ·exact h
 rw [getElem!_pos z _ (Nat.mod_lt _ hz)]
 exact Array.getElem_mem _
set_option maxHeartbeats 1000000 in
theorem clear_ok (ty:TypeId) (a:Option Addr) (n c:Nat) (xs:List Value) (i m c2:Nat) (h:i + m=n) :
  OTri Tryz.prog (clrS 85 ty (.slice (a.map (·.add (i * 17))) m c2)) (OwC 88 17 a n c xs) (fun v=>HP.ex fun ys:List Value=>HP.and (v = .tuple #[] ∧ ys.take (i * 17)=xs.take (i * 17)) (OwC 88 17 a n c ys)):=by
 rintro w R h' F s ⟨hl,hh⟩
 rcases hh with ⟨rfl,h0,h1⟩ | ⟨g,cur,rfl,hg,q1,q2,q3,q4⟩
 ·refine ⟨.value (.tuple #[]),_,w,?_,rfl,Same.refl _,R,h',PH.le.refl _,s,xs,⟨rfl,rfl⟩,hl,.inl ⟨rfl,h0,h1⟩⟩
  unfold clrS Builtin.clear_
  simp [RX.run_underlying undDs]
 by_cases hm:m=0
 ·subst hm
  refine ⟨.value (.tuple #[]),_,w,?_,rfl,Same.refl _,R,h',PH.le.refl _,s,xs,⟨rfl,rfl⟩,hl,.inr ⟨g,cur,rfl,hg,q1,q2,q3,q4⟩⟩
  unfold clrS Builtin.clear_
  simp [RX.run_underlying undDs]
 have hw:=s.oh _ _ hg
 obtain ⟨inf,hi,hz⟩:=Option.map_eq_some_iff.1 infoD
 simp only [Prod.mk.injEq,Option.map_eq_some_iff] at hz
 obtain ⟨⟨z,hz0,hz1⟩,⟨z',hz0',hz2⟩,hz3,hz4⟩:=hz
 rw [hz0] at hz0'; cases hz0'
 obtain ⟨e1,e2⟩:=zeroCells_sz z.cells m
 have hzl:(Builtin.zeroCells z.cells m).toList.length=m * 17:=by rw [Array.length_toList,e1,hz1]
 have h1 : ∀ v ∈ (Builtin.zeroCells z.cells m).toList,v.oneCell'=true:=fun v hv=>by
  have:=e2 v (Array.mem_toList_iff.1 hv)
  exact (Array.all_eq_true'.1 hz2) v this
 have hsz:n * 17 ≤ cur.size:=by rw [q3]; exact Nat.mul_le_mul_right _ q1
 have hst:=run_storeCells_at (P:=Tryz.prog) g (i * 17) 88 (Builtin.zeroCells z.cells m).toList 0 cur w hw (by rw [hzl]; omega) h1
 have hrun:(clrS 85 ty (.slice ((some (⟨g,0,none⟩:Addr)).map (·.add (i * 17))) m c2)).run Tryz.prog w = .ok (.value (.tuple #[])) (w.setRow g (cur.toList.take (i * 17 + 0) ++ (Builtin.zeroCells z.cells m).toList ++ cur.toList.drop (i * 17 + 0 + (Builtin.zeroCells z.cells m).toList.length)).toArray):=by
  unfold clrS Builtin.clear_
  simp only [Option.map_some,addr_add,Nat.zero_add,List.getElem?_toArray,List.getElem?_cons_zero,Sem.run_bind,RX.run_underlying undDs,Result.andThen_ok,run_zeroV hi hz0,hst,Sem.run_pure]
 refine ⟨.value (.tuple #[]),_,_,hrun,rfl,⟨rfl,rfl,rfl,by simp⟩,R,_,PH.le.refl _,s.turn (y := .cells (cur.toList.take (i * 17 + 0) ++ (Builtin.zeroCells z.cells m).toList ++ cur.toList.drop (i * 17 + 0 + (Builtin.zeroCells z.cells m).toList.length)).toArray 88 (0,0)) hg (fun j hj=>setRow_other w g j _ hj) (setRow_heap w g cur _ 88 (0,0) hw),(cur.toList.take (i * 17 + 0) ++ (Builtin.zeroCells z.cells m).toList ++ cur.toList.drop (i * 17 + 0 + (Builtin.zeroCells z.cells m).toList.length)).take (n * 17),⟨rfl,?_⟩,?_,.inr ⟨g,_,rfl,if_pos rfl,q1,q2,?_,rfl⟩⟩
 ·subst q4
  rw [List.take_take,List.take_take,Nat.min_eq_left (by omega),Nat.add_zero,List.append_assoc,List.take_append_of_le_length (by simp; omega),List.take_take,Nat.min_self]
 ·simp only [List.length_take,List.length_append,List.length_drop,Array.length_toList,hzl]; omega
 ·simp only [List.size_toArray,List.length_append,List.length_take,List.length_drop,Array.length_toList,hzl]; omega
end Go.Proofs.YtdieogcemmnaaaaGreatDoor

namespace Go.Proofs.YtdieogcemmnaaaaGreatDoor
set_option linter.unusedSimpArgs false
set_option linter.unusedVariables false
open Go.Proofs.YtdieogcemmnaaaaGreatDoor RX
set_option maxRecDepth 100000
theorem infoD' : ∃ i z,Tryz.prog.info? 88=some i ∧ i.zero=some z ∧ z.cells.size=i.size ∧ i.size=17 ∧ i.bytes=200:=by
 obtain ⟨inf,hi,hz⟩:=Option.map_eq_some_iff.1 infoD
 simp only [Prod.mk.injEq,Option.map_eq_some_iff] at hz
 obtain ⟨⟨z,hz0,hz1⟩,_,hz3,hz4⟩:=hz
 exact ⟨inf,z,hi,hz0,by rw [hz1,hz3],hz3,hz4⟩
theorem OwC.at0 {e:TypeId} {size:Nat} {a:Option Addr} {n c:Nat} {xs:List Value} {R h:PH} (H:(OwC e size a n c xs).p R h) (k:Nat) (hk:k=0):a.map (·.add k)=a ∧ (a=none → n=0):=by
 subst hk
 rcases H.2 with ⟨rfl,h0,_⟩ | ⟨g,_,rfl,_⟩
 ·exact ⟨rfl,fun _=>h0⟩
 ·exact ⟨rfl,fun h=>by cases h⟩
theorem one_all (l:List DeedE) : ∀ u ∈ dvs l,u.oneCell'=true:=fun u hu=>by
 obtain ⟨x,_,hx⟩:=List.mem_flatMap.1 hu
 exact x.one u hx
abbrev OwD (a:Option Addr) (n c:Nat) (l:List DeedE):HP:=OwC 88 17 a n c (dvs l)
theorem OwD.len {a:Option Addr} {n c:Nat} {l:List DeedE} {R h:PH} (H:(OwD a n c l).p R h):l.length=n:=by
 have:=OwC.len H
 rw [dvs_len] at this
 omega
theorem appD (a:Option Addr) (n c:Nat) (l:List DeedE) (S:HP) (ad:Addr) (m c2:Nat) (q:List DeedE) (hr:Rd S (some ad) (dvs q)) (hm:q.length=m) (hb:n + m ≤ 1000000) :
  OTri Tryz.prog (appS 85 85 (.slice a n c) (.slice (some ad) m c2)) (HP.sep (OwD a n c l) S) (fun v=>HP.ex fun a'=>HP.ex fun c'=>HP.and (v = .slice a' (n + m) c') (HP.sep (OwD a' (n + m) c' (l ++ q)) S)):=by
 obtain ⟨i,z,hi,hz,h1,h2,h3⟩:=infoD'
 have:=append_ok 85 85 88 i z undDs hi hz h1 (by omega) a n c (dvs l) S ad m c2 (dvs q) hr (by rw [dvs_len,hm,h2]) (one_all q) (by unfold maxLen; omega) (by rw [h3]; omega)
 rw [h2] at this
 have e:dvs (l ++ q)=dvs l ++ dvs q:=List.flatMap_append
 unfold OwD
 rw [e]
 exact this
theorem cloneD_ok (a:Option Addr) (n c:Nat) (l:List DeedE) (hn:n ≤ 1000000):Tri Tryz.prog 172 #[.slice a n c] (OwD a n c l)
  (fun v=>HP.ex fun a'=>HP.ex fun c'=>HP.and (v = .slice a' n c') (HP.sep (OwD a' n c' l) (OwD a n c l))):=by
 refine Tri.fact (φ:=l.length=n ∧ (a=none → n=0)) (fun R h H=>⟨OwD.len H,(OwC.at0 H 0 rfl).2⟩) fun ⟨hl,ha⟩ => ?_
 refine tri_of_tree (ρ:=[.a a,.n n,.n c,.p (OwD a n c l)]) mixed Tryz.func172 tree_jCloneD ?_
 unfold t_jCloneD
 simp only [T.den,E.prop,E.den,RX.look,F1.app,F2.app,Uni.int_i,Uni.nat_n,Uni.bool_c,Uni.str_s,Uni.adr_a,Uni.val_v,Uni.hp_p,hden,cden,V.den,W.den,A.den,BR.den,SA.den,FV.den,capV,exs,exP,allP,Cur.app,List.map_cons,List.map_nil,List.cons_append,List.nil_append,List.drop_succ_cons,List.drop_zero,List.length_cons,List.length_nil,Nat.zero_add,Nat.reduceAdd,Int.neg_neg,Bool.not_not,List.append_nil,Nat.add_zero,List.getElem?_cons_zero,List.getElem?_cons_succ,Decidable.not_not,semW_eq,semW_append,ne_eq,Nat.reduceEqDiff,not_false_eq_true]
 refine ⟨fun h => .of fun R h' H => ?_,fun h => ?_⟩
 ·have hnone:a=none:=by cases a <;> simp at h ⊢
  have hn0:=ha hnone
  subst hn0
  have:l=[]:=List.eq_nil_of_length_eq_zero hl
  subst this
  exact ⟨none,0,rfl,HP.sep_mono (HP.tt_sep H) (fun _ _=>OwC.nil _ _ _ _) fun _ h=>h⟩
 ·obtain ⟨ad,rfl⟩ : ∃ ad,a=some ad:=by cases a with | none=>simp at h | some y=>exact ⟨y,rfl⟩
  intro b
  refine (appD (some ⟨b,0,none⟩) 0 0 [] (OwD (some ad) n c l) ad n c l (OwC.rd _ _ _ _ _ _) hl (by omega)).weak (fun R h H=>HP.sep_mono H (fun y hy=>⟨rfl,.inr ⟨b,#[],rfl,hy,Nat.le_refl _,by unfold maxLen; omega,rfl,rfl⟩⟩) fun _ h=>h) ?_
  rintro v R h ⟨a',c',rfl,H⟩
  rw [Nat.zero_add,List.nil_append] at H
  exact ⟨a',n,c',OwD a' n c' l,by rw [Nat.zero_add],.of fun R h H=>⟨a',c',rfl,HP.sep_comm H⟩,H⟩
theorem stD (a:Option Addr) (n c:Nat) (l:List DeedE) (hl:l.length=n) (k:Nat) (hk:k < n) (x:DeedE) :
  OTri Tryz.prog (storeS 88 (.pointer (a.map fun y=>(y.add (k * 17)).add 0)) (.agg x.vals.toArray)) (OwD a n c l) (fun v=>HP.and (v = .tuple #[]) (OwD a n c (l.set k x))):=by
 obtain ⟨i,z,hi,hz,h1,h2,h3⟩:=infoD'
 have hb:k * 17 + 17 ≤ n * 17:=by omega
 have:=store_ok hi 88 17 a n c (dvs l) (k * 17) 0 (.agg x.vals.toArray) x.vals rfl h2 (Nat.succ_pos _) x.one (by rw [x.len]; omega)
 refine this.weak (fun _ _ h=>h) fun v R h H => ?_
 obtain ⟨e,H⟩:=H
 refine ⟨e,?_⟩
 have e2:dvs (l.set k x)=(dvs l).take (k * 17 + 0) ++ x.vals ++ (dvs l).drop (k * 17 + 0 + x.vals.length):=by
  rw [List.set_eq_take_append_cons_drop,if_pos (by omega)]
  have t1 : ∀ j,dvs (l.take j)=(dvs l).take (j * 17):=fun j=>by
   have ht:l=l.take j ++ l.drop j:=(List.take_append_drop j l).symm
   by_cases hj:j ≤ l.length
   ·conv=>rhs; rw [ht]
    rw [show dvs (l.take j ++ l.drop j)=dvs (l.take j) ++ dvs (l.drop j) from List.flatMap_append,List.take_left' (by rw [dvs_len,List.length_take,Nat.min_eq_left hj])]
   ·rw [List.take_of_length_le (by omega),List.take_of_length_le (by rw [dvs_len]; omega)]
  have t2:dvs (l.drop (k + 1))=(dvs l).drop ((k + 1) * 17):=by
   have ht:l=l.take (k + 1) ++ l.drop (k + 1):=(List.take_append_drop (k + 1) l).symm
   conv=>rhs; rw [ht]
   rw [show dvs (l.take (k + 1) ++ l.drop (k + 1))=dvs (l.take (k + 1)) ++ dvs (l.drop (k + 1)) from List.flatMap_append,List.drop_left' (by rw [dvs_len,List.length_take,Nat.min_eq_left (by omega)])]
  rw [show dvs (l.take k ++ x :: l.drop (k + 1))=dvs (l.take k) ++ (x.vals ++ dvs (l.drop (k + 1))) by simp [dvs],t1,t2,List.append_assoc,x.len,show (k + 1) * 17=k * 17 + 17 by omega]
  rfl
 show (OwC _ _ _ _ _ _).p R h
 rw [e2]
 exact H
set_option maxHeartbeats 2000000 in
theorem deleteD_ok (a:Option Addr) (n c:Nat) (zs:List DeedE) (hn:n ≤ 1000000):Tri Tryz.prog 171 #[.slice a n c,.func (.func 173) #[] #[]] (OwD a n c zs)
  (fun v=>HP.ex fun c'=>HP.and (v = .slice a (zs.filter okD).length c') (OwD a (zs.filter okD).length c' (zs.filter okD))):=by
 refine Tri.fact (φ:=zs.length=n ∧ (n ≠ 0 → a.isSome=true) ∧ (a.map (·.add 0)=a) ∧ n ≤ c) (fun R h H=>⟨OwD.len H,fun hn=>OwC.some H (Nat.pos_of_ne_zero hn),(OwC.at0 H 0 rfl).1,OwC.le H⟩) fun ⟨hl,ha,ha0,hc⟩ => ?_
 refine Tri.weak (A:=HP.sep (OwD a n c zs) HP.tt) ?_ (fun R h H=>HP.sep_tt H) fun _ _ _ h=>h
 refine tri_of_tree (ρ:=[.a a,.n n,.n c,.p (OwD a n c zs),.v (.func (.func 173) #[] #[]),.p HP.tt]) mixed Tryz.func171 tree_jDeleteD ?_
 unfold t_jDeleteD
 simp only [T.den,E.prop,E.den,RX.look,F1.app,F2.app,Uni.int_i,Uni.nat_n,Uni.bool_c,Uni.str_s,Uni.adr_a,Uni.val_v,Uni.hp_p,hden,cden,V.den,W.den,A.den,BR.den,SA.den,FV.den,capV,exs,exP,allP,Cur.app,List.map_cons,List.map_nil,List.cons_append,List.nil_append,List.drop_succ_cons,List.drop_zero,List.length_cons,List.length_nil,Nat.zero_add,Nat.reduceAdd,Int.neg_neg,Bool.not_not,List.append_nil,Nat.add_zero,List.getElem?_cons_zero,List.getElem?_cons_succ,Decidable.not_not,semW_eq,semW_load,semW_store,semW_storeC,ne_eq,Nat.reduceEqDiff,not_false_eq_true]
 refine (indexD_ok a n c zs hl ha hn _ (OwC.rd _ _ _ _ _ _)).weak (fun _ _ h=>h) ?_
 rintro v R h ⟨k0,⟨rfl,hk0⟩,H⟩
 refine ⟨k0,OwD a n c zs,HP.tt,rfl,⟨fun h => .of fun R h' H => ?_,fun h => ?_⟩,H⟩
 ·rcases hk0 with ⟨_,hall⟩ | ⟨j,hj,_⟩
  ·have:zs.filter okD=zs:=List.filter_eq_self.2 hall
   rw [this,hl]
   exact ⟨c,rfl,HP.sep_left H⟩
  ·omega
 clear H
 obtain ⟨j0,rfl,hj0,hb,hj⟩:=hk0.resolve_left (fun e=>h e.1)
 refine ⟨inI64D _ (by omega) (by omega),fun _ => ?_⟩
 have f0:(zs.take j0).filter okD=zs.take j0:=List.filter_eq_self.2 fun x hx=>by
  obtain ⟨i,hi⟩:=List.mem_iff_getElem?.1 hx
  rw [List.getElem?_take] at hi
  split at hi
  ·exact hb i x (by assumption) hi
  ·cases hi
 have fstep : ∀ (j:Nat) (x:DeedE),zs[j]? = some x → (zs.take (j + 1)).filter okD=(zs.take j).filter okD ++ if okD x then [x] else []:=fun j x hx=>by
  have hlt:=(List.getElem?_eq_some_iff.1 hx).1
  rw [List.take_succ_eq_append_getElem hlt,List.filter_append]
  rw [List.getElem?_eq_getElem hlt] at hx
  rw [Option.some.inj hx]
  congr 1
  by_cases e:okD x=true <;> simp [e]
 obtain ⟨x0,hx0⟩ : ∃ x,zs[j0]? = some x:=⟨_,List.getElem?_eq_getElem (by omega)⟩
 refine ⟨fun i j P Q => ∃ (i' j':Nat) (es:List DeedE),i=i' ∧ j=j' ∧ i' < j' ∧ j' ≤ n ∧ es.length=n ∧ es.take i'=(zs.take j').filter okD ∧ es.drop j'=zs.drop j' ∧ P=OwD a n c es ∧ Q=HP.tt,fun _ j _ _=>n - j.toNat,⟨j0,j0 + 1,zs,rfl,by omega,by omega,by omega,hl,?_,rfl,rfl,rfl⟩,?_⟩
 ·rw [fstep j0 x0 hx0,f0,hj x0 hx0]; simp
 rintro _ _ _ _ ⟨i,j,es,rfl,rfl,hij,hjn,hel,ht,hd,rfl,rfl⟩
 refine ⟨fun hlt=>⟨by omega,fun _=>⟨ha (by omega),fun _ => ?_⟩⟩,fun hge => ?_⟩
 ·obtain ⟨x,hx⟩ : ∃ x,zs[j]? = some x:=⟨_,List.getElem?_eq_getElem (by omega)⟩
  have hex:es[j]? = some x:=by
   have:(es.drop j)[0]? = (zs.drop j)[0]? := by rw [hd]
   simpa [hx] using this
  refine ⟨x.id.1,x.id.2.1,x.id.2.2,x.call.kind,x.call.path,x.call.other,x.call.off,x.call.n,x.ca,x.call.data.length,x.cc,x.be,x.en,x.ans.err,x.ans.kind,x.ans.size,x.ans.links,x.da,x.ans.data.length,x.dc,x.na,x.ans.names.length,x.nc,ldD (OwC.rd _ _ _ _ _ _) hex,fun _ => ?_⟩
  have hd':es.drop (j + 1)=zs.drop (j + 1):=by
   have:=congrArg (List.drop 1) hd
   rwa [List.drop_drop,List.drop_drop] at this
  refine (late1_v x (HP.sep HP.tt (OwD a n c es))).weak (fun _ _ h=>h) ?_
  rintro v R h ⟨rfl,H⟩
  refine ⟨_,HP.tt,rfl,⟨fun h1=>⟨by omega,fun _=>⟨by omega,fun _ => ?_⟩⟩,fun h1=>⟨inI64D _ (by omega) (by omega),fun _=>⟨⟨i,j + 1,es,rfl,by omega,by omega,by omega,hel,?_,hd',rfl,rfl⟩,by dsimp only; omega⟩⟩⟩,H⟩
  ·have hok:okD x=true:=by simpa [okD] using h1
   refine (stD a n c es hel i (by omega) x).weak (fun _ _ h=>h) ?_
   rintro v R h ⟨rfl,H⟩
   refine ⟨OwD a n c (es.set i x),rfl,⟨inI64D _ (by omega) (by omega),fun _=>⟨inI64D _ (by omega) (by omega),fun _=>⟨⟨i + 1,j + 1,es.set i x,by omega,by omega,by omega,by omega,by rw [List.length_set]; exact hel,?_,?_,rfl,rfl⟩,by dsimp only; omega⟩⟩⟩,H⟩
   ·rw [fstep j x hx,hok,← ht]
    rw [List.take_succ_eq_append_getElem (by rw [List.length_set]; omega),List.take_set_of_le (Nat.le_refl _)]
    simp
   ·rw [List.drop_set_of_lt (by omega),hd']
  ·have hok:okD x=false:=by simpa [okD] using h1
   rw [fstep j x hx,hok,ht]; simp
 ·obtain rfl:j=n:=by omega
  have hfl:(zs.filter okD).length=i:=by
   have:=congrArg List.length ht
   rw [List.take_of_length_le (by omega:zs.length ≤ j),List.length_take] at this
   omega
  have hft:zs.filter okD=es.take i:=by rw [ht,List.take_of_length_le (by omega:zs.length ≤ j)]
  obtain ⟨inf,hi⟩:=underlying_info undDs
  obtain ⟨i2,z,hi2,_⟩:=infoD'
  have hfin : ∀ ys:List Value,ys.take (i * 17)=(dvs es).take (i * 17) → ∀ R h,(OwC 88 17 a j c ys).p R h → (OwD a i c (zs.filter okD)).p R h:=fun ys hys R h H=>by
   have e1:dvs (zs.filter okD)=ys.take (i * 17):=by
    rw [hys,hft]
    have ht:es=es.take i ++ es.drop i:=(List.take_append_drop i es).symm
    conv=>rhs; rw [ht]
    rw [show dvs (es.take i ++ es.drop i)=dvs (es.take i) ++ dvs (es.drop i) from List.flatMap_append,List.take_left' (by rw [dvs_len,List.length_take]; omega)]
   obtain ⟨h1,h2⟩:=H
   refine ⟨by rw [dvs_len,hfl],?_⟩
   rcases h2 with ⟨q1,q2,q3⟩ | ⟨g,cur,q1,q2,q3,q4,q5,q6⟩
   ·exact .inl ⟨q1,by omega,q3⟩
   ·refine .inr ⟨g,cur,q1,q2,by omega,q4,q5,?_⟩
    rw [e1,← q6,List.take_take,Nat.min_eq_left (by omega)]
  have rest : ∀ (ys:List Value),ys.take (i * 17)=(dvs es).take (i * 17) → ∃ (a':Option Addr) (n' c':Nat),ORead Tryz.prog (sliceS 85 (.slice a j c) none (some (.int .i64 (i:Int))) none) (OwC 88 17 a j c ys) (.slice a' n' c') ∧
    HP.ent (HP.sep (OwC 88 17 a j c ys) HP.tt) (HP.ex fun c3=>HP.and (Value.slice a' n' c' = .slice a (zs.filter okD).length c3) (OwD a (zs.filter okD).length c3 (zs.filter okD))):=fun ys hys=>by
   refine ⟨_,_,_,slice_ok undDs hi2 _ a j c none (some i) none (Nat.zero_le _) (by simp; omega) (Nat.le_refl _) (fun h=>by simp at h),.of fun R h H=>⟨c,?_,?_⟩⟩
   ·simp [hfl,ha0]
   ·rw [hfl]; exact hfin ys hys R _ (HP.sep_left H)
  have sl1:=slice_ok undDs hi2 (OwD a j c es) a j c (some i) none none (by simp; omega) (by simp; omega) (Nat.le_refl _) (fun h=>by simp at h)
  have hci:c ≠ i:=by omega
  have sl2:ORead Tryz.prog (sliceS 85 (.slice a j c) (some (.int .i64 (i:Int))) none none) (OwD a j c es) (.slice (a.map (·.add (i * 17))) (j - i) (c - i)):=by
   have e:(if (none:Option Nat).getD c=(some i).getD 0 then a else a.map (·.add ((some i).getD 0 * szT Tryz.prog 88)))=a.map (·.add (i * 17)):=by
    rw [szDeed,if_neg (by simpa using hci)]; rfl
   rw [e] at sl1
   exact sl1
  refine ⟨_,_,_,by rw [semW_slice]; exact sl2,?_⟩
  rw [semW_clear]
  refine (clear_ok _ a j c (dvs es) i (j - i) (c - i) (by omega)).weak (fun _ _ h=>h) ?_
  rintro v R h ⟨ys,⟨rfl,hys⟩,H⟩
  obtain ⟨a',n',c',h1,h2⟩:=rest ys hys
  refine ⟨_,rfl,⟨a',n',c',by rw [semW_slice]; exact h1,?_⟩,H⟩
  exact h2
end Go.Proofs.YtdieogcemmnaaaaGreatDoor

namespace Go.Proofs
open Go.Shelf
def Tryz.laysSortD_ren:Go.Shelf.Ren:=⟨fun | 6=>174 | 15=>193 | 14=>208 | 28=>227 | 29=>228 | 20=>239 | 21=>240 | 22=>241 | 23=>242 | 24=>243 | 25=>244 | 26=>245 | 27=>246 | 46=>263 | 47=>254 | 48=>255 | 49=>264 | 50=>265 | 57=>273 | n=>n,fun | 22=>85 | 24=>88 | 25=>264 | 3=>3 | 39=>283 | 0=>0 | 53=>243 | 55=>172 | 4=>4 | 46=>303 | 45=>302 | 50=>201 | 5=>5 | 9=>9 | 66=>334 | 70=>338 | 76=>347 | 77=>76 | n=>n,fun | n=>n⟩
theorem Tryz.laysSortD:Go.Proofs.SlLaysF0.n6 Tryz.prog Tryz.laysSortD_ren:={
 mixed:=by kernel_rfl
 f6:=⟨Tryz.f174.name,by decide,Tryz.func174.trans (congrArg some (by kernel_rfl))⟩
 f14:=⟨Tryz.f208.name,by decide,Tryz.func208.trans (congrArg some (by kernel_rfl))⟩
 f15:=Tryz.func193.trans (congrArg some (by kernel_rfl))
 f20:=⟨Tryz.f239.name,by decide,Tryz.func239.trans (congrArg some (by kernel_rfl))⟩
 f21:=⟨Tryz.f240.name,by decide,Tryz.func240.trans (congrArg some (by kernel_rfl))⟩
 f22:=⟨Tryz.f241.name,by decide,Tryz.func241.trans (congrArg some (by kernel_rfl))⟩
 f23:=⟨Tryz.f242.name,by decide,Tryz.func242.trans (congrArg some (by kernel_rfl))⟩
 f24:=⟨Tryz.f243.name,by decide,Tryz.func243.trans (congrArg some (by kernel_rfl))⟩
 f25:=⟨Tryz.f244.name,by decide,Tryz.func244.trans (congrArg some (by kernel_rfl))⟩
 f26:=⟨Tryz.f245.name,by decide,Tryz.func245.trans (congrArg some (by kernel_rfl))⟩
 f27:=⟨Tryz.f246.name,by decide,Tryz.func246.trans (congrArg some (by kernel_rfl))⟩
 f28:=Tryz.func227.trans (congrArg some (by kernel_rfl))
 f29:=Tryz.func228.trans (congrArg some (by kernel_rfl))
 f46:=⟨Tryz.f263.name,by decide,Tryz.func263.trans (congrArg some (by kernel_rfl))⟩
 f47:=Tryz.func254.trans (congrArg some (by kernel_rfl))
 f48:=Tryz.func255.trans (congrArg some (by kernel_rfl))
 f49:=⟨Tryz.f264.name,by decide,Tryz.func264.trans (congrArg some (by kernel_rfl))⟩
 f50:=⟨Tryz.f265.name,by decide,Tryz.func265.trans (congrArg some (by kernel_rfl))⟩
 f57:=⟨Tryz.f273.name,by decide,Tryz.func273.trans (congrArg some (by kernel_rfl))⟩
 t0:=Tryz.underlying0
 a0:=Tryz.isAgg0
 z0:=Tryz.sizeOf0
 v0:=Tryz.zeroValue0
 t3:=Tryz.underlying3
 a3:=Tryz.isAgg3
 z3:=Tryz.sizeOf3
 v3:=Tryz.zeroValue3
 t4:=Tryz.underlying4
 a4:=Tryz.isAgg4
 z4:=Tryz.sizeOf4
 v4:=Tryz.zeroValue4
 t5:=Tryz.underlying5
 a5:=Tryz.isAgg5
 z5:=Tryz.sizeOf5
 v5:=Tryz.zeroValue5
 t9:=Tryz.underlying9
 a9:=Tryz.isAgg9
 z9:=Tryz.sizeOf9
 v9:=Tryz.zeroValue9
 t22:=Tryz.underlying85
 a22:=Tryz.isAgg85
 z22:=Tryz.sizeOf85
 v22:=Tryz.zeroValue85
 t25:=Tryz.underlying264
 a25:=Tryz.isAgg264
 z25:=Tryz.sizeOf264
 v25:=Tryz.zeroValue264
 t39:=Tryz.underlying283
 a39:=Tryz.isAgg283
 z39:=Tryz.sizeOf283
 v39:=Tryz.zeroValue283
 t45:=Tryz.underlying302
 a45:=Tryz.isAgg302
 z45:=Tryz.sizeOf302
 v45:=Tryz.zeroValue302
 t46:=Tryz.underlying303
 a46:=Tryz.isAgg303
 z46:=Tryz.sizeOf303
 v46:=Tryz.zeroValue303
 t50:=Tryz.underlying201
 a50:=Tryz.isAgg201
 z50:=Tryz.sizeOf201
 v50:=Tryz.zeroValue201
 t53:=Tryz.underlying243
 a53:=Tryz.isAgg243
 z53:=Tryz.sizeOf243
 v53:=Tryz.zeroValue243
 t55:=Tryz.underlying172
 a55:=Tryz.isAgg172
 z55:=Tryz.sizeOf172
 v55:=Tryz.zeroValue172
 t66:=Tryz.underlying334
 a66:=Tryz.isAgg334
 z66:=Tryz.sizeOf334
 v66:=Tryz.zeroValue334
 t70:=Tryz.underlying338
 a70:=Tryz.isAgg338
 z70:=Tryz.sizeOf338
 v70:=Tryz.zeroValue338
 t76:=Tryz.underlying347
 a76:=Tryz.isAgg347
 z76:=Tryz.sizeOf347
 v76:=Tryz.zeroValue347
 t77:=Tryz.underlying76
 a77:=Tryz.isAgg76
 z77:=Tryz.sizeOf76
 v77:=Tryz.zeroValue76 }
end Go.Proofs

namespace Go.Proofs.YtdieogcemmnaaaaGreatDoor
open Go.Proofs.YtdieogcemmnaaaaGreatDoor RX Go.Sort
set_option maxRecDepth 100000
instance:Inhabited DeedE:=⟨⟨(0,0,0),⟨0,[],[],0,0,[]⟩,none,0,0,0,⟨0,0,0,0,[],[]⟩,none,0,none,0⟩⟩
theorem DeedE.form (x:DeedE) : ∃ a0 a1 a2 a3 a4 a5 a6 a7 a8 b0 b1 b2 b3 b4 b5,x.vals=[a0,a1,a2,a3,a4,a5,a6,a7,a8,.int .i64 x.be,.int .i64 x.en,b0,b1,b2,b3,b4,b5]:=⟨_,_,_,_,_,_,_,_,_,_,_,_,_,_,_,rfl⟩
def cfB (x y:DeedE):Int:=Lib.compareInt x.be y.be
def cfE (x y:DeedE):Int:=Lib.compareInt x.en y.en
theorem lt_cmp (a b:Int):decide (Lib.compareInt a b < 0)=decide (a < b):=by
 unfold Lib.compareInt
 by_cases h1:a < b
 ·simp [h1]
 ·by_cases h2:b < a <;> simp [h1,h2]
theorem ltB (x y:DeedE):ltOf cfB x y=decide (x.be < y.be):=lt_cmp _ _
theorem ltE (x y:DeedE):ltOf cfE x y=decide (x.en < y.en):=lt_cmp _ _
theorem swoB:SWO (ltOf cfB) where
 irrefl x:=by rw [ltB]; simp
 trans x y z h1 h2:=by rw [ltB] at *; simp at *; omega
 ntrans x y z h1 h2:=by rw [ltB] at *; simp at *; omega
theorem swoE:SWO (ltOf cfE) where
 irrefl x:=by rw [ltE]; simp
 trans x y z h1 h2:=by rw [ltE] at *; simp at *; omega
 ntrans x y z h1 h2:=by rw [ltE] at *; simp at *; omega
set_option maxHeartbeats 1000000 in
theorem late2_calls (x y:DeedE) (W:World):Calls Tryz.prog 175 #[.agg x.vals.toArray,.agg y.vals.toArray] W fun e w'=>e = .returned (.int .i64 (cfB x y)) ∧ ∃ q os',w'=grow (W.drewN q) os':=by
 have hcon:=fun W'=>Tryz.cmp_Compare_int x.be y.be W'
 unfold cfB
 generalize Lib.compareInt x.be y.be=r at hcon ⊢
 obtain ⟨a0,a1,a2,a3,a4,a5,a6,a7,a8,b0,b1,b2,b3,b4,b5,e1⟩:=x.form
 obtain ⟨c0,c1,c2,c3,c4,c5,c6,c7,c8,d0,d1,d2,d3,d4,d5,e2⟩:=y.form
 rw [e1,e2]
 generalize x.be=xb at *
 generalize y.be=yb at *
 generalize x.en=xe at *
 generalize y.en=ye at *
 clear e1 e2
 go_enter Tryz.func175,Tryz.ntmps175
 go_wp2_with (go_at_call 176; refine (hcon _).mono ?_; rintro e w' ⟨rfl,rfl⟩)
 go_ret
 exact ⟨rfl,0,_,by rw [alloc_eq_grow,alloc_eq_grow,grow_grow]; rfl⟩
set_option maxHeartbeats 1000000 in
theorem late3_calls (x y:DeedE) (W:World):Calls Tryz.prog 177 #[.agg x.vals.toArray,.agg y.vals.toArray] W fun e w'=>e = .returned (.int .i64 (cfE x y)) ∧ ∃ q os',w'=grow (W.drewN q) os':=by
 have hcon:=fun W'=>Tryz.cmp_Compare_int x.en y.en W'
 unfold cfE
 generalize Lib.compareInt x.en y.en=r at hcon ⊢
 obtain ⟨a0,a1,a2,a3,a4,a5,a6,a7,a8,b0,b1,b2,b3,b4,b5,e1⟩:=x.form
 obtain ⟨c0,c1,c2,c3,c4,c5,c6,c7,c8,d0,d1,d2,d3,d4,d5,e2⟩:=y.form
 rw [e1,e2]
 generalize x.be=xb at *
 generalize y.be=yb at *
 generalize x.en=xe at *
 generalize y.en=ye at *
 clear e1 e2
 go_enter Tryz.func177,Tryz.ntmps177
 go_wp2_with (go_at_call 176; refine (hcon _).mono ?_; rintro e w' ⟨rfl,rfl⟩)
 go_ret
 exact ⟨rfl,0,_,by rw [alloc_eq_grow,alloc_eq_grow,grow_grow]; rfl⟩
theorem isAggD : ∀ w,(isAgg 88).run Tryz.prog w = .ok true w:=fun w=>by
 obtain ⟨d,hd⟩:=undDeed
 rw [RX.run_isAgg hd,aggDeed]
theorem sizeOfD : ∀ w,(Go.sizeOf 88).run Tryz.prog w = .ok 17 w:=fun w=>by
 obtain ⟨d,hd⟩:=undDeed
 obtain ⟨i,hi⟩:=underlying_info hd
 rw [RX.run_sizeOf hi,szDeed]
theorem flat_flatK (zs:List DeedE):(flatK DeedE.vals 17 zs.toArray).toList=zs.flatMap DeedE.vals:=by
 refine List.ext_getElem? fun t => ?_
 have hlen:(zs.flatMap DeedE.vals).length=zs.length * 17:=flat_lenL DeedE.vals 17 DeedE.len zs
 by_cases ht:t < zs.length * 17
 ·have hq:t / 17 < zs.length:=by omega
  have hr:t % 17 < 17:=Nat.mod_lt _ (by omega)
  have h1:=flat_getL DeedE.vals 17 DeedE.len zs (t / 17) (t % 17) zs[t / 17] (List.getElem?_eq_getElem hq) hr
  rw [show t / 17 * 17 + t % 17=t by omega] at h1
  rw [h1]
  have h2:=get_flatK DeedE.vals 17 zs.toArray t (by simpa using ht)
  have hs:t < (flatK DeedE.vals 17 zs.toArray).size:=by simpa using ht
  rw [Array.getElem?_toList,Array.getElem?_eq_getElem hs]
  rw [getElem!_pos (flatK DeedE.vals 17 zs.toArray) t hs] at h2
  rw [h2]
  have e3:zs.toArray[t / 17]! = zs[t / 17]:=by simp [hq]
  rw [e3]
  have h4:t % 17 < zs[t / 17].vals.length:=by rw [DeedE.len]; exact hr
  rw [List.getElem?_eq_getElem h4,getElem!_pos zs[t / 17].vals (t % 17) h4]
 ·rw [List.getElem?_eq_none (by simp; omega),List.getElem?_eq_none (by omega)]
theorem sortD_ok {g:Nat} {cf:DeedE → DeedE → Int} (hO:SWO (ltOf cf)) (hg : ∃ fn,Tryz.prog.funcs[g]? = some fn ∧ fn.body.isNone=false ∧ (fn.name == "runtime.NumGoroutine")=false)
  (hc : ∀ (x y:DeedE) (W:World),Calls Tryz.prog g #[.agg x.vals.toArray,.agg y.vals.toArray] W fun e w'=>e = .returned (.int .i64 (cf x y)) ∧ ∃ q os',w'=grow (W.drewN q) os')
  (a:Option Addr) (c:Nat) (zs:List DeedE) (hz:zs.length ≤ 1000000) :
  Tri Tryz.prog 174 #[.slice a zs.length c,.func (.func g) #[] #[]] (OwC 88 17 a zs.length c (zs.flatMap DeedE.vals))
   (fun v=>HP.ex fun ys:List DeedE=>HP.and (v = .tuple #[] ∧ ys.Perm zs ∧ ys.Pairwise (fun x y=>ltOf cf y x=false)) (OwC 88 17 a ys.length c (ys.flatMap DeedE.vals))):=by
 rintro w R h F s ⟨hl,hx⟩
 by_cases hz0:zs.length=0
 ·have hnil:zs=[]:=List.eq_nil_of_length_eq_zero hz0
  subst hnil
  refine (AnyF.slices_SortFunc_none Tryz.laysSortD a c _ w).mono fun ed w' ⟨he,hw⟩=>⟨_,he,by rw [hw]; exact Same.refl _,R,h,PH.le.refl _,by rw [hw]; exact s,[],⟨rfl,List.Perm.refl _,List.Pairwise.nil⟩,?_⟩
  exact ⟨hl,hx⟩
 rcases hx with ⟨_,h2,_⟩ | ⟨b,cur,rfl,hb,q1,q2,q3,q4⟩
 ·exact absurd h2 hz0
 have hw:=s.oh _ _ hb
 have hlt:b < w.heap.size:=by rcases Nat.lt_or_ge b w.heap.size with h | h; exact h; rw [Array.getElem?_eq_none h] at hw; cases hw
 have hH:HoldsK DeedE.vals 17 w b 0 zs.toArray:=fun j hj=>by
  have hj':j < zs.length * 17:=by simpa using hj
  have e1:(flatK DeedE.vals 17 zs.toArray)[j]? = cur[j]? := by
   have h3:(flatK DeedE.vals 17 zs.toArray).toList[j]? = (cur.toList.take (zs.length * 17))[j]? := by rw [flat_flatK,q4]
   rw [List.getElem?_take,if_pos hj'] at h3
   simpa using h3
  refine ⟨?_,?_⟩
  ·rw [Nat.zero_add,cell_at hw,← e1,Array.getElem?_eq_getElem hj,getElem!_pos (flatK DeedE.vals 17 zs.toArray) j hj]; rfl
  ·simp [World.frozen?,hw]
 have eg : ∀ args w,(callFunc g args).run Tryz.prog w = .ok (.enter g args) w:=by
  obtain ⟨fn,h1,h2,h3⟩:=hg
  obtain ⟨bd,hbd⟩ : ∃ bd,fn.body=some bd:=by
   cases hh:fn.body with
   | none=>rw [hh] at h2; cases h2
   | some y=>exact ⟨y,rfl⟩
  exact enters_of h1 h3 hbd
 have hcmp:CmpLays Tryz.prog g #[] DeedE.vals 17 cf b 0 zs.toArray.size w:=fun m os dk _ x y=>hc x y _
 have hcon:=AnyQ.slices_SortFunc Tryz.laysSortD 17 isAggD sizeOfD DeedE.vals DeedE.len DeedE.one cf hO g #[] b 0 c zs.toArray w eg hcmp hH hlt (by simp; omega)
 rw [List.size_toArray] at hcon
 refine hcon.mono fun ed w' ⟨he,d',n,os,hp,hs,hw'⟩ => ?_
 obtain ⟨hps,hpp⟩:d'.size=zs.length ∧ d'.toList.Perm zs:=by
  obtain ⟨p1,_,p3⟩:=hp
  have p1':d'.size=zs.length:=by simpa using p1
  refine ⟨p1',?_⟩
  rw [Array.toList_extract,Array.toList_extract] at p3
  simp only [List.extract_eq_take_drop,List.drop_zero,Nat.sub_zero] at p3
  rw [List.take_of_length_le (by simp [p1']),List.take_of_length_le (by simp)] at p3
  exact p3
 have hpw:d'.toList.Pairwise (fun x y=>ltOf cf y x=false):=by
  rw [List.pairwise_iff_getElem]
  intro i j hi hj hij
  have hi':i < d'.size:=by simpa using hi
  have hj':j < d'.size:=by simpa using hj
  have:=hs i j (Nat.zero_le _) hij (by omega)
  rw [getElem!_pos d' j hj',getElem!_pos d' i hi'] at this
  simpa using this
 have hheap : ∀ k,k < w.heap.size → w'.heap[k]? = if b=k then (w.heap[k]?).map (onCells (putCells id 0 (flatK DeedE.vals 17 d'))) else w.heap[k]? := fun k hk=>by
  rw [hw']
  simp only [sortWorldK,putRowK,grow,putRow,mapBlock,ahead]
  rw [Array.getElem?_append_left (by simpa using hk),Array.getElem?_modify]
  rfl
 have hg':w'.heap[b]? = some (.cells (putCells id 0 (flatK DeedE.vals 17 d') cur) 88 (0,0)):=by
  rw [hheap b hlt,if_pos rfl,hw]; rfl
 have hgrown:w.grownBy w' (some b):=by
  refine ⟨by rw [hw']; rfl,by rw [hw']; rfl,by rw [hw']; rfl,by rw [hw']; simp [sortWorldK,putRowK,grow,putRow,mapBlock,ahead],fun k hk hne => ?_⟩
  rw [hheap k hk,if_neg (fun e=>hne (by rw [e]))]
 have s2:=Sat.grown s (row:=some b) (fun g2 hg2=>by cases hg2; rw [hb]; simp) hgrown hg' (.inl rfl)
 refine ⟨_,he,⟨hgrown.os,hgrown.tape,hgrown.output,hgrown.size⟩,R,_,PH.le.refl _,s2,d'.toList,⟨rfl,hpp,hpw⟩,?_,?_⟩
 ·exact flat_lenL DeedE.vals 17 DeedE.len d'.toList
 have hdl:d'.toList.length=zs.length:=by simp [hps]
 rw [hdl]
 refine .inr ⟨b,_,rfl,PH.one_self _ _,q1,q2,?_,?_⟩
 ·simp [putCells,q3]
 ·have hsz:zs.length * 17 ≤ cur.size:=by rw [q3]; exact Nat.mul_le_mul_right _ q1
  have hf:=flat_flatK d'.toList
  rw [Array.toArray_toList] at hf
  rw [← hf]
  refine List.ext_getElem? fun j => ?_
  rw [List.getElem?_take]
  have hfs:(flatK DeedE.vals 17 d').size=zs.length * 17:=by simp [hps]
  by_cases hj:j < zs.length * 17
  ·rw [if_pos hj]
   simp [putCells,hfs,hj,show j < cur.size by omega]
  ·rw [if_neg hj,List.getElem?_eq_none (by rw [Array.length_toList,hfs]; omega)]
end Go.Proofs.YtdieogcemmnaaaaGreatDoor

namespace Go.Proofs.YtdieogcemmnaaaaGreatDoor
set_option linter.unusedSimpArgs false
set_option linter.unusedVariables false
open Go.Proofs.YtdieogcemmnaaaaGreatDoor RX Go.Sort
set_option maxRecDepth 100000
def FMl (r:Nat) (f:IdM → Option Nat) (l:AL IdM) (c:Nat):HP:=HP.and (MapI l c ∧ ∀ k,alFind k l=(f k).map fun n:Nat => .int .i64 (n:Int)) (HP.one r (mapObj idV l c))
theorem undFM:Tryz.prog.underlying 197=some (.map 57 3):=by kernel_rfl
theorem infoI1 : ∃ i,Tryz.prog.info? 3=some i ∧ i.zero=some (.int .i64 0):=by
 obtain ⟨i,hi,h1,_⟩:=info_parts infoInt
 exact ⟨i,hi,h1⟩
def fz (f:IdM → Option Nat) (k:IdM):Int:=(((f k).getD 0:Nat):Int)
theorem lookF {r c:Nat} {f:IdM → Option Nat} {l:AL IdM} (hf : ∀ k,alFind k l=(f k).map fun n:Nat => .int .i64 (n:Int)) (k:IdM):ORead Tryz.prog (lookS 197 (.map (some r)) (idV k) false) (FMl r f l c) (.int .i64 (fz f k)):=by
 obtain ⟨i,hi,hz⟩:=infoI1
 have:=look_ok (c:=c) (l:=l) (r:=r) idK undFM hi hz k false (A:=FMl r f l c) fun R h H=>H.2
 rw [hf] at this
 unfold fz
 cases hh:f k <;> rw [hh] at this <;> exact this
theorem lookF2 {r c:Nat} {f:IdM → Option Nat} {l:AL IdM} (hf : ∀ k,alFind k l=(f k).map fun n:Nat => .int .i64 (n:Int)) (k:IdM):ORead Tryz.prog (lookS 197 (.map (some r)) (idV k) true) (FMl r f l c) (.tuple #[.int .i64 (fz f k),.bool (f k).isSome]):=by
 obtain ⟨i,hi,hz⟩:=infoI1
 have:=look_ok (c:=c) (l:=l) (r:=r) idK undFM hi hz k true (A:=FMl r f l c) fun R h H=>H.2
 rw [hf] at this
 unfold fz
 cases hh:f k <;> rw [hh] at this <;> exact this
structure DeedRd (S:HP) (a:Option Addr) (n:Nat) (es:List DeedE):Prop where
 len:es.length=n
 is:n ≠ 0 → a.isSome=true
 rd:Rd S a (dvs es)
 cd : ∀ x ∈ es,RdL S x.ca x.call.data.length (x.call.data.map u8v)
 ar : ∀ x ∈ es,∀ R h,S.p R h → (RoB x.da x.ans.data.length x.ans.data).p R h ∧ (RoS x.na x.ans.names.length x.ans.names).p R h
 nb : ∀ x ∈ es,x.ans.names.length ≤ 1000000
theorem ldD3 {S:HP} {a:Option Addr} {zs:List DeedE} (r:Rd S a (dvs zs)) {k:Nat} {x:DeedE} (hk:zs[k]? = some x):ORead Tryz.prog (loadS 57 (.pointer (a.map fun y=>(y.add (k * 17)).add 0))) S (idV x.id):=by
 refine loadN_ok (vs:=[.int .i64 x.id.1,.int .i64 x.id.2.1,.int .i64 x.id.2.2]) undIdT (by kernel_rfl) r (k:=k * 17) (off:=0) (by kernel_rfl) (Nat.succ_pos _) fun j v hj => ?_
 have hlt:j < 3:=(List.getElem?_eq_some_iff.1 hj).1
 rw [Nat.add_zero,dvs_get hk (by omega),← hj]
 match j,hlt with
 | 0,_=>rfl
 | 1,_=>rfl
 | 2,_=>rfl
theorem ldDE {S:HP} {a:Option Addr} {zs:List DeedE} (r:Rd S a (dvs zs)) {k:Nat} {x:DeedE} (hk:zs[k]? = some x):ORead Tryz.prog (loadS 3 (.pointer (a.map fun y=>(y.add (k * 17)).add 10))) S (.int .i64 x.en) :=
 load1_ok undIb aggI szI r (k:=k * 17) (off:=10) (by rw [dvs_get hk (by decide)]; rfl)
theorem fgoL2:Fgo Tryz.prog 175:=⟨_,Tryz.func175,by kernel_rfl,by kernel_rfl⟩
theorem fgoL3:Fgo Tryz.prog 177:=⟨_,Tryz.func177,by kernel_rfl,by kernel_rfl⟩
theorem fgoL2x : ∃ fn,Tryz.prog.funcs[175]? = some fn ∧ fn.body.isNone=false ∧ (fn.name == "runtime.NumGoroutine")=false:=fgoL2
theorem fgoL3x : ∃ fn,Tryz.prog.funcs[177]? = some fn ∧ fn.body.isNone=false ∧ (fn.name == "runtime.NumGoroutine")=false:=fgoL3
theorem pw_get {α:Type} {p:α → α → Prop} {l:List α} (h:l.Pairwise p) {i j:Nat} {x y:α} (hi:l[i]? = some x) (hj:l[j]? = some y) (hij:i < j):p x y:=by
 rw [List.pairwise_iff_getElem] at h
 obtain ⟨h1,rfl⟩:=List.getElem?_eq_some_iff.1 hi
 obtain ⟨h2,rfl⟩:=List.getElem?_eq_some_iff.1 hj
 exact h i j h1 h2 hij
structure LateI (f:IdM → Option Nat) (E:List DeedE) (d:Nat) (last:Int):Prop where
 le:d ≤ E.length
 up : ∀ (j:Nat) (e:DeedE),j < d → E[j]? = some e → fz f e.id ≤ last
 is:last = -1 ∨ ∃ (j:Nat) (e:DeedE),j < d ∧ E[j]? = some e ∧ last=fz f e.id
def LateC (I E:List DeedE) (k d:Nat):Prop := ∀ (j:Nat) (e:DeedE),j < d → E[j]? = some e → ∃ (i:Nat) (x:DeedE),i < k ∧ I[i]? = some x ∧ e.en < x.be
def LateN (f:IdM → Option Nat) (I E:List DeedE) (k:Nat):Prop := ∀ (i:Nat) (x:DeedE),i < k → I[i]? = some x → ∀ e ∈ E,e.en < x.be → ¬ fz f x.id < fz f e.id
def inF (f:IdM → Option Nat) (x:DeedE):Bool:=(f x.id).isSome
theorem filter_stepJ {p:DeedE → Bool} {l:List DeedE} {k:Nat} {x:DeedE} (hx:l[k]? = some x):(l.take (k + 1)).filter p=(l.take k).filter p ++ if p x then [x] else []:=by
 have hlt:=(List.getElem?_eq_some_iff.1 hx).1
 rw [List.take_succ_eq_append_getElem hlt,List.filter_append]
 rw [List.getElem?_eq_getElem hlt] at hx
 rw [Option.some.inj hx]
 congr 1
 by_cases e:p x=true <;> simp [e]
theorem Tri.preL {P:Program} {f:FuncId} {args:Array Value} {A A':HP} {B:Value → HP} (t:Tri P f args A B) (e:HP.ent A' A):Tri P f args A' B:=t.conseq (K:=HP.tt) (e.trans (.of fun _ _ H=>HP.sep_tt H)) fun v => .of fun _ _ H=>HP.sep_left H
theorem OTri.preL {P:Program} {s:Sem Next} {A A':HP} {B:Value → HP} (t:OTri P s A B) (e:HP.ent A' A):OTri P s A' B:=t.conseq (K:=HP.tt) (e.trans (.of fun _ _ H=>HP.sep_tt H)) fun v => .of fun _ _ H=>HP.sep_left H
set_option maxHeartbeats 4000000 in
theorem late_ok (r:Nat) (f:IdM → Option Nat) (Q:HP) (q0 : ∀ k,ORead Tryz.prog (lookS 197 (.map (some r)) (idV k) false) Q (.int .i64 (fz f k))) (q1 : ∀ k,ORead Tryz.prog (lookS 197 (.map (some r)) (idV k) true) Q (.tuple #[.int .i64 (fz f k),.bool (f k).isSome])) (a:Option Addr) (n c:Nat) (es:List DeedE) (S:HP) (dr:DeedRd S a n es) (hn:n ≤ 100000) :
  Tri Tryz.prog 116 #[.map (some r),.slice a n c] (HP.sep Q S) (fun v=>HP.and (v = .bool (lateS f (es.map DeedE.p))) (HP.sep Q S)):=by
 refine tri_of_tree (ρ:=[.n r,.p Q,.a a,.n n,.n c,.p S]) mixed Tryz.func116 tree_jLate ?_
 unfold t_jLate
 simp only [T.den,E.prop,E.den,RX.look,F1.app,F2.app,Uni.int_i,Uni.nat_n,Uni.bool_c,Uni.str_s,Uni.adr_a,Uni.val_v,Uni.hp_p,hden,cden,V.den,W.den,A.den,BR.den,SA.den,FV.den,capV,exs,exP,allP,Cur.app,List.map_cons,List.map_nil,List.cons_append,List.nil_append,List.drop_succ_cons,List.drop_zero,List.length_cons,List.length_nil,Nat.zero_add,Nat.reduceAdd,Int.neg_neg,Bool.not_not,List.append_nil,Nat.add_zero,List.getElem?_cons_zero,List.getElem?_cons_succ,Decidable.not_not,semW_eq,semW_load,semW_append,semW_lookup,semW_lookupC,ne_eq,Nat.reduceEqDiff,not_false_eq_true]
 have hl:=dr.len
 refine ⟨fun a1 n1 c1 P i => ∃ k:Nat,i=k ∧ k ≤ n ∧ n1=((es.take k).filter (inF f)).length ∧ HP.ent P (OwD a1 n1 c1 ((es.take k).filter (inF f))),fun _ _ _ _ i=>n - i.toNat,⟨0,rfl,Nat.zero_le _,rfl,.of fun R h H=>OwC.nil _ _ R h⟩,?_⟩
 rintro a1 _ c1 P _ ⟨k,rfl,hk,rfl,hP⟩
 refine ⟨fun hlt=>⟨by omega,fun _=>⟨dr.is (by omega),fun _ => ?_⟩⟩,fun hge => ?_⟩
 ·obtain ⟨x,hx⟩ : ∃ x,es[k]? = some x:=⟨_,List.getElem?_eq_getElem (by omega)⟩
  have nxt:IntKind.i64.min ≤ (k:Int) + 1 ∧ (k:Int) + 1 ≤ IntKind.i64.max:=inI64D _ (by omega) (by omega)
  refine ⟨x.id.1,x.id.2.1,x.id.2.2,x.call.kind,x.call.path,x.call.other,x.call.off,x.call.n,x.ca,x.call.data.length,x.cc,x.be,x.en,x.ans.err,x.ans.kind,x.ans.size,x.ans.links,x.da,x.ans.data.length,x.dc,x.na,x.ans.names.length,x.nc,ldD dr.rd hx,fun _ => ?_⟩
  refine ⟨_,_,q1 x.id,⟨fun h1=>fun b => ?_,fun h1=>⟨nxt,fun _=>⟨⟨k + 1,by omega,by omega,?_,?_⟩,by dsimp only; omega⟩⟩⟩⟩
  ·have hin:inF f x=true:=h1
   have hlen:((es.take k).filter (inF f)).length ≤ k:=Nat.le_trans (List.length_filter_le _ _) (by rw [List.length_take]; omega)
   refine OTri.preL ((appD a1 _ c1 _ (HP.sep (HP.one b (.cells x.vals.toArray 88 (0,0))) S) ⟨b,0,none⟩ 1 1 [x] (Rd.left (by simpa [dvs] using one_rd b x.vals.toArray 88)) rfl (by omega)).weak (fun _ _ h=>h) ?_) (hP.sep _)
   rintro v R h ⟨a',c',rfl,H⟩
   refine ⟨a',_,c',_,rfl,⟨nxt,fun _=>⟨⟨k + 1,by omega,by omega,?_,?_⟩,by dsimp only; omega⟩⟩,H⟩
   ·rw [filter_stepJ hx,hin]; simp
   ·rw [filter_stepJ hx,hin]; exact .refl _
  ·have hin:inF f x=false:=by simpa [inF] using h1
   rw [filter_stepJ hx,hin]; simp
  ·have hin:inF f x=false:=by simpa [inF] using h1
   rw [filter_stepJ hx,hin]; simpa using hP
 obtain rfl:k=n:=by omega
 rw [List.take_of_length_le (by omega)] at hP ⊢
 generalize hI0:es.filter (inF f)=I0 at hP ⊢
 have hI0l:I0.length ≤ k:=by rw [← hI0,← hl]; exact List.length_filter_le _ _
 refine Tri.preL ((cloneD_ok a1 _ c1 I0 (by omega)).weak (fun _ _ h=>h) ?_) hP
 rintro v R h ⟨a2,c2,rfl,H⟩
 refine ⟨a2,_,c2,_,_,rfl,?_,H⟩
 clear H
 refine (deleteD_ok a2 _ c2 I0 (by omega)).weak (fun _ _ h=>h) ?_
 rintro v R h ⟨c3,rfl,H⟩
 refine ⟨a2,_,c3,_,HP.tt,rfl,?_,HP.sep_tt H⟩
 clear H
 refine (sortD_ok swoB fgoL2x late2_calls a1 c1 I0 (by omega)).weak (fun _ _ h=>h) ?_
 rintro v R h ⟨I,⟨rfl,pI,sI⟩,H⟩
 have haI:I.length ≠ 0 → a1.isSome=true:=fun h=>OwC.some H (Nat.pos_of_ne_zero h)
 refine ⟨_,rfl,?_,H⟩
 clear H
 have hEl:(I0.filter okD).length ≤ I0.length:=List.length_filter_le _ _
 refine (sortD_ok swoE fgoL3x late3_calls a2 c3 (I0.filter okD) (by omega)).weak (fun _ _ h=>h) ?_
 rintro v R h ⟨E,⟨rfl,pE,sE'⟩,H⟩
 have haE:E.length ≠ 0 → a2.isSome=true:=fun h=>OwC.some H (Nat.pos_of_ne_zero h)
 refine ⟨_,rfl,?_,H⟩
 clear H
 have lI:=pI.length_eq
 have lE:=pE.length_eq
 have mI : ∀ x,x ∈ I ↔ x ∈ es ∧ (f x.id).isSome=true:=fun x=>by rw [pI.mem_iff,← hI0,List.mem_filter]; rfl
 have mE : ∀ x,x ∈ E ↔ x ∈ I ∧ x.p.ansd=true:=fun x=>by rw [pE.mem_iff,List.mem_filter,pI.mem_iff]; rfl
 have soI : ∀ {i j:Nat} {x y:DeedE},I[i]? = some x → I[j]? = some y → i < j → x.be ≤ y.be:=fun hi hj hij=>by
  have:=pw_get sI hi hj hij
  rw [ltB,decide_eq_false_iff_not] at this
  omega
 have soE : ∀ {i j:Nat} {x y:DeedE},E[i]? = some x → E[j]? = some y → i < j → x.en ≤ y.en:=fun hi hj hij=>by
  have:=pw_get sE' hi hj hij
  rw [ltE,decide_eq_false_iff_not] at this
  omega
 have rdI:Rd (OwC 88 17 a1 I.length c1 (dvs I)) a1 (dvs I):=OwC.rd _ _ _ _ _ _
 have rdE:Rd (OwC 88 17 a2 E.length c3 (dvs E)) a2 (dvs E):=OwC.rd _ _ _ _ _ _
 clear hP
 refine ⟨fun last dn is i => ∃ (k' d:Nat),i=k' ∧ dn=d ∧ is=false ∧ k' ≤ I.length ∧ LateI f E d last ∧ LateC I E k' d ∧ LateN f I E k',fun _ _ _ i=>I.length - i.toNat,⟨0,0,rfl,rfl,rfl,Nat.zero_le _,⟨Nat.zero_le _,fun j e hj=>absurd hj (by omega),.inl rfl⟩,fun j e hj=>absurd hj (by omega),fun i x hi=>absurd hi (by omega)⟩,?_⟩
 rintro last _ _ _ ⟨k',d,rfl,rfl,rfl,hk',li,lcc,ln⟩
 refine ⟨fun hlt=>⟨by omega,fun _=>⟨haI (by omega),fun _ => ?_⟩⟩,fun hge => .of fun R h H=>⟨?_,HP.sep_mono H (fun _ h=>h) fun _ h=>h⟩⟩
 ·obtain ⟨x,hx⟩ : ∃ x,I[k']? = some x:=⟨_,List.getElem?_eq_getElem (by omega)⟩
  refine ⟨x.id.1,x.id.2.1,x.id.2.2,x.call.kind,x.call.path,x.call.other,x.call.off,x.call.n,x.ca,x.call.data.length,x.cc,x.be,x.en,x.ans.err,x.ans.kind,x.ans.size,x.ans.links,x.da,x.ans.data.length,x.dc,x.na,x.ans.names.length,x.nc,ldD rdI hx,fun _ => ?_⟩
  refine ⟨fun last dn => ∃ d:Nat,dn=d ∧ LateI f E d last ∧ (∀ (j:Nat) (e:DeedE),j < d → E[j]? = some e → e.en < x.be),fun _ dn=>E.length - dn.toNat,⟨d,rfl,li,fun j e hj he => ?_⟩,?_⟩
  ·obtain ⟨i,y,hi,hy,h1⟩:=lcc j e hj he
   have:=soI hy hx hi
   omega
  clear li lcc
  rintro last _ ⟨d,rfl,li,lx⟩
  refine ⟨fun cc=>(cc=true ↔ ∃ e,E[d]? = some e ∧ e.en < x.be),?_,?_⟩
  ·refine ⟨fun hlt2=>⟨by omega,fun _=>⟨haE (by omega),fun _ => ?_⟩⟩,fun hge => ?_⟩
   ·obtain ⟨e,he⟩ : ∃ e,E[d]? = some e:=⟨_,List.getElem?_eq_getElem (by omega)⟩
    have key:(decide (e.en < x.be)=true ↔ ∃ e,E[d]? = some e ∧ e.en < x.be):=by
     rw [decide_eq_true_eq]
     exact ⟨fun h=>⟨e,he,h⟩,fun ⟨e',he',h⟩=>by rw [he] at he'; cases he'; exact h⟩
    exact ⟨e.en,ldDE rdE he,key⟩
   ·have key:(false=true ↔ ∃ e,E[d]? = some e ∧ e.en < x.be):=⟨fun h=>(by cases h),fun ⟨e,he,_⟩=>by
     have:=(List.getElem?_eq_some_iff.1 he).1
     omega⟩
    exact key
  ·rintro cc hc
   refine ⟨fun h1 => ?_,fun h1 => ?_⟩
   ·obtain ⟨e,he,hlt3⟩:=hc.1 h1
    have hd:=(List.getElem?_eq_some_iff.1 he).1
    refine ⟨by omega,fun _=>⟨by omega,fun _=>⟨haE (by omega),fun _=>⟨e.id.1,e.id.2.1,e.id.2.2,ldD3 rdE he,_,q0 e.id,inI64D _ (by omega) (by omega),fun _=>⟨⟨d + 1,by omega,⟨by omega,fun j y hj hy => ?_,.inr ?_⟩,fun j y hj hy => ?_⟩,by dsimp only; omega⟩⟩⟩⟩⟩
    ·rcases Nat.lt_or_eq_of_le (Nat.le_of_lt_succ hj) with h | h
     ·have:=li.up j y h hy; omega
     ·subst h; rw [he] at hy; cases hy; omega
    ·rcases Int.le_total last (fz f e.id) with h | h
     ·exact ⟨d,e,by omega,he,by omega⟩
     ·rcases li.is with h2 | ⟨j,y,hj,hy,h2⟩
      ·have:0 ≤ fz f e.id:=by unfold fz; omega
       omega
      ·exact ⟨j,y,by omega,hy,by omega⟩
    ·rcases Nat.lt_or_eq_of_le (Nat.le_of_lt_succ hj) with h | h
     ·exact lx j y h hy
     ·subst h; rw [he] at hy; cases hy; exact hlt3
   ·have hno : ∀ (j:Nat) (e:DeedE),E[j]? = some e → e.en < x.be → j < d:=fun j e he h=>by
     rcases Nat.lt_or_ge j d with h2 | h2
     ·exact h2
     ·exfalso
      refine h1 (hc.2 ?_)
      have hjl:=(List.getElem?_eq_some_iff.1 he).1
      obtain ⟨y,hy⟩ : ∃ y,E[d]? = some y:=⟨_,List.getElem?_eq_getElem (by omega)⟩
      refine ⟨y,hy,?_⟩
      rcases Nat.lt_or_eq_of_le h2 with h3 | h3
      ·have:=soE hy he h3; omega
      ·subst h3; rw [hy] at he; cases he; exact h
    refine ⟨_,q0 x.id,⟨fun h2 => .of fun R h H=>⟨?_,H⟩,fun h2=>⟨inI64D _ (by omega) (by omega),fun _=>⟨⟨k' + 1,d,by omega,rfl,rfl,by omega,li,fun j e hj he=>⟨k',x,by omega,hx,lx j e hj he⟩,fun i y hi hy e he hlt4 => ?_⟩,by dsimp only; omega⟩⟩⟩⟩
    ·have h0:0 ≤ fz f x.id:=by unfold fz; omega
     obtain ⟨j,e,hj,he,h3⟩:=li.is.resolve_left (by omega)
     have hxI:=(mI x).1 (List.mem_of_getElem? hx)
     have heE:=(mE e).1 (List.mem_of_getElem? he)
     have heI:=(mI e).1 heE.1
     have:lateS f (es.map DeedE.p)=true:=by
      unfold lateS
      rw [@decide_eq_true_eq _ (Classical.propDecidable _)]
      obtain ⟨i1,hi1⟩:=Option.isSome_iff_exists.1 hxI.2
      obtain ⟨j1,hj1⟩:=Option.isSome_iff_exists.1 heI.2
      refine ⟨x.p,List.mem_map.2 ⟨x,hxI.1,rfl⟩,e.p,List.mem_map.2 ⟨e,heI.1,rfl⟩,i1,j1,hi1,hj1,heE.2,lx j e hj he,?_⟩
      unfold fz at h2 h3
      rw [hi1] at h2; rw [hj1] at h3
      simp only [Option.getD_some] at h2 h3
      omega
     rw [this]
    ·rcases Nat.lt_or_eq_of_le (Nat.le_of_lt_succ hi) with h | h
     ·exact ln i y h hy e he hlt4
     ·subst h
      rw [hx] at hy; cases hy
      obtain ⟨j,hj⟩:=List.mem_iff_getElem?.1 he
      have:=li.up j e (hno j e hj hlt4) hj
      omega
 ·have hke:k'=I.length:=by omega
  subst hke
  have:lateS f (es.map DeedE.p)=false:=by
   unfold lateS
   rw [@decide_eq_false_iff_not _ (Classical.propDecidable _)]
   rintro ⟨d',hd',e',he',i,j,h1,h2,h3,h4,h5⟩
   obtain ⟨x,hx,rfl⟩:=List.mem_map.1 hd'
   obtain ⟨e,he,rfl⟩:=List.mem_map.1 he'
   have h1':f x.id=some i:=h1
   have h2':f e.id=some j:=h2
   have xI:=(mI x).2 ⟨hx,by rw [h1']; rfl⟩
   have eE:=(mE e).2 ⟨(mI e).2 ⟨he,by rw [h2']; rfl⟩,h3⟩
   obtain ⟨q,hq⟩:=List.mem_iff_getElem?.1 xI
   refine ln q x (List.getElem?_eq_some_iff.1 hq).1 hq e eE h4 ?_
   unfold fz
   rw [h1',h2']
   simp only [Option.getD_some]
   omega
  rw [this]
end Go.Proofs.YtdieogcemmnaaaaGreatDoor

namespace Go.Proofs.YtdieogcemmnaaaaGreatDoor
set_option linter.unusedSimpArgs false
set_option linter.unusedVariables false
open Go.Proofs.YtdieogcemmnaaaaGreatDoor RX
set_option maxRecDepth 100000
structure AnsE where
 m:AnsM
 da:Option Addr
 dc:Nat
 na:Option Addr
 nc:Nat
abbrev AnsE.vals (x:AnsE):List Value:=[.int .i64 x.m.err,.int .i64 x.m.kind,.int .i64 x.m.size,.int .i64 x.m.links,.slice x.da x.m.data.length x.dc,.slice x.na x.m.names.length x.nc]
def AnsE.ro (x:AnsE):HP:=HP.and (x.m.names.length ≤ 1000000) (HP.both (RoB x.da x.m.data.length x.m.data) (RoS x.na x.m.names.length x.m.names))
theorem AnsE.pers (x:AnsE) {R h h':PH} (H:x.ro.p R h):x.ro.p R h':=⟨H.1,H.2.1,H.2.2⟩
def kAnsP:PK AnsE where
 e:=31
 n:=6
 pos:=by decide
 vals:=AnsE.vals
 len _:=rfl
 one x u hu:=by
  simp only [AnsE.vals,List.mem_cons,List.not_mem_nil,or_false] at hu
  rcases hu with rfl | rfl | rfl | rfl | rfl | rfl <;> rfl
 rep:=AnsE.ro
def DeedE.a (x:DeedE):AnsE:=⟨x.ans,x.da,x.dc,x.na,x.nc⟩
theorem infoA:(Tryz.prog.info? 31).map (fun i=>(i.zero,i.size,i.bytes))=some (some ans0,6,80):=by kernel_rfl
theorem infoAp : ∃ i,Tryz.prog.info? 31=some i ∧ i.zero=some ans0 ∧ ans0.cells.size=i.size ∧ i.size=6 ∧ i.bytes=80:=by
 obtain ⟨i,hi,hz⟩:=Option.map_eq_some_iff.1 infoA
 simp only [Prod.mk.injEq] at hz
 exact ⟨i,hi,hz.1,by rw [hz.2.1]; rfl,hz.2⟩
theorem undAs:Tryz.prog.underlying 196=some (.slice 31):=by kernel_rfl
theorem undAn : ∃ d,Tryz.prog.underlying 31=some d:=Option.isSome_iff_exists.1 (by kernel_rfl)
theorem aggAn:aggT Tryz.prog 31=true:=by kernel_rfl
theorem szAn:szT Tryz.prog 31=6:=by kernel_rfl
def CB (b:Nat) (y:AnsM) (da:Option Addr) (dc:Nat) (na:Option Addr) (nc:Nat) (D N:HP):HP:=HP.sep (HP.one b (.cells #[.int .i64 y.err,.int .i64 y.kind,.int .i64 y.size,.int .i64 y.links,.slice da y.data.length dc,.slice na y.names.length nc] 31 (0,0))) (HP.sep D N)
theorem check1_ok (x:AnsE) (b:Nat) (y:AnsM) (da:Option Addr) (dc:Nat) (na:Option Addr) (nc:Nat) (DX NX D N:HP) (hX:RdL DX x.da x.m.data.length (x.m.data.map u8v)) (hY:RdL NX x.na x.m.names.length (x.m.names.map sE)) (hD:RdL D da y.data.length (y.data.map u8v)) (hN:RdL N na y.names.length (y.names.map sE)) (hb:x.m.names.length ≤ 1000000) :
  Tri Tryz.prog 113 #[.agg x.vals.toArray,.pointer (some ⟨b,0,none⟩)] (HP.sep DX (HP.sep NX (CB b y da dc na nc D N))) (fun v=>HP.and (v = .bool (decide (x.m ≠ y))) (HP.sep DX (HP.sep NX (CB b y da dc na nc D N)))):=by
 refine tri_of_tree (ρ:=[.i x.m.err,.i x.m.kind,.i x.m.size,.i x.m.links,.a x.da,.n x.m.data.length,.n x.dc,.p DX,.a x.na,.n x.m.names.length,.n x.nc,.p NX,.n b,.i y.err,.i y.kind,.i y.size,.i y.links,.a da,.n y.data.length,.n dc,.p D,.a na,.n y.names.length,.n nc,.p N]) mixed Tryz.func113 tree_jCheck1 ?_
 unfold t_jCheck1
 simp only [T.den,E.prop,E.den,RX.look,F1.app,F2.app,Uni.int_i,Uni.nat_n,Uni.bool_c,Uni.str_s,Uni.adr_a,Uni.val_v,Uni.hp_p,hden,cden,V.den,W.den,A.den,BR.den,SA.den,FV.den,capV,exs,exP,allP,Cur.app,List.map_cons,List.map_nil,List.cons_append,List.nil_append,List.drop_succ_cons,List.drop_zero,List.length_cons,List.length_nil,Nat.zero_add,Nat.reduceAdd,Int.neg_neg,Bool.not_not,List.append_nil,Nat.add_zero,List.getElem?_cons_zero,List.getElem?_cons_succ,Decidable.not_not,semW_eq,ne_eq,Nat.reduceEqDiff,not_false_eq_true]
 intro _
 refine (jSame_ok x.m y x.da x.dc x.na x.nc da dc na nc DX NX D N hX hY hD hN (by omega)).weak (fun _ _ h=>h) ?_
 rintro v R h ⟨rfl,H⟩
 refine ⟨_,rfl,.of fun R h H=>⟨?_,H⟩,H⟩
 by_cases e:x.m=y <;> simp [e]
theorem fgoCk:Fgo Tryz.prog 113:=⟨_,Tryz.func113,by kernel_rfl,by kernel_rfl⟩
theorem check1_v (x:AnsE) (b:Nat) (y:AnsM) (da:Option Addr) (dc:Nat) (na:Option Addr) (nc:Nat) (D N:HP) (hD:RdL D da y.data.length (y.data.map u8v)) (hN:RdL N na y.names.length (y.names.map sE)) (Q:HP) (hQ : ∀ R h,Q.p R h → x.ro.p R h) :
  VTri Tryz.prog (.func (.func 113) #[] #[.pointer (some ⟨b,0,none⟩)]) #[.agg x.vals.toArray] (HP.sep (CB b y da dc na nc D N) Q) (fun v=>HP.and (v = .bool (decide (x.m ≠ y))) (HP.sep (CB b y da dc na nc D N) Q)):=by
 refine .inl ⟨_,_,rfl,fgoCk,?_⟩
 refine Tri.fact (φ:=x.m.names.length ≤ 1000000) (fun R h H=>(hQ _ _ (HP.sep_right H)).1) fun hb => ?_
 refine (check1_ok x b y da dc na nc (RoB x.da x.m.data.length x.m.data) (RoS x.na x.m.names.length x.m.names) D N (RdL.ro _ _ _ _) (RdL.ro _ _ _ _) hD hN hb).conseq (K:=Q) (.of fun R h H => ?_) fun v => .of fun R h H => ?_
 ·have hro:=hQ _ _ (HP.sep_right H)
  have:=RoC.join hro.2.1 (RoC.join hro.2.2 H)
  exact HP.sep_assoc' (HP.sep_mono this (fun _ h=>h) fun z hz=>HP.sep_assoc' hz)
 ·obtain ⟨⟨e,_⟩,_⟩:(HP.and (v = .bool (decide (x.m ≠ y))) (HP.sep (RoB x.da x.m.data.length x.m.data) (HP.sep (RoS x.na x.m.names.length x.m.names) (CB b y da dc na nc D N)))).p R h ∧ True:=⟨HP.sep_left H,trivial⟩
  refine ⟨e,HP.sep_mono H (fun z hz=>HP.sep_right (HP.sep_right hz.2)) fun _ h=>h⟩
theorem ldA {a:Option Addr} {n c:Nat} {l:List AnsE} {k:Nat} {x:AnsE} (hk:l[k]? = some x):ORead Tryz.prog (loadS 31 (.pointer (a.map fun y=>(y.add (k * 6)).add 0))) (PL kAnsP a n c l) (.agg x.vals.toArray):=by
 obtain ⟨d,hd⟩:=undAn
 refine loadN_ok (vs:=x.vals) hd aggAn (PL.rd a n c l) (k:=k * 6) (off:=0) szAn (Nat.succ_pos _) fun j v hj => ?_
 have hlt:j < 6:=(List.getElem?_eq_some_iff.1 hj).1
 rw [Nat.add_zero]
 refine (flat_getL kAnsP.vals 6 kAnsP.len l k j x hk hlt).trans ?_
 exact hj
theorem PL.mem {a:Option Addr} {n c:Nat} {l:List AnsE} {x:AnsE} (hx:x ∈ l) {R h:PH} (H:(PL kAnsP a n c l).p R h):x.ro.p R h:=sepN_mem (List.mem_map.2 ⟨x,hx,rfl⟩) (HP.sep_right H.2)
structure AnsRd (Q:HP) (a:Option Addr) (n:Nat) (l:List AnsE):Prop where
 len:l.length=n
 is:n ≠ 0 → a.isSome=true
 ld : ∀ (k:Nat) (x:AnsE),l[k]? = some x → ORead Tryz.prog (loadS 31 (.pointer (a.map fun y=>(y.add (k * 6)).add 0))) Q (.agg x.vals.toArray)
 ro : ∀ x ∈ l,∀ R h,Q.p R h → x.ro.p R h
set_option maxHeartbeats 1000000 in
theorem indexA_ok (a:Option Addr) (n c:Nat) (l:List AnsE) (Q:HP) (ar:AnsRd Q a n l) (hn:n ≤ 1000000) (b:Nat) (y:AnsM) (da:Option Addr) (dc:Nat) (na:Option Addr) (nc:Nat) (D N:HP) (hD:RdL D da y.data.length (y.data.map u8v)) (hN:RdL N na y.names.length (y.names.map sE)) :
  Tri Tryz.prog 170 #[.slice a n c,.func (.func 113) #[] #[.pointer (some ⟨b,0,none⟩)]] (HP.sep Q (CB b y da dc na nc D N))
   (fun v=>HP.ex fun k:Int=>HP.and (v = .int .i64 k ∧ (0 ≤ k ↔ l.any (fun x=>decide (x.m ≠ y))=true)) (HP.sep Q (CB b y da dc na nc D N))):=by
 have hl:=ar.len
 refine tri_of_tree (ρ:=[.a a,.n n,.n c,.p Q,.v (.func (.func 113) #[] #[.pointer (some ⟨b,0,none⟩)]),.p (CB b y da dc na nc D N)]) mixed Tryz.func170 tree_jIndexFunc ?_
 unfold t_jIndexFunc
 simp only [T.den,E.prop,E.den,RX.look,F1.app,F2.app,Uni.int_i,Uni.nat_n,Uni.bool_c,Uni.str_s,Uni.adr_a,Uni.val_v,Uni.hp_p,hden,cden,V.den,W.den,A.den,BR.den,SA.den,FV.den,capV,exs,exP,allP,Cur.app,List.map_cons,List.map_nil,List.cons_append,List.nil_append,List.drop_succ_cons,List.drop_zero,List.length_cons,List.length_nil,Nat.zero_add,Nat.reduceAdd,Int.neg_neg,Bool.not_not,List.append_nil,Nat.add_zero,List.getElem?_cons_zero,List.getElem?_cons_succ,Decidable.not_not,semW_eq,semW_load,ne_eq,Nat.reduceEqDiff,not_false_eq_true]
 refine ⟨fun _ i P => ∃ k:Nat,i=k ∧ k ≤ n ∧ P=CB b y da dc na nc D N ∧ ∀ (j:Nat) (x:AnsE),j < k → l[j]? = some x → x.m=y,fun _ i _=>n - i.toNat,⟨0,rfl,Nat.zero_le _,rfl,fun j x hj=>absurd hj (by omega)⟩,?_⟩
 rintro _ _ _ ⟨k,rfl,hk,rfl,hp⟩
 refine ⟨fun hlt=>⟨by omega,fun _=>⟨ar.is (by omega),fun _ => ?_⟩⟩,fun hge => .of fun R h H=>⟨-1,⟨rfl,⟨fun h=>absurd h (by decide),fun h => ?_⟩⟩,H⟩⟩
 ·obtain ⟨x,hx⟩ : ∃ x,l[k]? = some x:=⟨_,List.getElem?_eq_getElem (by omega)⟩
  have hxm:=List.mem_of_getElem? hx
  refine ⟨x.m.err,x.m.kind,x.m.size,x.m.links,x.da,x.m.data.length,x.dc,x.na,x.m.names.length,x.nc,ar.ld k x hx,?_⟩
  refine (check1_v x b y da dc na nc D N hD hN Q fun R h H=>ar.ro x hxm R h H).weak (fun _ _ h=>h) ?_
  rintro v R h ⟨rfl,H⟩
  refine ⟨_,_,rfl,⟨fun h1 => .of fun R h H=>⟨k,⟨rfl,⟨fun _ => ?_,fun _=>by omega⟩⟩,H⟩,fun h1=>⟨inI64D _ (by omega) (by omega),fun _=>⟨⟨k + 1,by omega,by omega,rfl,fun j z hj hz => ?_⟩,by dsimp only; omega⟩⟩⟩,H⟩
  ·rw [List.any_eq_true]; exact ⟨x,hxm,h1⟩
  ·rcases Nat.lt_or_eq_of_le (Nat.le_of_lt_succ hj) with h | h
   ·exact hp j z h hz
   ·subst h; rw [hx] at hz; cases hz; simpa using h1
 ·rw [List.any_eq_true] at h
  obtain ⟨x,hx,h⟩:=h
  obtain ⟨j,hj⟩:=List.mem_iff_getElem?.1 hx
  have hjl:=(List.getElem?_eq_some_iff.1 hj).1
  rw [decide_eq_true_eq] at h
  exact absurd (hp j x (by omega) hj) h
theorem containsA_ok (a:Option Addr) (n c:Nat) (l:List AnsE) (Q:HP) (ar:AnsRd Q a n l) (hn:n ≤ 1000000) (b:Nat) (y:AnsM) (da:Option Addr) (dc:Nat) (na:Option Addr) (nc:Nat) (D N:HP) (hD:RdL D da y.data.length (y.data.map u8v)) (hN:RdL N na y.names.length (y.names.map sE)) :
  Tri Tryz.prog 115 #[.slice a n c,.func (.func 113) #[] #[.pointer (some ⟨b,0,none⟩)]] (HP.sep Q (CB b y da dc na nc D N))
   (fun v=>HP.and (v = .bool (l.any fun x=>decide (x.m ≠ y))) (HP.sep Q (CB b y da dc na nc D N))):=by
 refine tri_of_tree (ρ:=[.a a,.n n,.n c,.p Q,.v (.func (.func 113) #[] #[.pointer (some ⟨b,0,none⟩)]),.p (CB b y da dc na nc D N)]) mixed Tryz.func115 tree_jContainsFunc ?_
 unfold t_jContainsFunc
 simp only [T.den,E.prop,E.den,RX.look,F1.app,F2.app,Uni.int_i,Uni.nat_n,Uni.bool_c,Uni.str_s,Uni.adr_a,Uni.val_v,Uni.hp_p,hden,cden,V.den,W.den,A.den,BR.den,SA.den,FV.den,capV,exs,exP,allP,Cur.app,List.map_cons,List.map_nil,List.cons_append,List.nil_append,List.drop_succ_cons,List.drop_zero,List.length_cons,List.length_nil,Nat.zero_add,Nat.reduceAdd,Int.neg_neg,Bool.not_not,List.append_nil,Nat.add_zero,List.getElem?_cons_zero,List.getElem?_cons_succ,Decidable.not_not,semW_eq,ne_eq,Nat.reduceEqDiff,not_false_eq_true]
 refine (indexA_ok a n c l Q ar hn b y da dc na nc D N hD hN).weak (fun _ _ h=>h) ?_
 rintro v R h ⟨k,⟨rfl,hk⟩,H⟩
 refine ⟨k,_,_,rfl,.of fun R h H=>⟨?_,H⟩,H⟩
 show Value.bool _=Value.bool _
 congr 1
 rw [Bool.eq_iff_iff,decide_eq_true_eq]
 exact hk
section
variable {κ:Type} [DecidableEq κ]
theorem alDel_none (k:κ) : ∀ l:AL κ,alFind k l=none → alDel k l=l
 | [],_=>rfl
 | x :: l,h=>by
  simp only [alFind] at h
  split at h
  ·cases h
  ·rename_i e; simp only [alDel,if_neg e]; rw [alDel_none k l h]
theorem alx_perm (k:κ) (c:Nat) : ∀ (l:AL κ) (v:Value),alFind k l=some v → l.Perm ((k,v,alBorn k c l) :: alDel k l)
 | [],_,h=>by cases h
 | x :: l,v,h=>by
  simp only [alFind] at h
  split at h
  ·rename_i e
   cases h
   subst e
   simp only [alDel,alBorn,if_pos]
   exact List.Perm.refl _
  ·rename_i e
   simp only [alDel,alBorn,if_neg e]
   exact ((alx_perm k c l v h).cons x).trans (List.Perm.swap _ _ _)
theorem alDel_put (k:κ) (v:Value) (c:Nat) : ∀ l:AL κ,alDel k (alPut k v c l)=alDel k l
 | []=>by simp [alPut,alDel]
 | x :: l=>by
  simp only [alPut]
  split
  ·rename_i e; simp [alDel,e]
  ·rename_i e; simp only [alDel,if_neg e]; rw [alDel_put k v c l]
theorem alBorn_put (k:κ) (v:Value) (c c':Nat) : ∀ l:AL κ,alBorn k c' (alPut k v c l)=alBorn k c l
 | []=>by simp [alPut,alBorn]
 | x :: l=>by
  simp only [alPut]
  split
  ·rename_i e; simp [alBorn,e]
  ·rename_i e; simp only [alBorn,if_neg e]; rw [alBorn_put k v c c' l]
theorem alDel_ne {k:κ} {l:AL κ} (h:(l.map (·.1)).Nodup) {y:κ × Value × Nat} (hy:y ∈ alDel k l):y.1 ≠ k:=fun e=>by
 have h1:=alFind_del k k l h
 rw [if_pos rfl] at h1
 have h2:(alFind k (alDel k l)).isSome=true:=(alFind_isSome k _).2 (List.mem_map.2 ⟨y,hy,e⟩)
 rw [h1] at h2; cases h2
end
def tPart (f:IdM → List AnsE) (y:IdM × Value × Nat):HP:=HP.ex fun a=>HP.ex fun c=>HP.and (y.2.1 = .slice a (f y.1).length c) (PL kAnsP a (f y.1).length c (f y.1))
def TMl (r:Nat) (f:IdM → List AnsE) (l:AL IdM) (c:Nat):HP:=HP.and (MapI l c ∧ ∀ k,alFind k l=none ↔ f k=[]) (HP.sep (HP.one r (mapObj idV l c)) (sepN (l.map (tPart f))))
def TM (r:Nat) (f:IdM → List AnsE):HP:=HP.ex fun l=>HP.ex fun c=>TMl r f l c
def TH (r:Nat) (f:IdM → List AnsE) (k:IdM) (b:Nat):HP:=HP.ex fun l=>HP.ex fun c=>HP.and (MapI l c ∧ (alFind k l).isSome=true ∧ alBorn k c l=b ∧ ∀ k',k' ≠ k → (alFind k' l=none ↔ f k'=[])) (HP.sep (HP.one r (mapObj idV l c)) (sepN ((alDel k l).map (tPart f))))
theorem TM.new (r:Nat) {R h:PH} (H:(HP.one r (.map #[] 0)).p R h):(TM r fun _=>[]).p R h:=⟨[],0,⟨MapI.nil 0,fun k=>⟨fun _=>rfl,fun _=>rfl⟩⟩,HP.sep_tt H⟩
theorem undT:Tryz.prog.underlying 191=some (.map 57 196):=by kernel_rfl
theorem infoAs : ∃ i,Tryz.prog.info? 196=some i ∧ i.zero=some (.slice none 0 0):=by
 have h:(Tryz.prog.info? 196).map (fun i=>i.zero)=some (some (.slice none 0 0)):=by kernel_rfl
 obtain ⟨i,hi,hz⟩:=Option.map_eq_some_iff.1 h
 exact ⟨i,hi,hz⟩
theorem PL.none0 {R h:PH}:(PL kAnsP none 0 0 []).p R h:=⟨rfl,HP.sep_tt (OwC.nil _ _ R h)⟩
theorem tpart_find {r:Nat} {f:IdM → List AnsE} {l:AL IdM} {c:Nat} {k:IdM} {v:Value} (hf:alFind k l=some v) (hI:MapI l c) {R h:PH} (H:(sepN (l.map (tPart f))).p R h):(HP.sep (tPart f (k,v,alBorn k c l)) (sepN ((alDel k l).map (tPart f)))).p R h :=
 sepN_cons.1 (sepN_perm ((alx_perm k c l v hf).map (tPart f)) H)
set_option maxHeartbeats 1000000 in
theorem told_entry (r:Nat) (f:IdM → List AnsE) (k:IdM):OTri Tryz.prog (mapES 191 (.map (some r)) (idV k)) (TM r f)
  (fun v=>HP.ex fun a=>HP.ex fun c=>HP.ex fun b:Nat=>HP.and (v = .tuple #[.slice a (f k).length c,goInt (b:Nat)]) (HP.sep (PL kAnsP a (f k).length c (f k)) (TH r f k b))):=by
 refine OTri.exI fun l=>OTri.exI fun c=>OTri.pureI fun ⟨hI,hf⟩ => ?_
 obtain ⟨i,hi,hz⟩:=infoAs
 refine ((mapEntry_ok (c:=c) (l:=l) idK undT hi hz (r:=r) k).frame (sepN (l.map (tPart f)))).weak (fun _ _ h=>h) ?_
 intro v R h H
 cases hk:alFind k l with
 | none =>
  rw [hk] at H
  obtain ⟨e,_⟩:=HP.sep_left H
  have hfk:=(hf k).1 hk
  refine ⟨none,0,alBorn k c l,?_,?_⟩
  ·rw [hfk]; exact e
  ·rw [hfk]
   refine HP.sep_mono (HP.tt_sep H) (fun _ _=>PL.none0) fun z hz=>⟨_,_,⟨hI.put k _,by rw [alFind_put,if_pos rfl]; rfl,alBorn_put _ _ _ _ _,fun k' hne => ?_⟩,HP.sep_mono hz (fun _ h=>h.2) fun u hu => ?_⟩
   ·rw [alFind_put,if_neg hne]; exact hf k'
   ·rw [alDel_put,alDel_none k l hk]; exact hu
 | some u =>
  rw [hk] at H
  obtain ⟨h1,h2,d,l1,l2,⟨e,HA⟩,HB⟩:=H
  have HB':=tpart_find (c:=c) (r:=r) hk hI HB
  obtain ⟨h3,h4,d2,l3,l4,⟨a,cc,e2,HP1⟩,HR⟩:=HB'
  simp only at e2 HP1
  refine ⟨a,cc,alBorn k c l,?_,?_⟩
  ·rw [e,e2]; rfl
  ·have d3:=d.le (PH.le.refl _) l4
   have H0:(HP.sep (HP.one r (mapObj idV (alPut k u c l) (alClock k l c))) (HP.sep (PL kAnsP a (f k).length cc (f k)) (sepN ((alDel k l).map (tPart f))))).p R h:=⟨h1,h2,d,l1,l2,HA,h3,h4,d2,l3,l4,HP1,HR⟩
   refine HP.sep_mono (HP.swap H0) (fun _ h=>h) fun z hz => ?_
   ·refine ⟨_,_,⟨hI.put k _,by rw [alFind_put,if_pos rfl]; rfl,alBorn_put _ _ _ _ _,fun k' hne => ?_⟩,HP.sep_mono hz (fun _ h=>h) fun u hu => ?_⟩
    ·rw [alFind_put,if_neg hne]; exact hf k'
    ·rw [alDel_put]; exact hu
def putL (f:IdM → List AnsE) (k:IdM) (xs:List AnsE):IdM → List AnsE:=fun k'=>if k'=k then xs else f k'
theorem told_store (r:Nat) (f:IdM → List AnsE) (k:IdM) (b:Nat) (a:Option Addr) (n c:Nat) (xs:List AnsE) (hn:xs ≠ []):OTri Tryz.prog (estS 191 (.map (some r)) (goInt b) (.slice a n c)) (HP.sep (TH r f k b) (PL kAnsP a n c xs))
  (fun v=>HP.and (v = .tuple #[]) (TM r (putL f k xs))):=by
 refine OTri.fact (φ:=xs.length=n) (fun R h H=>(HP.sep_right H).1) fun hl => ?_
 refine (OTri.exI (A:=fun l=>HP.ex fun c'=>HP.sep (HP.and (MapI l c' ∧ (alFind k l).isSome=true ∧ alBorn k c' l=b ∧ ∀ k',k' ≠ k → (alFind k' l=none ↔ f k'=[])) (HP.sep (HP.one r (mapObj idV l c')) (sepN ((alDel k l).map (tPart f))))) (PL kAnsP a n c xs)) fun l=>OTri.exI fun c' => ?_).weak (fun R h ⟨h1,h2,d,l1,l2,⟨l,c',H1⟩,H2⟩=>⟨l,c',h1,h2,d,l1,l2,H1,H2⟩) fun _ _ _ h=>h
 refine OTri.fact (φ:=MapI l c' ∧ (alFind k l).isSome=true ∧ alBorn k c' l=b ∧ ∀ k',k' ≠ k → (alFind k' l=none ↔ f k'=[])) (fun R h H=>(HP.sep_left H).1) fun ⟨hI,hs,hb,hf⟩ => ?_
 subst hb
 refine ((entryStore_ok (t:=191) (enc:=idV) (r:=r) (c:=c') (l:=l) hI.2 k (.slice a n c) hs).frame (HP.sep (sepN ((alDel k l).map (tPart f))) (PL kAnsP a n c xs))).weak (fun R h H=>HP.sep_assoc (HP.sep_mono H (fun _ h=>h.2) fun _ h=>h)) ?_
 intro v R h H
 obtain ⟨e,_⟩:=HP.sep_left H
 have hI2:=hI.put k (.slice a n c)
 have hck:alClock k l c'=c':=by unfold alClock; rw [if_pos hs]
 rw [hck] at hI2
 refine ⟨e,alPut k (.slice a n c) c' l,c',⟨hI2,fun k' => ?_⟩,HP.sep_mono H (fun _ h=>h.2) fun z hz => ?_⟩
 ·rw [alFind_put]
  unfold putL
  by_cases hk:k'=k
  ·rw [if_pos hk,if_pos hk]; simp [hn]
  ·rw [if_neg hk,if_neg hk]; exact hf k' hk
 ·have hp:=alx_perm k c' (alPut k (.slice a n c) c' l) (.slice a n c) (by rw [alFind_put,if_pos rfl])
  refine sepN_perm (hp.map _).symm (sepN_cons.2 (HP.sep_comm (HP.sep_mono hz (fun u hu => ?_) fun u hu=>⟨a,c,?_,?_⟩)))
  ·rw [alDel_put]
   have:(alDel k l).map (tPart (putL f k xs))=(alDel k l).map (tPart f):=List.map_congr_left fun y hy=>by
    have hne:=alDel_ne hI.1 hy
    unfold tPart putL
    rw [if_neg hne]
   rw [this]; exact hu
  ·show Value.slice a n c=_
   unfold putL; rw [if_pos rfl,hl]
  ·show (PL kAnsP a (putL f k xs k).length c (putL f k xs k)).p R u
   unfold putL; rw [if_pos rfl,hl]; exact hu
structure TQ (P:HP) (r:Nat) (f:IdM → List AnsE):Prop where
 look : ∀ k,∃ a cc,ORead Tryz.prog (lookS 191 (.map (some r)) (idV k) false) P (.slice a (f k).length cc) ∧ AnsRd P a (f k).length (f k)
 ent:HP.ent P (TM r f)
theorem TQ.new (r:Nat):TQ (HP.one r (.map #[] 0)) r fun _=>[] where
 look k:=by
  obtain ⟨i,hi,hz⟩:=infoAs
  exact ⟨none,0,look_ok (c:=0) (l:=[]) (r:=r) idK undT hi hz k false (A:=HP.one r (.map #[] 0)) fun R h H=>H,⟨rfl,fun h=>absurd rfl h,fun k x h=>by simp at h,fun x h=>by cases h⟩⟩
 ent := .of fun R h H=>TM.new r H
theorem TQ.of {r:Nat} {f:IdM → List AnsE} {l:AL IdM} {c:Nat} {R h:PH} (H:(TMl r f l c).p R h):TQ (TMl r f l c) r f where
 look k:=by
  obtain ⟨⟨hI,hf⟩,H⟩:=H
  obtain ⟨i,hi,hz⟩:=infoAs
  have hlk:=look_ok (c:=c) (l:=l) (r:=r) idK undT hi hz k false (A:=TMl r f l c) fun R h H=>HP.sep_left H.2
  cases hk:alFind k l with
  | none =>
   have hfk:=(hf k).1 hk
   rw [hk] at hlk
   rw [hfk]
   exact ⟨none,0,hlk,⟨rfl,fun h=>absurd rfl h,fun k x h=>by simp at h,fun x h=>by cases h⟩⟩
  | some u =>
   obtain ⟨a,cc,e,H1⟩:=HP.sep_left (tpart_find (c:=c) (r:=r) hk hI (HP.sep_right H))
   simp only at e H1
   rw [hk,e] at hlk
   have hpl:HP.ent (TMl r f l c) (PL kAnsP a (f k).length cc (f k)) := .of fun R' h' H'=>by
    obtain ⟨h1,h2,d,l1,l2,⟨a',cc',e',H1⟩,_⟩:=tpart_find (c:=c) (r:=r) hk hI (HP.sep_right H'.2)
    simp only at e' H1
    rw [e] at e'
    cases e'
    exact (PL kAnsP a (f k).length cc (f k)).mono (PH.le.refl _) l1 H1
   refine ⟨a,cc,hlk,⟨rfl,fun hn=>PL.isAt H1 hn,fun j x hx=>(ldA hx).ent hpl,fun x hx R' h' H' => ?_⟩⟩
   obtain ⟨h1,h2,d,l1,l2,⟨a',cc',e',H1⟩,_⟩:=tpart_find (c:=c) (r:=r) hk hI (HP.sep_right H'.2)
   exact x.pers (PL.mem hx H1)
 ent := .of fun R h H=>⟨l,c,H⟩
end Go.Proofs.YtdieogcemmnaaaaGreatDoor

namespace Go.Proofs.YtdieogcemmnaaaaGreatDoor
open Go.Proofs.YtdieogcemmnaaaaGreatDoor RX
set_option maxRecDepth 100000
def BMl (r:Nat) (g:BegM → Nat) (l:AL BegM) (c:Nat):HP:=HP.and (MapI l c ∧ ∀ k,(alFind k l).getD (.int .i64 0) = .int .i64 (g k:Nat)) (HP.one r (mapObj begV l c))
def BM (r:Nat) (g:BegM → Nat):HP:=HP.ex fun l=>HP.ex fun c=>BMl r g l c
def BH (r:Nat) (g:BegM → Nat) (k:BegM) (b:Nat):HP:=HP.ex fun l=>HP.ex fun c=>HP.and (MapI l c ∧ (∀ k,(alFind k l).getD (.int .i64 0) = .int .i64 (g k:Nat)) ∧ (alFind k l).isSome=true ∧ alBorn k c l=b) (HP.one r (mapObj begV l c))
theorem BM.new (r:Nat) {R h:PH} (H:(HP.one r (.map #[] 0)).p R h):(BM r fun _=>0).p R h:=⟨[],0,⟨MapI.nil 0,fun k=>rfl⟩,H⟩
theorem undB:Tryz.prog.underlying 190=some (.map 193 3):=by kernel_rfl
theorem lookBl {r:Nat} {g:BegM → Nat} {l:AL BegM} {c:Nat} (hg : ∀ k,(alFind k l).getD (.int .i64 0) = .int .i64 (g k:Nat)) (k:BegM) {A:HP} (hA : ∀ R h,A.p R h → h r=some (mapObj begV l c)):ORead Tryz.prog (lookS 190 (.map (some r)) (begV k) false) A (.int .i64 (g k:Nat)):=by
 obtain ⟨i,hi,hz⟩:=infoI1
 have:=look_ok (c:=c) (l:=l) (r:=r) begK undB hi hz k false (A:=A) hA
 rw [← hg k]
 exact this
theorem ORead.exI {P:Program} {s:Sem Next} {α:Type} {A:α → HP} {v:Value} (t : ∀ x,ORead P s (A x) v):ORead P s (HP.ex A) v:=fun w R h F st ⟨x,a⟩=>t x w R h F st a
theorem ORead.pureI {P:Program} {s:Sem Next} {A:HP} {φ:Prop} {v:Value} (t:φ → ORead P s A v):ORead P s (HP.and φ A) v:=fun w R h F st a=>t a.1 w R h F st a.2
theorem lookB {r:Nat} {g:BegM → Nat} (k:BegM):ORead Tryz.prog (lookS 190 (.map (some r)) (begV k) false) (BM r g) (.int .i64 (g k:Nat)) :=
 ORead.exI fun l=>ORead.exI fun c=>ORead.pureI fun ⟨_,hg⟩=>lookBl hg k fun _ _ h=>h
theorem lookBH {r:Nat} {g:BegM → Nat} {k':BegM} {b:Nat} (k:BegM):ORead Tryz.prog (lookS 190 (.map (some r)) (begV k) false) (BH r g k' b) (.int .i64 (g k:Nat)) :=
 ORead.exI fun l=>ORead.exI fun c=>ORead.pureI fun ⟨_,hg,_⟩=>lookBl hg k fun _ _ h=>h
theorem begun_entry (r:Nat) (g:BegM → Nat) (k:BegM):OTri Tryz.prog (mapES 190 (.map (some r)) (begV k)) (BM r g) (fun v=>HP.ex fun b:Nat=>HP.and (v = .tuple #[.int .i64 (g k:Nat),goInt (b:Nat)]) (BH r g k b)):=by
 refine OTri.exI fun l=>OTri.exI fun c=>OTri.pureI fun ⟨hI,hg⟩ => ?_
 obtain ⟨i,hi,hz⟩:=infoI1
 refine (mapEntry_ok (c:=c) (l:=l) begK undB hi hz (r:=r) k).weak (fun _ _ h=>h) ?_
 rintro v R h ⟨e,H⟩
 refine ⟨alBorn k c l,by rw [e,hg k],_,_,⟨hI.put k _,fun k' => ?_,by rw [alFind_put,if_pos rfl]; rfl,alBorn_put _ _ _ _ _⟩,H⟩
 rw [alFind_put]
 by_cases e:k'=k
 ·rw [if_pos e,e]; exact hg k
 ·rw [if_neg e]; exact hg k'
def addB (g:BegM → Nat) (k:BegM):BegM → Nat:=fun k'=>if k'=k then g k + 1 else g k'
theorem begun_store (r:Nat) (g:BegM → Nat) (k:BegM) (b:Nat) (x:Int) (hx:x=(g k:Nat) + 1):OTri Tryz.prog (estS 190 (.map (some r)) (goInt (b:Nat)) (.int .i64 x)) (BH r g k b) (fun v=>HP.and (v = .tuple #[]) (BM r (addB g k))):=by
 refine OTri.exI fun l=>OTri.exI fun c=>OTri.pureI fun ⟨hI,hg,hs,hb⟩ => ?_
 subst hb hx
 refine (entryStore_ok (t:=190) (enc:=begV) (r:=r) (c:=c) (l:=l) hI.2 k (.int .i64 ((g k:Nat) + 1)) hs).weak (fun _ _ h=>h) ?_
 rintro v R h ⟨e,H⟩
 have hI2:=hI.put k (.int .i64 ((g k:Nat) + 1))
 have hck:alClock k l c=c:=by unfold alClock; rw [if_pos hs]
 rw [hck] at hI2
 refine ⟨e,_,_,⟨hI2,fun k' => ?_⟩,H⟩
 rw [alFind_put]
 unfold addB
 by_cases e:k'=k
 ·rw [if_pos e,if_pos e]; simp
 ·rw [if_neg e,if_neg e]; exact hg k'
def FO (b:Nat) (l:List Bool):HP:=HP.one b (.cells (l.map Value.bool).toArray 189 (0,0))
theorem infoBl:(Tryz.prog.info? 4).map (fun i=>i.size)=some 1:=by kernel_rfl
theorem undBl : ∃ d,Tryz.prog.underlying 4=some d:=Option.isSome_iff_exists.1 (by kernel_rfl)
theorem foStore (b:Nat) (l:List Bool) (k:Nat) (hk:k < l.length) (x:Bool):OTri Tryz.prog (storeS 4 (.pointer (some ⟨b,k,none⟩)) (.bool x)) (FO b l) (fun v=>HP.and (v = .tuple #[]) (FO b (l.set k x))):=by
 obtain ⟨i,hi,hz⟩:=Option.map_eq_some_iff.1 infoBl
 refine (storeOne_ok hi 189 b (l.map Value.bool).toArray k (.bool x) [.bool x] rfl (by rw [hz]; rfl) (Nat.succ_pos _) (fun v hv=>by simp at hv; subst hv; rfl) (by simp; omega) (by unfold maxLen; omega)).weak (fun _ _ h=>h) ?_
 rintro v R h ⟨e,H⟩
 refine ⟨e,?_⟩
 unfold FO
 have:(l.set k x).map Value.bool=(l.map Value.bool).take k ++ [.bool x] ++ (l.map Value.bool).drop (k + 1):=by
  rw [List.map_set,List.set_eq_take_append_cons_drop,if_pos (by simpa using hk)]
  simp
 rw [this]
 exact H
theorem foLoad (b:Nat) (l:List Bool) (k:Nat) (x:Bool) (hk:l[k]? = some x):ORead Tryz.prog (loadS 4 (.pointer (some ⟨b,k,none⟩))) (FO b l) (.bool x):=by
 obtain ⟨d,hd⟩:=undBl
 have:=load1_ok (t:=4) hd (by kernel_rfl) (by kernel_rfl) (one_rd b (l.map Value.bool).toArray 189) (k:=0) (off:=k) (v := .bool x) (by simp [hk])
 simpa [addr_add,FO] using this
theorem undB6 : ∃ d,Tryz.prog.underlying 189=some d:=Option.isSome_iff_exists.1 (by kernel_rfl)
theorem foAll (b:Nat) (l:List Bool) (hl:l.length=6):ORead Tryz.prog (loadS 189 (.pointer (some ⟨b,0,none⟩))) (FO b l) (.agg (l.map Value.bool).toArray):=by
 obtain ⟨d,hd⟩:=undB6
 have:=loadN_ok (t:=189) hd (by kernel_rfl) (one_rd b (l.map Value.bool).toArray 189) (k:=0) (off:=0) (vs:=l.map Value.bool) (by rw [List.length_map,hl]; kernel_rfl) (by simp; omega) (fun j v hj=>by simpa using hj)
 simpa [addr_add,FO] using this
theorem foIndex {i j:Nat} {ty:TypeId} (hij:i ≠ j) (l:List Bool) (hl:l.length=6) (k:Nat) (x:Bool) (hk:l[k]? = some x) {A:HP}:ORead Tryz.prog (semW (.index 189 (.tmp i) (.tmp j)) ty [(i,.agg (l.map Value.bool).toArray),(j,.int .i64 (k:Int))]) A (.bool x):=fun w R h F s a=>by
 have h6:=(List.getElem?_eq_some_iff.1 hk).1
 have h':(i == j)=false:=by simpa using hij
 obtain ⟨d,hd⟩:=undBl
 obtain ⟨inf,hi,hz⟩:=Option.map_eq_some_iff.1 infoBl
 have u6:Tryz.prog.underlying 189=some (.array 6 4):=by kernel_rfl
 have hagg:aggT Tryz.prog 4=false:=by kernel_rfl
 have hsz:szT Tryz.prog 4=1:=by kernel_rfl
 have hc:(0:Int) ≤ (k:Int) ∧ (k:Int) < 6:=by omega
 have hp:(part 4 (l.map Value.bool).toArray (k * 1)).run Tryz.prog w = .ok (.bool x) w:=by
  have hag:(isAgg 4).run Tryz.prog w = .ok false w:=by rw [RX.run_isAgg hd,hagg]
  simp [part,hag,hk]
 simp [semW,execOp,arW,h',Instr.index,asIntOf,RX.run_underlying u6,RX.run_sizeOf hi,hsz,hc,Sem.run_bind]
 simp at hp
 simp [hp]
 intro h
 omega
end Go.Proofs.YtdieogcemmnaaaaGreatDoor

namespace Go.Proofs.YtdieogcemmnaaaaGreatDoor
set_option linter.unusedSimpArgs false
set_option linter.unusedVariables false
open Go.Proofs.YtdieogcemmnaaaaGreatDoor RX
set_option maxRecDepth 100000
def FM (r:Nat) (f:IdM → Option Nat):HP:=HP.ex fun l=>HP.ex fun c=>FMl r f l c
theorem FM.new (r:Nat) {R h:PH} (H:(HP.one r (.map #[] 0)).p R h):(FM r fun _=>none).p R h:=⟨[],0,⟨MapI.nil 0,fun k=>rfl⟩,H⟩
theorem lookFM {r:Nat} {f:IdM → Option Nat} (k:IdM):ORead Tryz.prog (lookS 197 (.map (some r)) (idV k) true) (FM r f) (.tuple #[.int .i64 (fz f k),.bool (f k).isSome]) :=
 ORead.exI fun l=>ORead.exI fun c=>fun w R h F st a=>lookF2 (c:=c) a.1.2 k w R h F st a
theorem updF (r:Nat) (f:IdM → Option Nat) (k:IdM) (n:Nat) (x:Int) (hx:x=n):OTri Tryz.prog (updS 197 (.map (some r)) (idV k) (.int .i64 x)) (FM r f) (fun v=>HP.and (v = .tuple #[]) (FM r (fput f k (some n)))):=by
 subst hx
 refine OTri.exI fun l=>OTri.exI fun c=>OTri.pureI fun ⟨hI,hf⟩ => ?_
 refine (upd_ok (c:=c) (l:=l) (r:=r) idK undFM k (.int .i64 (n:Int))).weak (fun _ _ h=>h) ?_
 rintro v R h ⟨e,H⟩
 refine ⟨e,_,_,⟨hI.put k _,fun k' => ?_⟩,H⟩
 rw [alFind_put]
 unfold fput
 by_cases e:k'=k
 ·rw [if_pos e,if_pos e]; rfl
 ·rw [if_neg e,if_neg e]; exact hf k'
theorem lookFM0 {r:Nat} {f:IdM → Option Nat} (k:IdM):ORead Tryz.prog (lookS 197 (.map (some r)) (idV k) false) (FM r f) (.int .i64 (fz f k)) :=
 ORead.exI fun l=>ORead.exI fun c=>fun w R h F st a=>lookF (c:=c) a.1.2 k w R h F st a
def tF (es:List DeedE) (k:IdM):List AnsE:=(es.filter fun x=>okD x && decide (x.id=k)).map DeedE.a
def bG (es:List DeedE) (k:BegM):Nat:=(es.filter fun x=>decide (begOf x.id x.call=k)).length
theorem tF_snoc (es:List DeedE) (x:DeedE):tF (es ++ [x])=if okD x then putL (tF es) x.id (tF es x.id ++ [x.a]) else tF es:=by
 funext k
 unfold tF putL
 rw [List.filter_append,List.map_append]
 by_cases h:okD x=true
 ·rw [if_pos h]
  by_cases e:k=x.id
  ·subst e; simp [h]
  ·have e' : ¬ x.id=k:=fun h=>e h.symm
   simp [h,e,e']
 ·rw [if_neg h]
  have h':okD x=false:=by simpa using h
  simp [h']
theorem bG_snoc (es:List DeedE) (x:DeedE):bG (es ++ [x])=addB (bG es) (begOf x.id x.call):=by
 funext k
 unfold bG addB
 rw [List.filter_append,List.length_append]
 by_cases e:k=begOf x.id x.call
 ·subst e; simp
 ·have e' : ¬ begOf x.id x.call=k:=fun h=>e h.symm
  simp [e,e']
theorem bG_zero (es:List DeedE) (x:IdM × CallP):bG es (begOf x.1 x.2)=0 ↔ begun (es.map DeedE.p) x=false:=by
 unfold bG begun
 rw [List.length_eq_zero_iff,List.filter_eq_nil_iff,List.any_map,List.any_eq_false]
 rfl
theorem tF_wrong (es:List DeedE) (k:IdM) (r:AnsM):((tF es k).any fun y=>decide (y.m ≠ r))=wrongS (es.map DeedE.p) k r:=by
 unfold tF wrongS
 rw [List.any_map,List.any_map,List.any_filter]
 rfl
theorem tF_nil (es:List DeedE) (k:IdM):tF es k=[] ↔ ∀ x ∈ es,¬ (okD x=true ∧ x.id=k):=by
 unfold tF
 rw [List.map_eq_nil_iff,List.filter_eq_nil_iff]
 simp only [Bool.and_eq_true,decide_eq_true_eq]
def flg (tw nob miss wr late:Bool):List Bool:=[false,tw,nob,miss,wr,late]
def flk (l:List Bool) (k:Nat):List Int:=((List.range k).filter fun j=>(l[j]?).getD false).map fun j:Nat=>(j:Int)
theorem flk_succ (l:List Bool) (k:Nat):flk l (k + 1)=flk l k ++ if (l[k]?).getD false then [(k:Int)] else []:=by
 unfold flk
 rw [List.range_succ,List.filter_append,List.map_append]
 congr 1
 by_cases h:(l[k]?).getD false=true <;> simp [h]
theorem flk_len (l:List Bool) (k:Nat):(flk l k).length ≤ k:=by
 unfold flk
 rw [List.length_map]
 exact Nat.le_trans (List.length_filter_le _ _) (by simp)
theorem flk_all (a b c d e:Bool):flk (flg a b c d e) 6=flagsL a b c d e:=by
 cases a <;> cases b <;> cases c <;> cases d <;> cases e <;> rfl
set_option maxHeartbeats 8000000 in
theorem check_ok (ca:Option Addr) (cn cc:Nat) (ces:List CellE) (Sc:HP) (cr:CellRd Sc ca cn ces) (hcn:cn ≤ 1000) (a:Option Addr) (n c:Nat) (es:List DeedE) (S:HP) (dr:DeedRd S a n es) (hn:n ≤ 1000) :
  Tri Tryz.prog 47 #[.slice ca cn cc,.slice a n c] (HP.sep Sc S)
   (fun v=>HP.ex fun a'=>HP.ex fun c'=>HP.and (v = .slice a' (faultsS (es.map DeedE.p) (callsS ces)).length c') (HP.sep Sc (HP.sep S (OwI a' (faultsS (es.map DeedE.p) (callsS ces)).length c' (faultsS (es.map DeedE.p) (callsS ces)))))):=by
 refine tri_of_tree (ρ:=[.a ca,.n cn,.n cc,.p Sc,.a a,.n n,.n c,.p S]) mixed Tryz.func47 tree_jCheck ?_
 unfold t_jCheck
 simp (maxSteps:=3000000) only [T.den,E.prop,E.den,RX.look,F1.app,F2.app,Uni.int_i,Uni.nat_n,Uni.bool_c,Uni.str_s,Uni.adr_a,Uni.val_v,Uni.hp_p,hden,cden,V.den,W.den,A.den,BR.den,SA.den,FV.den,capV,exs,exP,allP,Cur.app,List.map_cons,List.map_nil,List.cons_append,List.nil_append,List.drop_succ_cons,List.drop_zero,List.length_cons,List.length_nil,Nat.zero_add,Nat.reduceAdd,Int.neg_neg,Bool.not_not,List.append_nil,Nat.add_zero,List.getElem?_cons_zero,List.getElem?_cons_succ,Decidable.not_not,semW_eq,semW_load,semW_store,semW_storeC,semW_append,semW_lookup,semW_lookupC,semW_update,semW_updateC,semW_updateK,semW_range,semW_next,semW_entry,ne_eq,Nat.reduceEqDiff,not_false_eq_true,semW_mapEntry,semW_entryStore]
 intro fo br _ tr _
 have hl:=dr.len
 refine ⟨fun i P1 P2 => ∃ k:Nat,i=k ∧ k ≤ n ∧ TQ P1 tr (tF (es.take k)) ∧ HP.ent P2 (BM br (bG (es.take k))),fun i _ _=>n - i.toNat,⟨0,rfl,Nat.zero_le _,TQ.new tr,.of fun R h H=>BM.new br H⟩,?_⟩
 rintro _ P1 P2 ⟨k,rfl,hk,tq,hB⟩
 refine ⟨fun hlt=>⟨by omega,fun _=>⟨dr.is (by omega),fun _ => ?_⟩⟩,fun hge => ?_⟩
 ·obtain ⟨x,hx⟩ : ∃ x,es[k]? = some x:=⟨_,List.getElem?_eq_getElem (by omega)⟩
  have hxm:=List.mem_of_getElem? hx
  have nxt:IntKind.i64.min ≤ (k:Int) + 1 ∧ (k:Int) + 1 ≤ IntKind.i64.max:=inI64D _ (by omega) (by omega)
  have hlt':=(List.getElem?_eq_some_iff.1 hx).1
  have htk:es.take (k + 1)=es.take k ++ [x]:=by
   rw [List.take_succ_eq_append_getElem hlt']
   rw [List.getElem?_eq_getElem hlt'] at hx
   rw [Option.some.inj hx]
  have hbl:bG (es.take k) (begOf x.id x.call) ≤ 1000:=by
   unfold bG
   exact Nat.le_trans (List.length_filter_le _ _) (by rw [List.length_take]; omega)
  have hbr:IntKind.i64.min ≤ ((bG (es.take k) (begOf x.id x.call):Nat):Int) + 1 ∧ ((bG (es.take k) (begOf x.id x.call):Nat):Int) + 1 ≤ IntKind.i64.max:=inI64D _ (by omega) (by omega)
  refine ⟨x.id.1,x.id.2.1,x.id.2.2,x.call.kind,x.call.path,x.call.other,x.call.off,x.call.n,x.ca,x.call.data.length,x.cc,x.be,x.en,x.ans.err,x.ans.kind,x.ans.size,x.ans.links,x.da,x.ans.data.length,x.dc,x.na,x.ans.names.length,x.nc,ldD dr.rd hx,fun _ => ?_⟩
  refine ⟨fun P=>HP.ent P (BM br (bG (es.take (k + 1)))),?_,?_⟩
  ·refine (beganOf_ok x.id x.call x.ca x.cc S (dr.cd x hxm)).weak (fun _ _ h=>h) ?_
   rintro v R h ⟨rfl,H⟩
   refine ⟨x.id.1,x.id.2.1,x.id.2.2,x.call.kind,x.call.off,x.call.n,x.call.path,x.call.other,x.call.data,rfl,⟨⟨_,(lookB (begOf x.id x.call)).ent hB,hbr,fun _ => ?_⟩,?_⟩,H⟩
   ·clear H
    refine OTri.preL ((begun_entry br _ (begOf x.id x.call)).weak (fun _ _ h=>h) ?_) hB
    rintro v R h ⟨b,rfl,H⟩
    refine ⟨_,(b:Int),_,rfl,?_,H⟩
    clear H
    refine (begun_store br _ (begOf x.id x.call) b _ rfl).weak (fun _ _ h=>h) ?_
    rintro v R h ⟨rfl,H⟩
    refine ⟨_,rfl,?_,H⟩
    show HP.ent _ _
    rw [htk,bG_snoc]; exact .refl _
   ·clear H
    refine OTri.preL ((begun_entry br _ (begOf x.id x.call)).weak (fun _ _ h=>h) ?_) hB
    rintro v R h ⟨b,rfl,H⟩
    refine ⟨_,(b:Int),_,rfl,?_,H⟩
    clear H
    refine ⟨_,lookBH (begOf x.id x.call),hbr,fun _ => ?_⟩
    refine (begun_store br _ (begOf x.id x.call) b _ rfl).weak (fun _ _ h=>h) ?_
    rintro v R h ⟨rfl,H⟩
    refine ⟨_,rfl,?_,H⟩
    show HP.ent _ _
    rw [htk,bG_snoc]; exact .refl _
  rintro P3 hB3
  refine (answered_ok x S).weak (fun _ _ h=>h) ?_
  rintro v R h ⟨rfl,H⟩
  refine ⟨_,rfl,⟨fun h1=>fun b => ?_,fun h1=>⟨nxt,fun _=>⟨⟨k + 1,by omega,by omega,?_,hB3⟩,by dsimp only; omega⟩⟩⟩,H⟩
  ·clear H
   have hok:okD x=true:=h1
   refine OTri.preL ((told_entry tr _ x.id).weak (fun _ _ h=>h) ?_) tq.ent
   rintro v R h ⟨ta,tc,tb,rfl,H⟩
   refine ⟨ta,_,tc,_,(tb:Int),_,rfl,?_,H⟩
   clear H
   have hro : ∀ R h,S.p R h → (HP.sep x.a.ro S).p R h:=fun R h H=>by
    have:=dr.ar x hxm R h H
    refine ⟨PH.none',h,PH.none_dj _,PH.none_le _,PH.le.refl _,⟨dr.nb x hxm,this.1,this.2⟩,H⟩
   obtain ⟨i,hi,hz,hzs,hs,hby⟩:=infoAp
   have htl:(tF (es.take k) x.id).length ≤ 1000:=by
    unfold tF
    rw [List.length_map]
    exact Nat.le_trans (List.length_filter_le _ _) (by rw [List.length_take]; omega)
   refine (PL.appK (K:=kAnsP) 196 196 undAs hi hz hzs hs (by omega) ta _ tc (tF (es.take k) x.id) b x.a S (by omega)).weak (fun R h H=>HP.sep_mono H (fun _ h=>h) fun z hz=>HP.sep_mono hz (fun _ h=>h) fun u hu=>hro _ _ hu) ?_
   rintro v R h ⟨a',c',rfl,H⟩
   refine ⟨a',_,c',_,rfl,?_,H⟩
   ·clear H
    refine (told_store tr _ x.id tb a' _ c' (tF (es.take k) x.id ++ [x.a]) (by simp)).weak (fun _ _ h=>h) ?_
    rintro v R h ⟨rfl,⟨l,lc,H⟩⟩
    refine ⟨_,rfl,⟨nxt,fun _=>⟨⟨k + 1,by omega,by omega,?_,hB3⟩,by dsimp only; omega⟩⟩,H⟩
    have:=TQ.of H
    rw [htk,tF_snoc,if_pos hok]
    exact this
  ·have hok:okD x=false:=by simpa [okD] using h1
   rw [htk,tF_snoc,if_neg (by rw [hok]; decide)]; exact tq
 obtain rfl:k=n:=by omega
 rw [List.take_of_length_le (by omega)] at tq hB
 intro fb _
 refine tNew_ok.weak (fun _ _ h=>h) ?_
 rintro v R h ⟨b,t0,⟨rfl,ht0⟩,H⟩
 refine ⟨b,TRep b t0,rfl,?_,H⟩
 clear H
 intro _ _
 refine (calls_ok ca cn cc Sc).weak (fun _ _ h=>h) ?_
 rintro v R h ⟨nb,rfl,H⟩
 refine ⟨.func (.func 167) #[] #[.pointer (some ⟨nb,0,none⟩)],HP.one nb (.cells #[.slice ca cn cc] 79 (0,0)),rfl,fun _ => ?_,H⟩
 clear H
 have hfew:(callsS ces).length ≤ cn:=by rw [← cr.len]; exact List.length_filterMap_le _ _
 refine ⟨List (IdM × CallP),fun _=>HP.tt,PrC,mayC,fun L=>L=[],callsS ces,fun g i P1 P2 P3 => ∃ (D:List (IdM × CallP)) (t:TS),callsS ces=D ++ g ∧ i=D.length ∧ P1=TRep b t ∧ TWf (1 + D.length) t.pub ∧ t.pub=(jrun (es.map DeedE.p) js0 D).T ∧ HP.ent P2 (FM fb (jrun (es.map DeedE.p) js0 D).first) ∧
  HP.ent P3 (FO fo (flg (jrun (es.map DeedE.p) js0 D).tw (jrun (es.map DeedE.p) js0 D).nob false (jrun (es.map DeedE.p) js0 D).wr false)),calls_seq nb ca cn cc ces Sc cr (by omega),?_,?_,?_,?_⟩
 ·refine ⟨[],t0,rfl,rfl,rfl,by rw [ht0]; exact newT_wf,by rw [ht0]; rfl,.of fun R h H=>FM.new fb H,.of fun R h H=>H⟩
 ·rintro g i P1 P2 P3 _; rfl
 ·rintro g args ⟨g',id,q,da,dc,rfl,rfl,hq1,hq2⟩ i Q1 Q2 Q3 ⟨D,t,hD,rfl,rfl,wf,ht,hF,hO⟩
  refine ⟨id.1,id.2.1,id.2.2,q.kind,q.path,q.other,q.off,q.n,da,q.data.length,dc,RoB da q.data.length q.data,rfl,.of fun R h H => ?_,fun _ _ => ?_⟩
  ·obtain ⟨⟨⟨id',q'⟩,da',dc',L'⟩,⟨h1,h2⟩,H⟩:=H
   cases h1
   simp [CallP.val] at h2
   obtain ⟨rfl,rfl⟩:=h2
   exact H
  have hDl:D.length + (g'.length + 1) ≤ cn:=by
   have:=congrArg List.length hD
   rw [List.length_append,List.length_cons] at this
   omega
  have hs':jrun (es.map DeedE.p) js0 (D ++ [(id,q)])=jstep (es.map DeedE.p) (jrun (es.map DeedE.p) js0 D) (id,q):=by rw [jrun_app]; rfl
  have hsn:=(jrun_T (es.map DeedE.p) D js0).2
  generalize jrun (es.map DeedE.p) js0 D=s at *
  have hsn:s.n=D.length:=by rw [hsn]; show 0 + _=_; omega
  refine (tDo_ok (by omega) wf (q.m da dc) (RoB da q.data.length q.data) q.data ⟨RdL.ro _ _ _ _,rfl,hq2⟩).weak (fun _ _ h=>h) ?_
  rintro v R h ⟨t',ht',da',dc',na',nc',rfl,H⟩
  have ht2:t'.pub=nextT s.T q:=by rw [ht',← ht]; rfl
  have hr:(doS t.pub (q.m da dc).kind (q.m da dc).path (q.m da dc).other (q.m da dc).off (q.m da dc).n q.data).2=ansOf s.T q:=by rw [← ht]; rfl
  have wf':TWf (1 + (D ++ [(id,q)]).length) t'.pub:=by
   have:=wf.do (by omega) q.kind q.path q.other q.off q.n q.data
   rw [List.length_append,List.length_singleton,show 1 + (D.length + 1)=1 + D.length + 1 by omega,ht']
   exact this
  rw [hr] at H ⊢
  clear hr ht'
  generalize hrr:ansOf s.T q=r at *
  refine ⟨_,_,_,_,da',_,dc',_,na',_,nc',_,TRep b t',RoB da q.data.length q.data,rfl,fun ab => ?_,H⟩
  clear H
  refine (beganOf_ok id q da dc _ (RdL.ro _ _ _ _)).weak (fun _ _ h=>h) ?_
  rintro v R h ⟨rfl,H⟩
  refine ⟨id.1,id.2.1,id.2.2,q.kind,q.off,q.n,q.path,q.other,q.data,rfl,⟨_,(lookB (begOf id q)).ent hB,?_⟩,H⟩
  clear H
  have nxt:IntKind.i64.min ≤ (D.length:Int) + 1 ∧ (D.length:Int) + 1 ≤ IntKind.i64.max:=inI64D _ (by omega) (by omega)
  have hD':callsS ces=D ++ [(id,q)] ++ g':=by rw [hD]; simp
  have hDn:(D.length:Int) + 1=((D ++ [(id,q)]).length:Nat):=by simp
  have htl:(tF es id).length ≤ 1000000:=by
   unfold tF
   rw [List.length_map]
   exact Nat.le_trans (List.length_filter_le _ _) (by omega)
  refine ⟨fun h0 => ?_,fun h0 => ?_⟩
  ·have hbg:begun (es.map DeedE.p) (id,q)=false:=(bG_zero es (id,q)).1 (by simpa using h0)
   refine OTri.preL ((foStore fo _ 2 (by show 2 < 6; decide) true).weak (fun _ _ h=>h) ?_) hO
   rintro v R h ⟨rfl,H⟩
   refine ⟨_,rfl,?_,H⟩
   clear H
   have hNB:true=(s.nob || !begun (es.map DeedE.p) (id,q)):=by rw [hbg]; simp
   clear hO
   have hO:HP.ent (FO fo (flg s.tw true false s.wr false)) (FO fo (flg s.tw true false s.wr false)) := .refl _
   refine ⟨_,_,(lookFM id).ent hF,⟨fun h1 => ?_,fun h1 => ?_⟩⟩
   ·refine OTri.preL ((foStore fo _ 1 (by show 1 < 6; decide) true).weak (fun _ _ h=>h) ?_) hO
    rintro v R h ⟨rfl,H⟩
    obtain ⟨j,hj⟩:=Option.isSome_iff_exists.1 h1
    refine ⟨_,rfl,⟨nxt,fun _=>⟨g',⟨id,q,da,dc,rfl,rfl,hq1,hq2⟩,D ++ [(id,q)],t',hD',hDn,rfl,wf',by rw [hs']; exact ht2,?_,?_⟩⟩,H⟩
    ·rw [hs']; show HP.ent _ (FM fb (putF s.first id s.n)); unfold putF; rw [hj]; exact hF
    ·rw [hs']; show HP.ent _ (FO fo (flg (s.tw || (s.first id).isSome) (s.nob || !begun (es.map DeedE.p) (id,q)) false (s.wr || ((s.first id).isNone && wrongS (es.map DeedE.p) id (ansOf s.T q))) false)); rw [← hNB,hrr]; rw [hj]; simp only [Option.isSome_some,Option.isNone_some,Bool.or_true,Bool.false_and,Bool.or_false]; exact .refl _
   ·have hno:s.first id=none:=by
     cases hh:s.first id with
     | none=>rfl
     | some j=>rw [hh] at h1; exact absurd rfl h1
    refine OTri.preL ((updF fb _ id s.n _ (by rw [hsn])).weak (fun _ _ h=>h) ?_) hF
    rintro v R h ⟨rfl,H⟩
    refine ⟨_,rfl,⟨s.wr,(foLoad fo _ 4 s.wr rfl).ent hO,⟨fun h2 => ?_,fun h2 => ?_⟩⟩,H⟩
    ·clear H
     refine OTri.preL ((foStore fo _ 4 (by show 4 < 6; decide) true).weak (fun _ _ h=>h) ?_) hO
     rintro v R h ⟨rfl,H⟩
     refine ⟨_,rfl,⟨nxt,fun _=>⟨g',⟨id,q,da,dc,rfl,rfl,hq1,hq2⟩,D ++ [(id,q)],t',hD',hDn,rfl,wf',by rw [hs']; exact ht2,?_,?_⟩⟩,H⟩
     ·rw [hs']; show HP.ent _ (FM fb (putF s.first id s.n)); unfold putF; rw [hno]; exact .refl _
     ·rw [hs']; show HP.ent _ (FO fo (flg (s.tw || (s.first id).isSome) (s.nob || !begun (es.map DeedE.p) (id,q)) false (s.wr || ((s.first id).isNone && wrongS (es.map DeedE.p) id (ansOf s.T q))) false)); rw [← hNB,hrr]; rw [hno,h2]; simp only [Option.isSome_none,Option.isNone_none,Bool.or_false,Bool.true_or]; exact .refl _
    ·clear H
     obtain ⟨ta,tc,hlk,har⟩:=tq.look id
     refine ⟨ta,_,tc,hlk,?_⟩
     refine (containsA_ok ta _ tc (tF es id) P1 har htl ab r da' dc' na' nc' _ _ (RdL.ow _ _ _ _ _ _) (RdL.ow _ _ _ _ _ _)).weak (fun _ _ h=>h) ?_
     rintro v R h ⟨rfl,H⟩
     refine ⟨_,rfl,?_,H⟩
     clear H
     refine OTri.preL ((foStore fo _ 4 (by show 4 < 6; decide) _).weak (fun _ _ h=>h) ?_) hO
     rintro v R h ⟨rfl,H⟩
     have h2':s.wr=false:=by simpa using h2
     refine ⟨_,rfl,⟨nxt,fun _=>⟨g',⟨id,q,da,dc,rfl,rfl,hq1,hq2⟩,D ++ [(id,q)],t',hD',hDn,rfl,wf',by rw [hs']; exact ht2,?_,?_⟩⟩,H⟩
     ·rw [hs']; show HP.ent _ (FM fb (putF s.first id s.n)); unfold putF; rw [hno]; exact .refl _
     ·rw [hs']; show HP.ent _ (FO fo (flg (s.tw || (s.first id).isSome) (s.nob || !begun (es.map DeedE.p) (id,q)) false (s.wr || ((s.first id).isNone && wrongS (es.map DeedE.p) id (ansOf s.T q))) false)); rw [← hNB,hrr]; rw [hno,h2',tF_wrong]; simp only [Option.isSome_none,Option.isNone_none,Bool.or_false,Bool.true_and,Bool.false_or]; exact .refl _
  ·have hbg:begun (es.map DeedE.p) (id,q)=true:=by
    cases hh:begun (es.map DeedE.p) (id,q) with
    | true=>rfl
    | false=>exact absurd (by rw [(bG_zero es (id,q)).2 hh]; rfl) h0
   have hNB:s.nob=(s.nob || !begun (es.map DeedE.p) (id,q)):=by rw [hbg]; simp
   refine ⟨_,_,(lookFM id).ent hF,⟨fun h1 => ?_,fun h1 => ?_⟩⟩
   ·refine OTri.preL ((foStore fo _ 1 (by show 1 < 6; decide) true).weak (fun _ _ h=>h) ?_) hO
    rintro v R h ⟨rfl,H⟩
    obtain ⟨j,hj⟩:=Option.isSome_iff_exists.1 h1
    refine ⟨_,rfl,⟨nxt,fun _=>⟨g',⟨id,q,da,dc,rfl,rfl,hq1,hq2⟩,D ++ [(id,q)],t',hD',hDn,rfl,wf',by rw [hs']; exact ht2,?_,?_⟩⟩,H⟩
    ·rw [hs']; show HP.ent _ (FM fb (putF s.first id s.n)); unfold putF; rw [hj]; exact hF
    ·rw [hs']; show HP.ent _ (FO fo (flg (s.tw || (s.first id).isSome) (s.nob || !begun (es.map DeedE.p) (id,q)) false (s.wr || ((s.first id).isNone && wrongS (es.map DeedE.p) id (ansOf s.T q))) false)); rw [← hNB,hrr]; rw [hj]; simp only [Option.isSome_some,Option.isNone_some,Bool.or_true,Bool.false_and,Bool.or_false]; exact .refl _
   ·have hno:s.first id=none:=by
     cases hh:s.first id with
     | none=>rfl
     | some j=>rw [hh] at h1; exact absurd rfl h1
    refine OTri.preL ((updF fb _ id s.n _ (by rw [hsn])).weak (fun _ _ h=>h) ?_) hF
    rintro v R h ⟨rfl,H⟩
    refine ⟨_,rfl,⟨s.wr,(foLoad fo _ 4 s.wr rfl).ent hO,⟨fun h2 => ?_,fun h2 => ?_⟩⟩,H⟩
    ·clear H
     refine OTri.preL ((foStore fo _ 4 (by show 4 < 6; decide) true).weak (fun _ _ h=>h) ?_) hO
     rintro v R h ⟨rfl,H⟩
     refine ⟨_,rfl,⟨nxt,fun _=>⟨g',⟨id,q,da,dc,rfl,rfl,hq1,hq2⟩,D ++ [(id,q)],t',hD',hDn,rfl,wf',by rw [hs']; exact ht2,?_,?_⟩⟩,H⟩
     ·rw [hs']; show HP.ent _ (FM fb (putF s.first id s.n)); unfold putF; rw [hno]; exact .refl _
     ·rw [hs']; show HP.ent _ (FO fo (flg (s.tw || (s.first id).isSome) (s.nob || !begun (es.map DeedE.p) (id,q)) false (s.wr || ((s.first id).isNone && wrongS (es.map DeedE.p) id (ansOf s.T q))) false)); rw [← hNB,hrr]; rw [hno,h2]; simp only [Option.isSome_none,Option.isNone_none,Bool.or_false,Bool.true_or]; exact .refl _
    ·clear H
     obtain ⟨ta,tc,hlk,har⟩:=tq.look id
     refine ⟨ta,_,tc,hlk,?_⟩
     refine (containsA_ok ta _ tc (tF es id) P1 har htl ab r da' dc' na' nc' _ _ (RdL.ow _ _ _ _ _ _) (RdL.ow _ _ _ _ _ _)).weak (fun _ _ h=>h) ?_
     rintro v R h ⟨rfl,H⟩
     refine ⟨_,rfl,?_,H⟩
     clear H
     refine OTri.preL ((foStore fo _ 4 (by show 4 < 6; decide) _).weak (fun _ _ h=>h) ?_) hO
     rintro v R h ⟨rfl,H⟩
     have h2':s.wr=false:=by simpa using h2
     refine ⟨_,rfl,⟨nxt,fun _=>⟨g',⟨id,q,da,dc,rfl,rfl,hq1,hq2⟩,D ++ [(id,q)],t',hD',hDn,rfl,wf',by rw [hs']; exact ht2,?_,?_⟩⟩,H⟩
     ·rw [hs']; show HP.ent _ (FM fb (putF s.first id s.n)); unfold putF; rw [hno]; exact .refl _
     ·rw [hs']; show HP.ent _ (FO fo (flg (s.tw || (s.first id).isSome) (s.nob || !begun (es.map DeedE.p) (id,q)) false (s.wr || ((s.first id).isNone && wrongS (es.map DeedE.p) id (ansOf s.T q))) false)); rw [← hNB,hrr]; rw [hno,h2',tF_wrong]; simp only [Option.isSome_none,Option.isNone_none,Bool.or_false,Bool.true_and,Bool.false_or]; exact .refl _
 ·rintro g rfl i Q1 Q2 Q3 ⟨D,t,hD,rfl,rfl,wf,ht,hF,hO⟩
  rw [List.append_nil] at hD
  rw [← hD] at hF hO
  clear hD ht wf
  have hfa:faultsS (es.map DeedE.p) (callsS ces)=flagsL (jrun (es.map DeedE.p) js0 (callsS ces)).tw (jrun (es.map DeedE.p) js0 (callsS ces)).nob (missS (jrun (es.map DeedE.p) js0 (callsS ces)).first (es.map DeedE.p)) (jrun (es.map DeedE.p) js0 (callsS ces)).wr (lateS (jrun (es.map DeedE.p) js0 (callsS ces)).first (es.map DeedE.p)):=rfl
  rw [hfa]
  clear hfa
  generalize jrun (es.map DeedE.p) js0 (callsS ces)=s at *
  refine OTri.preL (OTri.exI fun l=>OTri.exI fun lc => ?_) tq.ent
  refine OTri.fact (φ:=MapI l lc ∧ (∀ k,alFind k l=none ↔ tF es k=[]) ∧ ∀ y ∈ l,∃ a n c,y.2.1 = .slice a n c) (fun R h H=>⟨H.1.1,H.1.2,fun y hy=>by
   obtain ⟨a,c,e,_⟩:=sepN_mem (List.mem_map.2 ⟨y,hy,rfl⟩) (HP.sep_right H.2)
   exact ⟨a,_,c,e⟩⟩) fun ⟨hI,hfl,hsl⟩ => ?_
  have hm : ∀ R h,(TMl tr (tF es) l lc).p R h → h tr=some (mapObj idV l lc):=fun R h H=>HP.sep_left H.2
  have hms:missS s.first (es.map DeedE.p)=l.any fun y=>(s.first y.1).isNone:=by
   rw [Bool.eq_iff_iff]
   unfold missS
   rw [List.any_map,List.any_eq_true,List.any_eq_true]
   constructor
   ·rintro ⟨x,hx,h⟩
    simp only [Function.comp,Bool.and_eq_true] at h
    have h1 : ¬ alFind x.id l=none:=fun e=>by
     rw [hfl,tF_nil] at e
     exact e x hx ⟨h.1,rfl⟩
    have h2:(alFind x.id l).isSome=true:=by cases hh:alFind x.id l with | none=>exact absurd hh h1 | some _=>rfl
    obtain ⟨y,hy,e⟩:=List.mem_map.1 ((alFind_isSome _ _).1 h2)
    exact ⟨y,hy,by rw [e]; exact h.2⟩
   ·rintro ⟨y,hy,h⟩
    have h2:=(alFind_isSome y.1 l).2 (List.mem_map.2 ⟨y,hy,rfl⟩)
    have h1 : ¬ tF es y.1=[]:=fun e=>by rw [(hfl _).2 e] at h2; cases h2
    rw [tF_nil] at h1
    have : ∃ x ∈ es,okD x=true ∧ x.id=y.1:=Classical.byContradiction fun hn=>h1 fun x hx hh=>hn ⟨x,hx,hh⟩
    obtain ⟨x,hx,h3,h4⟩:=this
    refine ⟨x,hx,?_⟩
    simp only [Function.comp,Bool.and_eq_true]
    exact ⟨h3,by show (s.first x.id).isNone=true; rw [h4]; exact h⟩
  refine (rangA_ok (Q:=TMl tr (tF es) l lc) (enc:=idV) (l:=l) (c:=lc) undT hm).weak (fun _ _ h=>h) ?_
  rintro v R h ⟨it,rfl,H⟩
  let M:Array Nat → Bool:=fun S=>l.any fun y=>decide (y.2.2 ∈ S) && (s.first y.1).isNone
  let J:HP → HP → Nat → Prop:=fun Pi Pf N => ∃ S:Array Nat,Pi=HP.one it (.mapIter (some tr) lc S lc) ∧ HP.ent Pf (FO fo (flg s.tw s.nob (M S) s.wr false)) ∧ leftN l S=N
  have hM0:M #[]=false:=by show l.any _=false; rw [List.any_eq_false]; intro y _; simp
  refine ⟨it,HP.one it (.mapIter (some tr) lc #[] lc),TMl tr (tF es) l lc,rfl,⟨fun Pi Pf => ∃ N,J Pi Pf N,fun Pi Pf=>leastN (J Pi Pf),⟨_,#[],rfl,by rw [hM0]; exact hO,rfl⟩,?_⟩,H⟩
  clear H
  intro Pi Pf hJ
  have hJ':=leastN_spec hJ
  generalize hNe:leastN (J Pi Pf)=N at hJ'
  obtain ⟨S',rfl,hO2,hN⟩:=hJ'
  refine (nextA_ok (Q:=TMl tr (tF es) l lc) hI.2 hm).weak (fun _ _ h=>h) ?_
  rintro v R h ⟨e,he,H⟩
  rcases e with _ | y
  ·have hMe:M S'=missS s.first (es.map DeedE.p):=by
    rw [hms]
    show l.any _=l.any _
    rw [Bool.eq_iff_iff,List.any_eq_true,List.any_eq_true]
    exact ⟨fun ⟨y,hy,h⟩=>⟨y,hy,(Bool.and_eq_true_iff.1 h).2⟩,fun ⟨y,hy,h⟩=>⟨y,hy,Bool.and_eq_true_iff.2 ⟨decide_eq_true (he.2 y hy),h⟩⟩⟩
   rw [hMe] at hO2
   refine ⟨false,.tuple #[],.tuple #[],_,he.1,⟨fun h=>(by cases h),fun _ => ?_⟩,H⟩
   clear H
   refine (late_ok fb s.first Q2 (fun k=>(lookFM0 k).ent hF) (fun k=>(lookFM k).ent hF) a _ c es S dr (by omega)).weak (fun _ _ h=>h) ?_
   rintro v R h ⟨rfl,H⟩
   refine ⟨_,rfl,?_,H⟩
   clear H
   refine OTri.preL ((foStore fo _ 5 (by show 5 < 6; decide) (lateS s.first (es.map DeedE.p))).weak (fun _ _ h=>h) ?_) hO2
   rintro v R h ⟨rfl,H⟩
   refine ⟨_,rfl,?_,H⟩
   clear H
   refine ⟨false,s.tw,s.nob,missS s.first (es.map DeedE.p),s.wr,lateS s.first (es.map DeedE.p),foAll fo (flg s.tw s.nob (missS s.first (es.map DeedE.p)) s.wr (lateS s.first (es.map DeedE.p))) rfl,?_⟩
   generalize missS s.first (es.map DeedE.p)=ms
   generalize lateS s.first (es.map DeedE.p)=lt
   refine ⟨fun a1 n1 c1 P i => ∃ k:Nat,i=k ∧ k ≤ 6 ∧ n1=(flk (flg s.tw s.nob ms s.wr lt) k).length ∧ HP.ent P (OwI a1 n1 c1 (flk (flg s.tw s.nob ms s.wr lt) k)),fun _ _ _ _ i=>6 - i.toNat,⟨0,rfl,by omega,rfl,.of fun R h H=>OwC.nil _ _ R h⟩,?_⟩
   rintro a1 _ c1 P _ ⟨k,rfl,hk,rfl,hP⟩
   have hkl:=flk_len (flg s.tw s.nob ms s.wr lt) k
   have hks:=flk_succ (flg s.tw s.nob ms s.wr lt) k
   refine ⟨fun hlt => ?_,fun hge => ?_⟩
   ·obtain ⟨x,hx⟩ : ∃ x,(flg s.tw s.nob ms s.wr lt)[k]? = some x:=⟨_,List.getElem?_eq_getElem (show k < 6 by omega)⟩
    rw [hx,Option.getD_some] at hks
    have nxt:IntKind.i64.min ≤ (k:Int) + 1 ∧ (k:Int) + 1 ≤ IntKind.i64.max:=inI64D _ (by omega) (by omega)
    refine ⟨x,foIndex (by decide) (flg s.tw s.nob ms s.wr lt) rfl k x hx,⟨fun h1 q => ?_,fun h1=>⟨nxt,fun _=>⟨⟨k + 1,by omega,by omega,?_,?_⟩,by dsimp only; omega⟩⟩⟩⟩
    ·refine OTri.preL ((appendI a1 _ c1 (flk (flg s.tw s.nob ms s.wr lt) k) (HP.one q (.cells #[.int .i64 (k:Int)] 3 (0,0))) ⟨q,0,none⟩ 1 1 [(k:Int)] (one_rd q #[.int .i64 (k:Int)] 3) rfl (by omega)).weak (fun _ _ h=>h) ?_) (hP.sep _)
     rintro v R h ⟨a',c',rfl,H⟩
     rw [if_pos h1] at hks
     refine ⟨a',_,c',_,rfl,⟨nxt,fun _=>⟨⟨k + 1,by omega,by omega,?_,?_⟩,by dsimp only; omega⟩⟩,H⟩
     ·rw [hks]; simp
     ·rw [hks]; exact .refl _
    ·rw [hks,if_neg h1,List.append_nil]
    ·rw [hks,if_neg h1,List.append_nil]; exact hP
   ·obtain rfl:k=6:=by omega
    rw [flk_all] at hP
    rw [flk_all]
    refine ((HP.ent.refl Sc).sep2 ((HP.ent.refl S).sep2 hP)).trans (.of fun R h H=>⟨a1,c1,rfl,H⟩)
  ·obtain ⟨rfl,hyl,hyS⟩:=he
   obtain ⟨ya,yn,yc,hyv⟩:=hsl y hyl
   have hent:=entry_ok (enc:=idV) (it:=it) (m:=tr) (c:=lc) (S:=S') (x:=y) hI.2 hyl (A:=HP.sep (HP.one it (.mapIter (some tr) lc (nextI S' (some y)) lc)) (TMl tr (tF es) l lc)) (fun R h H=>HP.sep_left H) (fun R h H=>by
    obtain ⟨_,_,_,_,l2,_,b2⟩:=H
    exact l2 _ _ (hm _ _ b2))
   rw [hyv] at hent
   have hMp:M (S'.push y.2.2)=(M S' || (s.first y.1).isNone):=by
    show l.any _=(l.any _ || _)
    rw [Bool.eq_iff_iff,Bool.or_eq_true,List.any_eq_true,List.any_eq_true]
    constructor
    ·rintro ⟨z,hz,h⟩
     obtain ⟨h1,h2⟩:=Bool.and_eq_true_iff.1 h
     rcases stamp_push hI.2 hyl hz (of_decide_eq_true h1) with rfl | h3
     ·exact .inr h2
     ·exact .inl ⟨z,hz,Bool.and_eq_true_iff.2 ⟨decide_eq_true h3,h2⟩⟩
    ·rintro (⟨z,hz,h⟩ | h)
     ·obtain ⟨h1,h2⟩:=Bool.and_eq_true_iff.1 h
      exact ⟨z,hz,Bool.and_eq_true_iff.2 ⟨decide_eq_true (Array.mem_push.2 (.inl (of_decide_eq_true h1))),h2⟩⟩
     ·exact ⟨y,hyl,Bool.and_eq_true_iff.2 ⟨decide_eq_true (Array.mem_push.2 (.inr rfl)),h⟩⟩
   have hdec:leftN l (S'.push y.2.2) < N:=by rw [← hN]; exact leftN_push hyl hyS
   have hJ2 : ∀ P,HP.ent P (FO fo (flg s.tw s.nob (M (S'.push y.2.2)) s.wr false)) → (∃ N,J (HP.one it (.mapIter (some tr) lc (nextI S' (some y)) lc)) P N) ∧ leastN (J (HP.one it (.mapIter (some tr) lc (nextI S' (some y)) lc)) P) < leastN (J (HP.one it (.mapIter (some tr) lc S' lc)) Pf):=fun P hP=>by
    have hj:J (HP.one it (.mapIter (some tr) lc (nextI S' (some y)) lc)) P (leftN l (S'.push y.2.2)):=⟨S'.push y.2.2,rfl,hP,rfl⟩
    exact ⟨⟨_,hj⟩,Nat.lt_of_le_of_lt (leastN_le hj) (Nat.lt_of_lt_of_eq hdec hNe.symm)⟩
   refine ⟨true,idV y.1,y.2.1,_,rfl,⟨fun _=>⟨y.1.1,y.1.2.1,y.1.2.2,ya,yn,yc,hent,fun _=>⟨_,_,(lookFM y.1).ent hF,⟨fun h1 => ?_,fun h1 => ?_⟩⟩⟩,fun h=>absurd rfl h⟩,H⟩
   ·clear H
    refine OTri.preL ((foStore fo _ 3 (by show 3 < 6; decide) true).weak (fun _ _ h=>h) ?_) hO2
    rintro v R h ⟨rfl,H⟩
    refine ⟨_,rfl,hJ2 _ ?_,H⟩
    have:(s.first y.1).isNone=true:=by cases hh:s.first y.1 with | none=>rfl | some j=>rw [hh] at h1; exact absurd rfl h1
    rw [hMp,this,Bool.or_true]
    exact .refl _
   ·have:(s.first y.1).isNone=false:=by cases hh:s.first y.1 with | none=>rw [hh] at h1; cases h1 | some j=>rfl
    refine hJ2 _ ?_
    rw [hMp,this,Bool.or_false]
    exact hO2
end Go.Proofs.YtdieogcemmnaaaaGreatDoor

namespace Go.Proofs.YtdieogcemmnaaaaGreatDoor
open Go.Proofs.YtdieogcemmnaaaaGreatDoor RX
set_option maxRecDepth 100000
theorem takeR_ap (l r:List UInt8):takeR (l ++ r,false) l.length=(l,(r,false)):=by
 unfold takeR
 rw [if_neg (by simp),if_neg (by simp)]
 simp
theorem numR_ap {l r:List UInt8} {n:Nat} (h:l.length=n):numR (l ++ r,false) n=(beV l,(r,false)):=by
 unfold numR; rw [← h,takeR_ap]
theorem bytesR_ap (d r:List UInt8) (m:Int) (h:(d.length:Int) ≤ m) (h2:d.length < 4294967296):bytesR (lenB' d ++ r,false) m=(d,(r,false)):=by
 have h4:(256:Nat) ^ 4=4294967296:=by decide
 have e:toldR (lenB' d ++ r,false) m=(d.length,(d ++ r,false)):=by
  unfold toldR lenB'
  rw [List.append_assoc,numR_ap (beN_len _ _),beV_beN 4 _ (by omega)]
  rw [if_neg (by simp),if_neg (by omega)]
 unfold bytesR
 rw [e]
 exact takeR_ap d r
theorem byte_ap {k:Int} (h0:0 ≤ k) (h1:k ≤ 255):(((beV [byteI k]) % 256:Nat):Int)=k:=by
 have e:IntKind.u8.wrap k=k:=wrap_in ⟨by show (0:Int) ≤ k; omega,by show k ≤ (255:Int); omega⟩
 unfold byteI
 rw [e]
 have h2:(UInt8.ofNat k.toNat).toNat=k.toNat:=by
  rw [UInt8.toNat_ofNat']
  omega
 have h1:beV [UInt8.ofNat k.toNat]=k.toNat:=by simp [beV,h2]
 rw [h1]
 omega
theorem four_ap {k:Int} (h0:0 ≤ k) (h1:k ≤ 2147483647):((beV (beN (linksN k) 4):Nat):Int)=k:=by
 have h4:(256:Nat) ^ 4=4294967296:=by decide
 have e:IntKind.u64.wrap k=k:=wrap_in ⟨by show (0:Int) ≤ k; omega,by show k ≤ (18446744073709551615:Int); omega⟩
 unfold linksN
 rw [e,beV_beN 4 _ (by omega)]
 omega
theorem eight_ap {k:Int} (h0 : -9223372036854775808 ≤ k) (h1:k ≤ 9223372036854775807):intOf64 (beV (beN (linksN k) 8))=k:=by
 have h8:(256:Nat) ^ 8=18446744073709551616:=by decide
 rw [beV_beN 8 _ (by rw [h8]; exact linksN_lt' k)]
 unfold intOf64 linksN
 simp [IntKind.wrap,IntKind.bits,IntKind.signed]
 omega
theorem call_round {x:CallP} (h0:0 ≤ x.kind) (h1:x.kind ≤ 255) (hp:x.path.length ≤ 300) (ho:x.other.length ≤ 300) (hd:x.data.length ≤ 4096) (f0 : -9223372036854775808 ≤ x.off) (f1:x.off ≤ 9223372036854775807) (n0 : -9223372036854775808 ≤ x.n) (n1:x.n ≤ 9223372036854775807) :
  callD (wrapS (callB x))=some x:=by
 have eB:callB x=[byteI x.kind] ++ (lenB' x.path ++ (lenB' x.other ++ (beN (linksN x.off) 8 ++ (beN (linksN x.n) 8 ++ (lenB' x.data ++ []))))):=by
  unfold callB; simp only [List.append_assoc,List.append_nil]
 have one : ∀ k:UInt8,[k].length=1:=fun _=>rfl
 have eR:callR (callB x,false)=(x,([],false)):=by
  rw [eB]
  dsimp only [callR]
  simp only [numR_ap (one _),bytesR_ap x.path _ 300 (by omega) (by omega),bytesR_ap x.other _ 300 (by omega) (by omega),numR_ap (beN_len _ _),bytesR_ap x.data _ 4096 (by omega) (by omega),byte_ap h0 h1,eight_ap f0 f1,eight_ap n0 n1]
 unfold callD
 rw [unwrap_wrap]
 simp only [eR]
 simp
theorem log_round {x:LogM} (h:logOk x=true):entD (wrapS (logB x))=some x:=by
 have h':=h
 unfold logOk partOk at h'
 simp only [Bool.and_eq_true,Bool.or_eq_true,decide_eq_true_eq] at h'
 obtain ⟨⟨⟨⟨⟨⟨⟨⟨hk,hc1,hc2⟩,hb1,hb2⟩,hn1,hn2⟩,hs1⟩,hs2⟩,hbk1⟩,hbk2⟩,hpl⟩:=h'
 have eB:logB x=[byteI x.kind] ++ (beN (linksN x.cl) 4 ++ (beN (linksN x.bi) 4 ++ (beN (linksN x.nu) 4 ++ ([byteI x.st] ++ (beN (linksN x.bk) 8 ++ (lenB' x.pl ++ [])))))):=by
  unfold logB; simp only [List.append_assoc,List.append_nil]
 have one : ∀ k:UInt8,[k].length=1:=fun _=>rfl
 have eR:logR (logB x,false)=(x,([],false)):=by
  rw [eB]
  dsimp only [logR]
  simp only [numR_ap (one _),numR_ap (beN_len _ _),bytesR_ap x.pl _ 65536 (by omega) (by omega),byte_ap (show 0 ≤ x.kind by omega) (by omega),byte_ap hs1 (by omega),four_ap hc1 hc2,four_ap hb1 hb2,four_ap hn1 hn2,eight_ap (show -9223372036854775808 ≤ x.bk by omega) (by omega)]
 have hl:(wrapS (logB x)).length ≤ 65536:=by rw [wrapS_len,logB_len]; omega
 unfold entD
 rw [if_neg (by omega),unwrap_wrap]
 simp only [eR,h]
 simp
end Go.Proofs.YtdieogcemmnaaaaGreatDoor

namespace Go.Proofs.YtdieogcemmnaaaaGreatDoor.RX
set_option maxRecDepth 100000
-- tideline/tidelineref04.Right: ρ:=[.a la,.n ll,.n lc,.p lP]
end Go.Proofs.YtdieogcemmnaaaaGreatDoor.RX

namespace Go.Proofs.YtdieogcemmnaaaaGreatDoor
set_option linter.unusedSimpArgs false
set_option linter.unusedVariables false
open Go.Proofs.YtdieogcemmnaaaaGreatDoor RX
set_option maxRecDepth 100000
theorem name03_ok (s:Nm) (hs:s.length ≤ 100000):Tri Tryz.prog 78 #[sE s] HP.tt (fun v=>HP.pure (v = .bool (nameOk s))):=by
 refine tri_of_tree (ρ:=[.s s]) mixed Tryz.func78 tree_name03 ?_
 unfold t_name03
 simp only [T.den,E.prop,E.den,RX.look,F1.app,F2.app,Uni.int_i,Uni.nat_n,Uni.bool_c,Uni.str_s,Uni.adr_a,Uni.val_v,Uni.hp_p,hden,cden,V.den,W.den,A.den,BR.den,SA.den,FV.den,capV,exs,exP,allP,Cur.app,List.map_cons,List.map_nil,List.cons_append,List.nil_append,List.drop_succ_cons,List.drop_zero,List.length_cons,List.length_nil,Nat.zero_add,Nat.reduceAdd,Int.neg_neg,Bool.not_not,List.append_nil,Nat.add_zero,List.getElem?_cons_zero,List.getElem?_cons_succ,Decidable.not_not,semW_eq,ne_eq,Nat.reduceEqDiff,not_false_eq_true]
 have yes : ∀ {φ:Bool},nameOk s=φ → HP.ent HP.tt (HP.pure (Value.bool φ = .bool (nameOk s))):=fun h => .of fun _ _ _=>(by show Value.bool _=Value.bool _; rw [h])
 refine ⟨fun _ i => ∃ k:Nat,i=k ∧ k ≤ s.length ∧ ∀ c ∈ s.take k,c ≠ 47 ∧ c ≠ 0,fun _ i=>s.length - i.toNat,⟨0,rfl,Nat.zero_le _,by simp⟩,?_⟩
 rintro _ _ ⟨k,rfl,hk,hb⟩
 refine ⟨fun hlt => ?_,fun hge => ?_⟩
 ·obtain ⟨c,hc⟩:=getN (l:=s) (k:=k) (by omega)
  have hm:=List.mem_of_getElem? hc
  refine ⟨c.toNat,strIx (by decide) (by kernel_rfl) rfl hc,fun h=>yes ?_,fun h1=>⟨c.toNat,strIx (by decide) (by kernel_rfl) rfl hc,fun h=>yes ?_,fun h2=>⟨inI64' _ (by omega) (by omega),fun _=>⟨⟨k + 1,by omega,by omega,fun d hd => ?_⟩,by dsimp only; omega⟩⟩⟩⟩
  ·have:c=47:=UInt8.toNat_inj.1 (by have:(47:UInt8).toNat=47:=rfl; omega)
   subst this
   simp [nameOk,hm]
  ·have:c=0:=UInt8.toNat_inj.1 (by have:(0:UInt8).toNat=0:=rfl; omega)
   subst this
   simp [nameOk,hm]
  ·rw [List.take_add_one,hc,List.mem_append] at hd
   rcases hd with hd | hd
   ·exact hb d hd
   ·simp at hd
    subst hd
    refine ⟨fun e=>h1 (by rw [e]; rfl),fun e=>h2 (by rw [e]; rfl)⟩
 ·rw [List.take_of_length_le (by omega)] at hb
  have h47:(47:UInt8) ∉ s:=fun h=>(hb _ h).1 rfl
  have h0:(0:UInt8) ∉ s:=fun h=>(hb _ h).2 rfl
  refine ⟨fun h1=>⟨fun h2=>⟨fun h3=>yes ?_,fun h3=>yes ?_⟩,fun h2=>yes ?_⟩,fun h1=>yes ?_⟩
  ·have h1':1 ≤ s.length:=by omega
   have h2':s.length ≤ 16:=by omega
   simp [nameOk,h47,h0,h1',h2',h3]
  ·simp [nameOk,h3]
  ·have h2' : ¬ s.length ≤ 16:=by omega
   simp [nameOk,h2']
  ·have h1' : ¬ 1 ≤ s.length:=by omega
   simp [nameOk,h1']
theorem undInt:Tryz.prog.underlying 3=some (.int .i64):=by kernel_rfl
theorem infoInt' : ∃ i,Tryz.prog.info? 3=some i ∧ i.size=1:=by
 obtain ⟨i,hi,_,h2,_⟩:=info_parts infoInt
 exact ⟨i,hi,h2⟩
theorem undEs':Tryz.prog.underlying 41=some (.slice 140):=by kernel_rfl
end Go.Proofs.YtdieogcemmnaaaaGreatDoor

namespace Go.Proofs.YtdieogcemmnaaaaGreatDoor.RX
set_option maxRecDepth 100000
-- tideline/tidelineref04.New: ρ:=[]
def t_rNew:T :=
(.new
(.ret (.w (.a (.ptr (.v 0) 0))) [(.b (.v 0),.cells [.int .i64 (.i 0),.int .i64 (.i 1),.int .i64 (.i 1),.sl .nil (.n 0) (.n 0),.sl .nil (.n 0) (.n 0),.int .i64 (.i 0),.int .i64 (.i 0),.int .i64 (.i 0),.sl .nil (.n 0) (.n 0),.sl .nil (.n 0) (.n 0),.int .i64 (.i 0),.int .i64 (.i 0),.int .i64 (.i 0),.sl .nil (.n 0) (.n 0),.sl .nil (.n 0) (.n 0),.int .i64 (.i 0),.int .i64 (.i 0),.int .i64 (.i 0),.sl .nil (.n 0) (.n 0),.sl .nil (.n 0) (.n 0),.int .i64 (.i 0),.int .i64 (.i 0),.int .i64 (.i 0),.sl .nil (.n 0) (.n 0),.sl .nil (.n 0) (.n 0),.int .i64 (.i 0),.int .i64 (.i 0),.int .i64 (.i 0),.sl .nil (.n 0) (.n 0),.sl .nil (.n 0) (.n 0),.int .i64 (.i 0),.int .i64 (.i 0),.int .i64 (.i 0),.sl .nil (.n 0) (.n 0),.sl .nil (.n 0) (.n 0),.int .i64 (.i 0),.int .i64 (.i 0),.int .i64 (.i 0),.sl .nil (.n 0) (.n 0),.sl .nil (.n 0) (.n 0),.int .i64 (.i 0),.int .i64 (.i 0),.int .i64 (.i 0),.sl .nil (.n 0) (.n 0),.sl .nil (.n 0) (.n 0),.int .i64 (.i 0),.int .i64 (.i 0),.int .i64 (.i 0),.sl .nil (.n 0) (.n 0),.sl .nil (.n 0) (.n 0),.int .i64 (.i 0),.int .i64 (.i 0),.int .i64 (.i 0),.sl .nil (.n 0) (.n 0),.sl .nil (.n 0) (.n 0),.int .i64 (.i 0),.int .i64 (.i 0),.int .i64 (.i 0),.sl .nil (.n 0) (.n 0),.sl .nil (.n 0) (.n 0),.int .i64 (.i 0),.int .i64 (.i 0),.int .i64 (.i 0),.sl .nil (.n 0) (.n 0),.sl .nil (.n 0) (.n 0),.int .i64 (.i 0),.int .i64 (.i 0),.int .i64 (.i 0),.sl .nil (.n 0) (.n 0),.sl .nil (.n 0) (.n 0),.int .i64 (.i 0),.int .i64 (.i 0),.int .i64 (.i 0),.sl .nil (.n 0) (.n 0),.sl .nil (.n 0) (.n 0),.int .i64 (.i 0),.int .i64 (.i 0),.int .i64 (.i 0),.sl .nil (.n 0) (.n 0),.sl .nil (.n 0) (.n 0),.int .i64 (.i 0),.int .i64 (.i 0),.int .i64 (.i 0),.sl .nil (.n 0) (.n 0),.sl .nil (.n 0) (.n 0),.int .i64 (.i 0),.int .i64 (.i 0),.int .i64 (.i 0),.sl .nil (.n 0) (.n 0),.sl .nil (.n 0) (.n 0),.int .i64 (.i 0),.int .i64 (.i 0),.int .i64 (.i 0),.sl .nil (.n 0) (.n 0),.sl .nil (.n 0) (.n 0),.int .i64 (.i 0),.int .i64 (.i 0),.int .i64 (.i 0),.sl .nil (.n 0) (.n 0),.sl .nil (.n 0) (.n 0),.int .i64 (.i 0),.int .i64 (.i 0),.int .i64 (.i 0),.sl .nil (.n 0) (.n 0),.sl .nil (.n 0) (.n 0),.int .i64 (.i 0),.int .i64 (.i 0),.int .i64 (.i 0),.sl .nil (.n 0) (.n 0),.sl .nil (.n 0) (.n 0),.int .i64 (.i 0),.int .i64 (.i 0),.int .i64 (.i 0),.sl .nil (.n 0) (.n 0),.sl .nil (.n 0) (.n 0),.int .i64 (.i 0),.int .i64 (.i 0),.int .i64 (.i 0),.sl .nil (.n 0) (.n 0),.sl .nil (.n 0) (.n 0),.int .i64 (.i 0),.int .i64 (.i 0),.int .i64 (.i 0),.sl .nil (.n 0) (.n 0),.sl .nil (.n 0) (.n 0),.int .i64 (.i 0),.int .i64 (.i 0),.int .i64 (.i 0),.sl .nil (.n 0) (.n 0),.sl .nil (.n 0) (.n 0),.int .i64 (.i 0),.int .i64 (.i 0),.int .i64 (.i 0),.sl .nil (.n 0) (.n 0),.sl .nil (.n 0) (.n 0),.int .i64 (.i 0),.int .i64 (.i 0),.int .i64 (.i 0),.sl .nil (.n 0) (.n 0),.sl .nil (.n 0) (.n 0),.int .i64 (.i 0),.int .i64 (.i 0),.int .i64 (.i 0),.sl .nil (.n 0) (.n 0),.sl .nil (.n 0) (.n 0),.int .i64 (.i 0),.int .i64 (.i 0),.int .i64 (.i 0),.sl .nil (.n 0) (.n 0),.sl .nil (.n 0) (.n 0),.int .i64 (.i 0),.int .i64 (.i 0),.int .i64 (.i 0),.sl .nil (.n 0) (.n 0),.sl .nil (.n 0) (.n 0),.int .i64 (.i 0),.int .i64 (.i 0),.int .i64 (.i 0),.sl .nil (.n 0) (.n 0),.sl .nil (.n 0) (.n 0),.int .i64 (.i 0),.int .i64 (.i 0),.int .i64 (.i 0),.sl .nil (.n 0) (.n 0),.sl .nil (.n 0) (.n 0),.int .i64 (.i 0),.int .i64 (.i 0),.int .i64 (.i 0),.sl .nil (.n 0) (.n 0),.sl .nil (.n 0) (.n 0),.int .i64 (.i 0),.int .i64 (.i 0),.int .i64 (.i 0),.sl .nil (.n 0) (.n 0),.sl .nil (.n 0) (.n 0),.int .i64 (.i 0),.int .i64 (.i 0),.int .i64 (.i 0),.sl .nil (.n 0) (.n 0),.sl .nil (.n 0) (.n 0),.int .i64 (.i 0),.int .i64 (.i 0),.int .i64 (.i 0),.sl .nil (.n 0) (.n 0),.sl .nil (.n 0) (.n 0),.int .i64 (.i 0),.int .i64 (.i 0),.int .i64 (.i 0),.sl .nil (.n 0) (.n 0),.sl .nil (.n 0) (.n 0),.int .i64 (.i 0),.int .i64 (.i 0),.int .i64 (.i 0),.sl .nil (.n 0) (.n 0),.sl .nil (.n 0) (.n 0),.int .i64 (.i 0),.int .i64 (.i 0),.int .i64 (.i 0),.sl .nil (.n 0) (.n 0),.sl .nil (.n 0) (.n 0),.int .i64 (.i 0),.int .i64 (.i 0),.int .i64 (.i 0),.sl .nil (.n 0) (.n 0),.sl .nil (.n 0) (.n 0),.int .i64 (.i 0),.int .i64 (.i 0),.int .i64 (.i 0),.sl .nil (.n 0) (.n 0),.sl .nil (.n 0) (.n 0),.int .i64 (.i 0),.int .i64 (.i 0),.int .i64 (.i 0),.sl .nil (.n 0) (.n 0),.sl .nil (.n 0) (.n 0),.int .i64 (.i 0),.int .i64 (.i 0),.int .i64 (.i 0),.sl .nil (.n 0) (.n 0),.sl .nil (.n 0) (.n 0),.int .i64 (.i 0),.int .i64 (.i 0),.int .i64 (.i 0),.sl .nil (.n 0) (.n 0),.sl .nil (.n 0) (.n 0),.int .i64 (.i 0),.int .i64 (.i 0),.int .i64 (.i 0),.sl .nil (.n 0) (.n 0),.sl .nil (.n 0) (.n 0),.int .i64 (.i 0),.int .i64 (.i 0),.int .i64 (.i 0),.sl .nil (.n 0) (.n 0),.sl .nil (.n 0) (.n 0),.int .i64 (.i 0),.int .i64 (.i 0),.int .i64 (.i 0),.sl .nil (.n 0) (.n 0),.sl .nil (.n 0) (.n 0),.int .i64 (.i 0),.int .i64 (.i 0),.int .i64 (.i 0),.sl .nil (.n 0) (.n 0),.sl .nil (.n 0) (.n 0),.int .i64 (.i 0),.int .i64 (.i 0),.int .i64 (.i 0),.sl .nil (.n 0) (.n 0),.sl .nil (.n 0) (.n 0),.int .i64 (.i 0),.int .i64 (.i 0),.int .i64 (.i 0),.sl .nil (.n 0) (.n 0),.sl .nil (.n 0) (.n 0),.int .i64 (.i 0),.int .i64 (.i 0),.int .i64 (.i 0),.sl .nil (.n 0) (.n 0),.sl .nil (.n 0) (.n 0),.int .i64 (.i 0),.int .i64 (.i 0),.int .i64 (.i 0),.sl .nil (.n 0) (.n 0),.sl .nil (.n 0) (.n 0),.int .i64 (.i 0),.int .i64 (.i 0),.int .i64 (.i 0),.sl .nil (.n 0) (.n 0),.sl .nil (.n 0) (.n 0),.int .i64 (.i 0),.int .i64 (.i 0),.int .i64 (.i 0),.sl .nil (.n 0) (.n 0),.sl .nil (.n 0) (.n 0),.int .i64 (.i 0),.int .i64 (.i 0),.int .i64 (.i 0),.sl .nil (.n 0) (.n 0),.sl .nil (.n 0) (.n 0),.int .i64 (.i 0),.int .i64 (.i 0),.int .i64 (.i 0),.sl .nil (.n 0) (.n 0),.sl .nil (.n 0) (.n 0),.int .i64 (.i 0),.int .i64 (.i 0),.int .i64 (.i 0),.sl .nil (.n 0) (.n 0),.sl .nil (.n 0) (.n 0),.int .i64 (.i 0),.int .i64 (.i 0),.int .i64 (.i 0),.sl .nil (.n 0) (.n 0),.sl .nil (.n 0) (.n 0),.int .i64 (.i 0),.int .i64 (.i 0),.int .i64 (.i 0),.sl .nil (.n 0) (.n 0),.sl .nil (.n 0) (.n 0),.int .i64 (.i 0),.int .i64 (.i 0),.int .i64 (.i 0),.sl .nil (.n 0) (.n 0),.sl .nil (.n 0) (.n 0),.int .i64 (.i 0),.int .i64 (.i 0),.int .i64 (.i 0),.sl .nil (.n 0) (.n 0),.sl .nil (.n 0) (.n 0),.int .i64 (.i 0),.int .i64 (.i 0),.int .i64 (.i 0),.sl .nil (.n 0) (.n 0),.sl .nil (.n 0) (.n 0),.int .i64 (.i 0),.int .i64 (.i 0),.int .i64 (.i 0),.sl .nil (.n 0) (.n 0),.sl .nil (.n 0) (.n 0)] 144)]))
theorem tree_rNew:tree Tryz.prog { absT:=[142,144],keep:=[30,76,78,144,198,196,142,139,24,145],opn:=true,rdf:=true } Tryz.f22 [] [] 0=t_rNew:=by kernel_rfl
def t_rEntry:T :=
(.read (.indexAddr 142 (.tmp 12) (.tmp 10)) 0 [(12,.w (.a (.ptr (.v 0) 0))),(10,.w (.a (.int .i64 (.v 2))))] [(.b (.v 0),.prop 1)] [.v] (.w (.a (.val 4)))
(.read (.fieldAddr 43 (.tmp 13) 4) 0 [(13,.w (.a (.val 4)))] [(.b (.v 0),.prop 1)] [.v] (.w (.a (.val 5)))
(.read (.load 41 (.tmp 14)) 41 [(14,.w (.a (.val 5)))] [(.b (.v 0),.prop 1)] [.a,.n,.n] (.w (.a (.sl (.v 6) (.v 7) (.v 8))))
(.loop [.i,.i] [.e (.o1 .neg (.o1 .neg (.i 0))),.e (.o1 .neg (.o1 .neg (.i 0)))]
(.br (.o2 .lt (.v 10) (.o1 .ofNat (.v 7)))
(.need (.o2 .le (.i 0) (.v 10))
(.need (.o1 .isSome (.v 6))
(.read (.load 9 (.tmp 25)) 9 [(25,.w (.a (.eptr 6 (.v 10) 2 0)))] [(.b (.v 0),.prop 1)] [.s] (.w (.a (.str (.v 11))))
(.br (.o2 .seq (.v 11) (.v 3))
(.read (.load 3 (.tmp 32)) 3 [(32,.w (.a (.eptr 6 (.v 10) 2 1)))] [(.b (.v 0),.prop 1)] [.i] (.w (.a (.int .i64 (.v 12))))
(.ret (.w (.a (.int .i64 (.v 12)))) [(.b (.v 0),.prop 1)]))
(.need (.o1 (.inr .i64) (.o2 .add (.v 10) (.i 1)))
(.again 0 [.e (.o1 .neg (.o1 .neg (.v 9))),.e (.o1 .neg (.o1 .neg (.o2 .add (.v 10) (.i 1))))]))))))
(.ret (.w (.a (.int .i64 (.i (-1))))) [(.b (.v 0),.prop 1)]))))))
theorem tree_rEntry:tree Tryz.prog { absT:=[142,144],keep:=[30,76,78,144,198,196,142,139,24,145],opn:=true,rdf:=true } Tryz.f196 [.a (.ptr (.v 0) 0),.a (.int .i64 (.v 2)),.a (.str (.v 3))] [(.b (.v 0),.prop 1)] 4=t_rEntry:=by kernel_rfl
def t_rFind:T :=
(.call 197 [.a (.str (.v 2))] [] [.a,.n,.n,.p,.c] (.tup [.a (.sl (.v 3) (.v 4) (.v 5)),.a (.bool (.v 7))]) [(.a 3,.prop 6)]
(.br (.o1 .not (.v 7))
(.ret (.tup [.a (.int .i64 (.i 0)),.a (.int .i64 (.i 20))]) [(.b (.v 0),.prop 1)])
(.loop [.i,.i,.i,.i] [.e (.o1 .neg (.o1 .neg (.i 0))),.e (.o1 .neg (.o1 .neg (.i 0))),.e (.o1 .neg (.o1 .neg (.i 0))),.e (.o1 .neg (.o1 .neg (.i 0)))]
(.br (.o2 .lt (.v 11) (.o1 .ofNat (.v 4)))
(.read (.indexAddr 142 (.tmp 26) (.tmp 24)) 0 [(26,.w (.a (.ptr (.v 0) 0))),(24,.w (.a (.int .i64 (.v 10))))] [(.b (.v 0),.prop 1)] [.v] (.w (.a (.val 12)))
(.read (.fieldAddr 43 (.tmp 27) 1) 0 [(27,.w (.a (.val 12)))] [(.b (.v 0),.prop 1)] [.v] (.w (.a (.val 13)))
(.read (.load 3 (.tmp 28)) 3 [(28,.w (.a (.val 13)))] [(.b (.v 0),.prop 1)] [.i] (.w (.a (.int .i64 (.v 14))))
(.br (.o1 .not (.o2 .eq (.v 14) (.i 1)))
(.ret (.tup [.a (.int .i64 (.i 0)),.a (.int .i64 (.i 23))]) [(.b (.v 0),.prop 1)])
(.need (.o2 .le (.i 0) (.v 11))
(.need (.o1 .isSome (.v 3))
(.read (.load 9 (.tmp 35)) 9 [(35,.w (.a (.eptr 3 (.v 11) 1 0)))] [(.a 3,.prop 6)] [.s] (.w (.a (.str (.v 15))))
(.call 196 [.a (.ptr (.v 0) 0),.a (.int .i64 (.v 10)),.a (.str (.v 15))] [(.b (.v 0),.prop 1)] [.i] (.w (.a (.int .i64 (.v 16)))) [(.b (.v 0),.prop 1)]
(.br (.o2 .lt (.v 16) (.i 0))
(.ret (.tup [.a (.int .i64 (.i 0)),.a (.int .i64 (.i 21))]) [(.b (.v 0),.prop 1)])
(.need (.o1 (.inr .i64) (.o2 .add (.v 11) (.i 1)))
(.again 0 [.e (.o1 .neg (.o1 .neg (.v 8))),.e (.o1 .neg (.o1 .neg (.v 9))),.e (.o1 .neg (.o1 .neg (.v 16))),.e (.o1 .neg (.o1 .neg (.o2 .add (.v 11) (.i 1))))])))))))))))
(.ret (.tup [.a (.int .i64 (.v 10)),.a (.int .i64 (.i 0))]) [(.b (.v 0),.prop 1)])))))
theorem tree_rFind:tree Tryz.prog { absT:=[142,144],keep:=[30,76,78,144,198,196,142,139,24,145],opn:=true,rdf:=true } Tryz.f142 [.a (.ptr (.v 0) 0),.a (.str (.v 2))] [(.b (.v 0),.prop 1)] 3=t_rFind:=by kernel_rfl
def t_rUp:T :=
(.call 197 [.a (.str (.v 0))] [] [.a,.n,.n,.p,.c] (.tup [.a (.sl (.v 1) (.v 2) (.v 3)),.a (.bool (.v 5))]) [(.a 1,.prop 4)]
(.br (.o1 .not (.v 5))
(.ret (.tup [.a (.str (.s [])),.a (.str (.s [])),.a (.int .i64 (.i 20))]) [])
(.br (.o2 .eq (.o1 .ofNat (.v 2)) (.i 0))
(.ret (.tup [.a (.str (.s [])),.a (.str (.s [])),.a (.int .i64 (.i 20))]) [])
(.need (.o1 (.inr .i64) (.o2 .sub (.o1 .ofNat (.v 2)) (.i 1)))
(.read (.slice 29 (.tmp 23) none (some (.tmp 24)) none) 29 [(23,.w (.a (.sl (.v 1) (.v 2) (.v 3)))),(24,.w (.a (.int .i64 (.o2 .sub (.o1 .ofNat (.v 2)) (.i 1)))))] [(.a 1,.prop 4)] [.a,.n,.n] (.w (.a (.sl (.v 6) (.v 7) (.v 8))))
(.need (.o2 .le (.i 0) (.o2 .sub (.o1 .ofNat (.v 2)) (.i 1)))
(.need (.o2 .lt (.o2 .sub (.o1 .ofNat (.v 2)) (.i 1)) (.o1 .ofNat (.v 2)))
(.need (.o1 .isSome (.v 1))
(.read (.load 9 (.tmp 29)) 9 [(29,.w (.a (.eptr 1 (.o2 .sub (.o1 .ofNat (.v 2)) (.i 1)) 1 0)))] [(.a 1,.prop 4)] [.s] (.w (.a (.str (.v 9))))
(.call 198 [.a (.sl (.v 6) (.v 7) (.v 8))] [(.a 1,.prop 4)] [.s] (.w (.a (.str (.v 10)))) [(.a 1,.prop 4)]
(.ret (.tup [.a (.str (.v 10)),.a (.str (.v 9)),.a (.int .i64 (.i 0))]) [])))))))))))
theorem tree_rUp:tree Tryz.prog { absT:=[142,144],keep:=[30,76,78,144,198,196,142,139,24,145],opn:=true,rdf:=true } Tryz.f141 [.a (.str (.v 0))] [] 1=t_rUp:=by kernel_rfl
def t_rPlace:T :=
(.call 141 [.a (.str (.v 2))] [] [.s,.s,.i] (.tup [.a (.str (.v 3)),.a (.str (.v 4)),.a (.int .i64 (.v 5))]) []
(.br (.o1 .not (.o2 .eq (.v 5) (.i 0)))
(.ret (.tup [.a (.int .i64 (.i 0)),.a (.str (.s [])),.a (.int .i64 (.v 5))]) [(.b (.v 0),.prop 1)])
(.call 142 [.a (.ptr (.v 0) 0),.a (.str (.v 3))] [(.b (.v 0),.prop 1)] [.i,.i] (.tup [.a (.int .i64 (.v 6)),.a (.int .i64 (.v 7))]) [(.b (.v 0),.prop 1)]
(.br (.o1 .not (.o2 .eq (.v 7) (.i 0)))
(.ret (.tup [.a (.int .i64 (.i 0)),.a (.str (.s [])),.a (.int .i64 (.v 7))]) [(.b (.v 0),.prop 1)])
(.read (.indexAddr 142 (.tmp 32) (.tmp 30)) 0 [(32,.w (.a (.ptr (.v 0) 0))),(30,.w (.a (.int .i64 (.v 6))))] [(.b (.v 0),.prop 1)] [.v] (.w (.a (.val 8)))
(.read (.fieldAddr 43 (.tmp 33) 1) 0 [(33,.w (.a (.val 8)))] [(.b (.v 0),.prop 1)] [.v] (.w (.a (.val 9)))
(.read (.load 3 (.tmp 34)) 3 [(34,.w (.a (.val 9)))] [(.b (.v 0),.prop 1)] [.i] (.w (.a (.int .i64 (.v 10))))
(.br (.o1 .not (.o2 .eq (.v 10) (.i 1)))
(.ret (.tup [.a (.int .i64 (.i 0)),.a (.str (.s [])),.a (.int .i64 (.i 23))]) [(.b (.v 0),.prop 1)])
(.call 196 [.a (.ptr (.v 0) 0),.a (.int .i64 (.v 6)),.a (.str (.v 4))] [(.b (.v 0),.prop 1)] [.i] (.w (.a (.int .i64 (.v 11)))) [(.b (.v 0),.prop 1)]
(.br (.o2 .le (.i 0) (.v 11))
(.ret (.tup [.a (.int .i64 (.i 0)),.a (.str (.s [])),.a (.int .i64 (.i 22))]) [(.b (.v 0),.prop 1)])
(.ret (.tup [.a (.int .i64 (.v 6)),.a (.str (.v 4)),.a (.int .i64 (.i 0))]) [(.b (.v 0),.prop 1)])))))))))))
theorem tree_rPlace:tree Tryz.prog { absT:=[142,144],keep:=[30,76,78,144,198,196,142,139,24,145],opn:=true,rdf:=true } Tryz.f139 [.a (.ptr (.v 0) 0),.a (.str (.v 2))] [(.b (.v 0),.prop 1)] 3=t_rPlace:=by kernel_rfl
def t_rPut:T :=
(.read (.indexAddr 142 (.tmp 14) (.tmp 12)) 0 [(14,.w (.a (.ptr (.v 0) 0))),(12,.w (.a (.int .i64 (.v 2))))] [(.b (.v 0),.prop 1)] [.v] (.w (.a (.val 5)))
(.read (.fieldAddr 43 (.tmp 15) 4) 0 [(15,.w (.a (.val 5)))] [(.b (.v 0),.prop 1)] [.v] (.w (.a (.val 6)))
(.read (.load 41 (.tmp 16)) 41 [(16,.w (.a (.val 6)))] [(.b (.v 0),.prop 1)] [.a,.n,.n] (.w (.a (.sl (.v 7) (.v 8) (.v 9))))
(.new
(.loop [.a,.n,.n,.i,.p] [.a (.b (.v 10) 0),.e (.o2 .nadd (.n 0) (.n 0)),.e (.o2 .nadd (.n 0) (.n 0)),.e (.o1 .neg (.o1 .neg (.i 0))),.p [(.b (.v 10),.cells [] 140)]]
(.br (.o2 .lt (.v 14) (.o1 .ofNat (.v 8)))
(.need (.o2 .le (.i 0) (.v 14))
(.need (.o1 .isSome (.v 7))
(.read (.load 9 (.tmp 27)) 9 [(27,.w (.a (.eptr 7 (.v 14) 2 0)))] [(.b (.v 0),.prop 1)] [.s] (.w (.a (.str (.v 16))))
(.br (.o2 .slt (.v 16) (.v 3))
(.read (.load 140 (.tmp 35)) 140 [(35,.w (.a (.eptr 7 (.v 14) 2 0)))] [(.b (.v 0),.prop 1)] [.s,.i] (.w (.agg [.str (.v 17),.int .i64 (.v 18)]))
(.new
(.op (.call ⟨.builtin .append,#[.tmp 32,.tmp 37],#[41,41]⟩) 41 [(32,.w (.a (.sl (.v 11) (.v 12) (.v 13)))),(37,.w (.a (.sl (.b (.v 19) 0) (.n 1) (.n 1))))] [(.a 11,.prop 15),(.b (.v 19),.cells [.str (.v 17),.int .i64 (.v 18)] 140)] [.a,.n,.n,.p] (.w (.a (.sl (.v 20) (.v 21) (.v 22)))) [(.a 20,.prop 23),(.b (.v 19),.cells [.str (.v 17),.int .i64 (.v 18)] 140)]
(.need (.o1 (.inr .i64) (.o2 .add (.v 14) (.i 1)))
(.again 0 [.a (.v 20),.e (.o2 .nadd (.v 21) (.n 0)),.e (.o2 .nadd (.v 22) (.n 0)),.e (.o1 .neg (.o1 .neg (.o2 .add (.v 14) (.i 1)))),.p [(.a 20,.prop 23)]])))))
(.new
(.op (.call ⟨.builtin .append,#[.tmp 41,.tmp 45],#[41,41]⟩) 41 [(41,.w (.a (.sl (.v 11) (.v 12) (.v 13)))),(45,.w (.a (.sl (.b (.v 17) 0) (.n 1) (.n 1))))] [(.a 11,.prop 15),(.b (.v 17),.cells [.str (.v 3),.int .i64 (.v 4)] 140)] [.a,.n,.n,.p] (.w (.a (.sl (.v 18) (.v 19) (.v 20)))) [(.a 18,.prop 21),(.b (.v 17),.cells [.str (.v 3),.int .i64 (.v 4)] 140)]
(.read (.slice 41 (.tmp 50) (some (.tmp 51)) none none) 41 [(50,.w (.a (.sl (.v 7) (.v 8) (.v 9)))),(51,.w (.a (.int .i64 (.v 14))))] [(.b (.v 0),.prop 1)] [.a,.n,.n] (.w (.a (.sl (.v 22) (.v 23) (.v 24))))
(.op (.call ⟨.builtin .append,#[.tmp 49,.tmp 52],#[41,41]⟩) 41 [(49,.w (.a (.sl (.v 18) (.v 19) (.v 20)))),(52,.w (.a (.sl (.v 22) (.v 23) (.v 24))))] [(.a 18,.prop 21),(.b (.v 0),.prop 1)] [.a,.n,.n,.p] (.w (.a (.sl (.v 25) (.v 26) (.v 27)))) [(.a 25,.prop 28),(.b (.v 0),.prop 1)]
(.read (.indexAddr 142 (.tmp 55) (.tmp 48)) 0 [(55,.w (.a (.ptr (.v 0) 0))),(48,.w (.a (.int .i64 (.v 2))))] [(.b (.v 0),.prop 1)] [.v] (.w (.a (.val 29)))
(.read (.fieldAddr 43 (.tmp 56) 4) 0 [(56,.w (.a (.val 29)))] [(.b (.v 0),.prop 1)] [.v] (.w (.a (.val 30)))
(.op (.store 41 (.tmp 57) (.tmp 53)) 0 [(57,.w (.a (.val 30))),(53,.w (.a (.sl (.v 25) (.v 26) (.v 27))))] [(.b (.v 0),.prop 1),(.a 25,.prop 28)] [.p] (.tup []) [(.b (.v 0),.prop 31)]
(.ret (.tup []) [(.b (.v 0),.prop 31)]))))))))))))
(.new
(.op (.call ⟨.builtin .append,#[.tmp 41,.tmp 45],#[41,41]⟩) 41 [(41,.w (.a (.sl (.v 11) (.v 12) (.v 13)))),(45,.w (.a (.sl (.b (.v 16) 0) (.n 1) (.n 1))))] [(.a 11,.prop 15),(.b (.v 16),.cells [.str (.v 3),.int .i64 (.v 4)] 140)] [.a,.n,.n,.p] (.w (.a (.sl (.v 17) (.v 18) (.v 19)))) [(.a 17,.prop 20),(.b (.v 16),.cells [.str (.v 3),.int .i64 (.v 4)] 140)]
(.read (.slice 41 (.tmp 50) (some (.tmp 51)) none none) 41 [(50,.w (.a (.sl (.v 7) (.v 8) (.v 9)))),(51,.w (.a (.int .i64 (.v 14))))] [(.b (.v 0),.prop 1)] [.a,.n,.n] (.w (.a (.sl (.v 21) (.v 22) (.v 23))))
(.op (.call ⟨.builtin .append,#[.tmp 49,.tmp 52],#[41,41]⟩) 41 [(49,.w (.a (.sl (.v 17) (.v 18) (.v 19)))),(52,.w (.a (.sl (.v 21) (.v 22) (.v 23))))] [(.a 17,.prop 20),(.b (.v 0),.prop 1)] [.a,.n,.n,.p] (.w (.a (.sl (.v 24) (.v 25) (.v 26)))) [(.a 24,.prop 27),(.b (.v 0),.prop 1)]
(.read (.indexAddr 142 (.tmp 55) (.tmp 48)) 0 [(55,.w (.a (.ptr (.v 0) 0))),(48,.w (.a (.int .i64 (.v 2))))] [(.b (.v 0),.prop 1)] [.v] (.w (.a (.val 28)))
(.read (.fieldAddr 43 (.tmp 56) 4) 0 [(56,.w (.a (.val 28)))] [(.b (.v 0),.prop 1)] [.v] (.w (.a (.val 29)))
(.op (.store 41 (.tmp 57) (.tmp 53)) 0 [(57,.w (.a (.val 29))),(53,.w (.a (.sl (.v 24) (.v 25) (.v 26))))] [(.b (.v 0),.prop 1),(.a 24,.prop 27)] [.p] (.tup []) [(.b (.v 0),.prop 30)]
(.ret (.tup []) [(.b (.v 0),.prop 30)]))))))))))))))
theorem tree_rPut:tree Tryz.prog { absT:=[142,144],hv:=[(0,[.b (.v 10)])],keep:=[30,76,78,144,198,196,142,139,24,145],opn:=true,rdf:=true } Tryz.f140 [.a (.ptr (.v 0) 0),.a (.int .i64 (.v 2)),.a (.str (.v 3)),.a (.int .i64 (.v 4))] [(.b (.v 0),.prop 1)] 5=t_rPut:=by kernel_rfl
def t_rDrop:T :=
(.read (.indexAddr 142 (.tmp 12) (.tmp 10)) 0 [(12,.w (.a (.ptr (.v 0) 0))),(10,.w (.a (.int .i64 (.v 2))))] [(.b (.v 0),.prop 1)] [.v] (.w (.a (.val 4)))
(.read (.fieldAddr 43 (.tmp 13) 4) 0 [(13,.w (.a (.val 4)))] [(.b (.v 0),.prop 1)] [.v] (.w (.a (.val 5)))
(.read (.load 41 (.tmp 14)) 41 [(14,.w (.a (.val 5)))] [(.b (.v 0),.prop 1)] [.a,.n,.n] (.w (.a (.sl (.v 6) (.v 7) (.v 8))))
(.new
(.loop [.a,.n,.n,.i,.p] [.a (.b (.v 9) 0),.e (.o2 .nadd (.n 0) (.n 0)),.e (.o2 .nadd (.n 0) (.n 0)),.e (.o1 .neg (.o1 .neg (.i 0))),.p [(.b (.v 9),.cells [] 140)]]
(.br (.o2 .lt (.v 13) (.o1 .ofNat (.v 7)))
(.need (.o2 .le (.i 0) (.v 13))
(.need (.o1 .isSome (.v 6))
(.read (.load 9 (.tmp 26)) 9 [(26,.w (.a (.eptr 6 (.v 13) 2 0)))] [(.b (.v 0),.prop 1)] [.s] (.w (.a (.str (.v 15))))
(.br (.o1 .not (.o2 .seq (.v 15) (.v 3)))
(.read (.load 140 (.tmp 33)) 140 [(33,.w (.a (.eptr 6 (.v 13) 2 0)))] [(.b (.v 0),.prop 1)] [.s,.i] (.w (.agg [.str (.v 16),.int .i64 (.v 17)]))
(.new
(.op (.call ⟨.builtin .append,#[.tmp 30,.tmp 35],#[41,41]⟩) 41 [(30,.w (.a (.sl (.v 10) (.v 11) (.v 12)))),(35,.w (.a (.sl (.b (.v 18) 0) (.n 1) (.n 1))))] [(.a 10,.prop 14),(.b (.v 18),.cells [.str (.v 16),.int .i64 (.v 17)] 140)] [.a,.n,.n,.p] (.w (.a (.sl (.v 19) (.v 20) (.v 21)))) [(.a 19,.prop 22),(.b (.v 18),.cells [.str (.v 16),.int .i64 (.v 17)] 140)]
(.need (.o1 (.inr .i64) (.o2 .add (.v 13) (.i 1)))
(.again 0 [.a (.v 19),.e (.o2 .nadd (.v 20) (.n 0)),.e (.o2 .nadd (.v 21) (.n 0)),.e (.o1 .neg (.o1 .neg (.o2 .add (.v 13) (.i 1)))),.p [(.a 19,.prop 22)]])))))
(.need (.o1 (.inr .i64) (.o2 .add (.v 13) (.i 1)))
(.again 0 [.a (.v 10),.e (.o2 .nadd (.v 11) (.n 0)),.e (.o2 .nadd (.v 12) (.n 0)),.e (.o1 .neg (.o1 .neg (.o2 .add (.v 13) (.i 1)))),.p [(.a 10,.prop 14)]]))))))
(.read (.indexAddr 142 (.tmp 41) (.tmp 38)) 0 [(41,.w (.a (.ptr (.v 0) 0))),(38,.w (.a (.int .i64 (.v 2))))] [(.b (.v 0),.prop 1)] [.v] (.w (.a (.val 15)))
(.read (.fieldAddr 43 (.tmp 42) 4) 0 [(42,.w (.a (.val 15)))] [(.b (.v 0),.prop 1)] [.v] (.w (.a (.val 16)))
(.op (.store 41 (.tmp 43) (.tmp 39)) 0 [(43,.w (.a (.val 16))),(39,.w (.a (.sl (.v 10) (.v 11) (.v 12))))] [(.b (.v 0),.prop 1),(.a 10,.prop 14)] [.p] (.tup []) [(.b (.v 0),.prop 17)]
(.ret (.tup []) [(.b (.v 0),.prop 17)]))))))))))
theorem tree_rDrop:tree Tryz.prog { absT:=[142,144],hv:=[(0,[.b (.v 9)])],keep:=[30,76,78,144,198,196,142,139,24,145],opn:=true,rdf:=true } Tryz.f143 [.a (.ptr (.v 0) 0),.a (.int .i64 (.v 2)),.a (.str (.v 3))] [(.b (.v 0),.prop 1)] 4=t_rDrop:=by kernel_rfl
def t_rSize:T :=
(.new
(.loop [.a,.n,.n,.i,.p] [.a (.b (.v 5) 0),.e (.o2 .nadd (.n 0) (.n 0)),.e (.o2 .nadd (.n 0) (.n 0)),.e (.o1 .neg (.o1 .neg (.i 0))),.p [(.b (.v 5),.cells [] 5)]]
(.br (.o2 .lt (.v 9) (.v 4))
(.br (.o2 .lt (.v 9) (.o1 .ofNat (.v 1)))
(.need (.o2 .le (.i 0) (.v 9))
(.need (.o1 .isSome (.v 0))
(.read (.load 5 (.tmp 20)) 5 [(20,.w (.a (.eptr 0 (.v 9) 1 0)))] [(.a 0,.prop 3)] [.i] (.w (.a (.int .u8 (.v 11))))
(.new
(.op (.call ⟨.builtin .append,#[.tmp 17,.tmp 22],#[28,28]⟩) 28 [(17,.w (.a (.sl (.v 6) (.v 7) (.v 8)))),(22,.w (.a (.sl (.b (.v 12) 0) (.n 1) (.n 1))))] [(.a 6,.prop 10),(.b (.v 12),.cells [.int .u8 (.v 11)] 5)] [.a,.n,.n,.p] (.w (.a (.sl (.v 13) (.v 14) (.v 15)))) [(.a 13,.prop 16),(.b (.v 12),.cells [.int .u8 (.v 11)] 5)]
(.need (.o1 (.inr .i64) (.o2 .add (.v 9) (.i 1)))
(.again 0 [.a (.v 13),.e (.o2 .nadd (.v 14) (.n 0)),.e (.o2 .nadd (.v 15) (.n 0)),.e (.o1 .neg (.o1 .neg (.o2 .add (.v 9) (.i 1)))),.p [(.a 13,.prop 16)]])))))))
(.new
(.op (.call ⟨.builtin .append,#[.tmp 24,.tmp 25],#[28,28]⟩) 28 [(24,.w (.a (.sl (.v 6) (.v 7) (.v 8)))),(25,.w (.a (.sl (.b (.v 11) 0) (.n 1) (.n 1))))] [(.a 6,.prop 10),(.b (.v 11),.cells [.int .u8 (.i 0)] 5)] [.a,.n,.n,.p] (.w (.a (.sl (.v 12) (.v 13) (.v 14)))) [(.a 12,.prop 15),(.b (.v 11),.cells [.int .u8 (.i 0)] 5)]
(.need (.o1 (.inr .i64) (.o2 .add (.v 9) (.i 1)))
(.again 0 [.a (.v 12),.e (.o2 .nadd (.v 13) (.n 0)),.e (.o2 .nadd (.v 14) (.n 0)),.e (.o1 .neg (.o1 .neg (.o2 .add (.v 9) (.i 1)))),.p [(.a 12,.prop 15)]])))))
(.ret (.w (.a (.sl (.v 6) (.v 7) (.v 8)))) [(.a 0,.prop 3),(.a 6,.prop 10)]))))
theorem tree_rSize:tree Tryz.prog { absT:=[142,144],hv:=[(0,[.b (.v 5)])],keep:=[30,76,78,144,198,196,142,139,24,145],opn:=true,rdf:=true } Tryz.f145 [.a (.sl (.v 0) (.v 1) (.v 2)),.a (.int .i64 (.v 4))] [(.a 0,.prop 3)] 5=t_rSize:=by kernel_rfl
def t_rDo:T :=
(.new
(.new
(.call 77 [.a (.ptr (.v 0) 0),.agg [.int .i64 (.v 2),.str (.v 3),.str (.v 4),.int .i64 (.v 5),.int .i64 (.v 6),.sl (.v 7) (.v 8) (.v 9)]] [(.b (.v 0),.prop 1),(.a 7,.prop 10)] [.i,.i,.i,.i,.a,.n,.n,.p,.a,.n,.n,.p,.i,.p] (.tup [.agg [.int .i64 (.v 13),.int .i64 (.v 14),.int .i64 (.v 15),.int .i64 (.v 16),.sl (.v 17) (.v 18) (.v 19),.sl (.v 21) (.v 22) (.v 23)],.a (.int .i64 (.v 25))]) [(.a 17,.prop 20),(.a 21,.prop 24),(.b (.v 0),.prop 26),(.a 7,.prop 10)]
(.new
(.br (.o1 .not (.o2 .eq (.v 25) (.i 0)))
(.ret (.w (.agg [.int .i64 (.v 25),.int .i64 (.i 0),.int .i64 (.i 0),.int .i64 (.i 0),.sl .nil (.n 0) (.n 0),.sl .nil (.n 0) (.n 0)])) [(.b (.v 0),.prop 26),(.a 7,.prop 10)])
(.ret (.w (.agg [.int .i64 (.v 13),.int .i64 (.v 14),.int .i64 (.v 15),.int .i64 (.v 16),.sl (.v 17) (.v 18) (.v 19),.sl (.v 21) (.v 22) (.v 23)])) [(.b (.v 0),.prop 26),(.a 7,.prop 10),(.a 17,.prop 20),(.a 21,.prop 24)]))))))
theorem tree_rDo:tree Tryz.prog { absT:=[142,144],keep:=[30,76,78,144,198,196,142,139,24,145],turn:=[(77,[0])],opn:=true,rdf:=true } Tryz.f23 [.a (.ptr (.v 0) 0),.agg [.int .i64 (.v 2),.str (.v 3),.str (.v 4),.int .i64 (.v 5),.int .i64 (.v 6),.sl (.v 7) (.v 8) (.v 9)]] [(.b (.v 0),.prop 1),(.a 7,.prop 10)] 11=t_rDo:=by kernel_rfl
def t_rAll:T :=
(.new
(.loop [.a,.n,.n,.i,.p] [.a (.b (.v 2) 0),.e (.o2 .nadd (.n 0) (.n 0)),.e (.o2 .nadd (.n 0) (.n 0)),.e (.o1 .neg (.o1 .neg (.i 0))),.p [(.b (.v 2),.cells [] 43)]]
(.br (.o2 .lt (.v 6) (.i 64))
(.read (.indexAddr 142 (.tmp 13) (.tmp 11)) 0 [(13,.w (.a (.ptr (.v 0) 0))),(11,.w (.a (.int .i64 (.v 6))))] [(.b (.v 0),.prop 1)] [.v] (.w (.a (.val 8)))
(.read (.fieldAddr 43 (.tmp 14) 1) 0 [(14,.w (.a (.val 8)))] [(.b (.v 0),.prop 1)] [.v] (.w (.a (.val 9)))
(.read (.load 3 (.tmp 15)) 3 [(15,.w (.a (.val 9)))] [(.b (.v 0),.prop 1)] [.i] (.w (.a (.int .i64 (.v 10))))
(.br (.o1 .not (.o2 .eq (.v 10) (.i 0)))
(.read (.indexAddr 142 (.tmp 22) (.tmp 20)) 0 [(22,.w (.a (.ptr (.v 0) 0))),(20,.w (.a (.int .i64 (.v 6))))] [(.b (.v 0),.prop 1)] [.v] (.w (.a (.val 11)))
(.read (.load 43 (.tmp 23)) 43 [(23,.w (.a (.val 11)))] [(.b (.v 0),.prop 1)] [.i,.i,.i,.a,.n,.n,.a,.n,.n] (.w (.agg [.int .i64 (.v 12),.int .i64 (.v 13),.int .i64 (.v 14),.sl (.v 15) (.v 16) (.v 17),.sl (.v 18) (.v 19) (.v 20)]))
(.new
(.op (.call ⟨.builtin .append,#[.tmp 18,.tmp 25],#[36,36]⟩) 36 [(18,.w (.a (.sl (.v 3) (.v 4) (.v 5)))),(25,.w (.a (.sl (.b (.v 21) 0) (.n 1) (.n 1))))] [(.a 3,.prop 7),(.b (.v 21),.cells [.int .i64 (.v 12),.int .i64 (.v 13),.int .i64 (.v 14),.sl (.v 15) (.v 16) (.v 17),.sl (.v 18) (.v 19) (.v 20)] 43),(.b (.v 0),.prop 1)] [.a,.n,.n,.p] (.w (.a (.sl (.v 22) (.v 23) (.v 24)))) [(.a 22,.prop 25),(.b (.v 21),.cells [.int .i64 (.v 12),.int .i64 (.v 13),.int .i64 (.v 14),.sl (.v 15) (.v 16) (.v 17),.sl (.v 18) (.v 19) (.v 20)] 43),(.b (.v 0),.prop 1)]
(.need (.o1 (.inr .i64) (.o2 .add (.v 6) (.i 1)))
(.again 0 [.a (.v 22),.e (.o2 .nadd (.v 23) (.n 0)),.e (.o2 .nadd (.v 24) (.n 0)),.e (.o1 .neg (.o1 .neg (.o2 .add (.v 6) (.i 1)))),.p [(.a 22,.prop 25)]]))))))
(.need (.o1 (.inr .i64) (.o2 .add (.v 6) (.i 1)))
(.again 0 [.a (.v 3),.e (.o2 .nadd (.v 4) (.n 0)),.e (.o2 .nadd (.v 5) (.n 0)),.e (.o1 .neg (.o1 .neg (.o2 .add (.v 6) (.i 1)))),.p [(.a 3,.prop 7)]]))))))
(.ret (.w (.a (.sl (.v 3) (.v 4) (.v 5)))) [(.b (.v 0),.prop 1),(.a 3,.prop 7)]))))
theorem tree_rAll:tree Tryz.prog { absT:=[142,144],hv:=[(0,[.b (.v 2)])],keep:=[30,76,78,144,198,196,142,139,24,145],opn:=true,rdf:=true } Tryz.f24 [.a (.ptr (.v 0) 0)] [(.b (.v 0),.prop 1)] 2=t_rAll:=by kernel_rfl
def t_split03:T :=
(.new
(.br (.o2 .seq (.v 0) (.s [47]))
(.ret (.tup [.a (.sl (.b (.v 1) 0) (.n 0) (.n 0)),.a (.bool (.c true))]) [(.b (.v 1),.cells [] 9)])
(.br (.o2 .eq (.o1 .ofNat (.o1 .size (.v 0))) (.i 0))
(.ret (.tup [.a (.sl (.b (.v 1) 0) (.n 0) (.n 0)),.a (.bool (.c false))]) [(.b (.v 1),.cells [] 9)])
(.read (.index 9 (.tmp 16) (.const (.int .i64 0))) 5 [(16,.w (.a (.str (.v 0))))] [] [.i] (.w (.a (.int .u8 (.v 2))))
(.br (.o1 .not (.o2 .eq (.v 2) (.i 47)))
(.ret (.tup [.a (.sl (.b (.v 1) 0) (.n 0) (.n 0)),.a (.bool (.c false))]) [(.b (.v 1),.cells [] 9)])
(.loop [.a,.n,.n,.i,.i,.p] [.a (.b (.v 1) 0),.e (.o2 .nadd (.n 0) (.n 0)),.e (.o2 .nadd (.n 0) (.n 0)),.e (.o1 .neg (.o1 .neg (.i 1))),.e (.o1 .neg (.o1 .neg (.i 1))),.p [(.b (.v 1),.cells [] 9)]]
(.br (.o2 .le (.v 7) (.o1 .ofNat (.o1 .size (.v 0))))
(.br (.o2 .eq (.v 7) (.o1 .ofNat (.o1 .size (.v 0))))
(.read (.slice 9 (.tmp 38) (some (.tmp 39)) (some (.tmp 40)) none) 9 [(38,.w (.a (.str (.v 0)))),(39,.w (.a (.int .i64 (.v 6)))),(40,.w (.a (.int .i64 (.v 7))))] [] [.s] (.w (.a (.str (.v 9))))
(.new
(.op (.call ⟨.builtin .append,#[.tmp 37,.tmp 42],#[29,29]⟩) 29 [(37,.w (.a (.sl (.v 3) (.v 4) (.v 5)))),(42,.w (.a (.sl (.b (.v 10) 0) (.n 1) (.n 1))))] [(.a 3,.prop 8),(.b (.v 10),.cells [.str (.v 9)] 9)] [.a,.n,.n,.p] (.w (.a (.sl (.v 11) (.v 12) (.v 13)))) [(.a 11,.prop 14),(.b (.v 10),.cells [.str (.v 9)] 9)]
(.need (.o1 (.inr .i64) (.o2 .add (.v 7) (.i 1)))
(.again 0 [.a (.v 11),.e (.o2 .nadd (.v 12) (.n 0)),.e (.o2 .nadd (.v 13) (.n 0)),.e (.o1 .neg (.o1 .neg (.o2 .add (.v 7) (.i 1)))),.e (.o1 .neg (.o1 .neg (.o2 .add (.v 7) (.i 1)))),.p [(.a 11,.prop 14)]])))))
(.read (.index 9 (.tmp 32) (.tmp 33)) 5 [(32,.w (.a (.str (.v 0)))),(33,.w (.a (.int .i64 (.v 7))))] [] [.i] (.w (.a (.int .u8 (.v 9))))
(.br (.o2 .eq (.v 9) (.i 47))
(.read (.slice 9 (.tmp 38) (some (.tmp 39)) (some (.tmp 40)) none) 9 [(38,.w (.a (.str (.v 0)))),(39,.w (.a (.int .i64 (.v 6)))),(40,.w (.a (.int .i64 (.v 7))))] [] [.s] (.w (.a (.str (.v 10))))
(.new
(.op (.call ⟨.builtin .append,#[.tmp 37,.tmp 42],#[29,29]⟩) 29 [(37,.w (.a (.sl (.v 3) (.v 4) (.v 5)))),(42,.w (.a (.sl (.b (.v 11) 0) (.n 1) (.n 1))))] [(.a 3,.prop 8),(.b (.v 11),.cells [.str (.v 10)] 9)] [.a,.n,.n,.p] (.w (.a (.sl (.v 12) (.v 13) (.v 14)))) [(.a 12,.prop 15),(.b (.v 11),.cells [.str (.v 10)] 9)]
(.need (.o1 (.inr .i64) (.o2 .add (.v 7) (.i 1)))
(.again 0 [.a (.v 12),.e (.o2 .nadd (.v 13) (.n 0)),.e (.o2 .nadd (.v 14) (.n 0)),.e (.o1 .neg (.o1 .neg (.o2 .add (.v 7) (.i 1)))),.e (.o1 .neg (.o1 .neg (.o2 .add (.v 7) (.i 1)))),.p [(.a 12,.prop 15)]])))))
(.need (.o1 (.inr .i64) (.o2 .add (.v 7) (.i 1)))
(.again 0 [.a (.v 3),.e (.o2 .nadd (.v 4) (.n 0)),.e (.o2 .nadd (.v 5) (.n 0)),.e (.o1 .neg (.o1 .neg (.v 6))),.e (.o1 .neg (.o1 .neg (.o2 .add (.v 7) (.i 1)))),.p [(.a 3,.prop 8)]])))))
(.loop [.a,.n,.n,.p,.c,.i] [.a .nil,.e (.o2 .nadd (.n 0) (.n 0)),.e (.o2 .nadd (.n 0) (.n 0)),.p [],.e (.o1 .not (.o1 .not (.c false))),.e (.o1 .neg (.o1 .neg (.i 0)))]
(.br (.o2 .lt (.v 14) (.o1 .ofNat (.v 4)))
(.need (.o2 .le (.i 0) (.v 14))
(.need (.o1 .isSome (.v 3))
(.read (.load 9 (.tmp 54)) 9 [(54,.w (.a (.eptr 3 (.v 14) 1 0)))] [(.a 3,.prop 8)] [.s] (.w (.a (.str (.v 15))))
(.call 78 [.a (.str (.v 15))] [] [.c] (.w (.a (.bool (.v 16)))) []
(.br (.o1 .not (.v 16))
(.new
(.ret (.tup [.a (.sl (.b (.v 17) 0) (.n 0) (.n 0)),.a (.bool (.c false))]) [(.b (.v 17),.cells [] 9)]))
(.need (.o1 (.inr .i64) (.o2 .add (.v 14) (.i 1)))
(.again 0 [.a (.v 9),.e (.o2 .nadd (.v 10) (.n 0)),.e (.o2 .nadd (.v 11) (.n 0)),.p [(.a 9,.prop 12)],.e (.o1 .not (.o1 .not (.v 13))),.e (.o1 .neg (.o1 .neg (.o2 .add (.v 14) (.i 1))))])))))))
(.br (.o2 .lt (.i 8) (.o1 .ofNat (.v 4)))
(.new
(.ret (.tup [.a (.sl (.b (.v 15) 0) (.n 0) (.n 0)),.a (.bool (.c false))]) [(.b (.v 15),.cells [] 9)]))
(.ret (.tup [.a (.sl (.v 3) (.v 4) (.v 5)),.a (.bool (.c true))]) [(.a 3,.prop 8)])))))))))))
theorem tree_split03:tree Tryz.prog { absT:=[142,144],hv:=[(0,[.b (.v 1)])],keep:=[30,76,78,144,198,196,142,139,24,145],opn:=true,rdf:=true } Tryz.f197 [.a (.str (.v 0))] [] 1=t_split03:=by kernel_rfl
def t_join03:T :=
(.loop [.s,.i] [.e (.o2 .cat (.s []) (.s [])),.e (.o1 .neg (.o1 .neg (.i 0)))]
(.br (.o2 .lt (.v 5) (.o1 .ofNat (.v 1)))
(.need (.o2 .le (.i 0) (.v 5))
(.need (.o1 .isSome (.v 0))
(.read (.load 9 (.tmp 14)) 9 [(14,.w (.a (.eptr 0 (.v 5) 1 0)))] [(.a 0,.prop 3)] [.s] (.w (.a (.str (.v 6))))
(.need (.o2 .le (.o1 .ofNat (.o2 .nadd (.o1 .size (.s [47])) (.o1 .size (.v 6)))) (.i 9223372036854775807))
(.need (.o2 .le (.o1 .ofNat (.o2 .nadd (.o1 .size (.v 4)) (.o1 .size (.o2 .cat (.s [47]) (.v 6))))) (.i 9223372036854775807))
(.need (.o1 (.inr .i64) (.o2 .add (.v 5) (.i 1)))
(.again 0 [.e (.o2 .cat (.o2 .cat (.v 4) (.o2 .cat (.s [47]) (.v 6))) (.s [])),.e (.o1 .neg (.o1 .neg (.o2 .add (.v 5) (.i 1))))])))))))
(.br (.o2 .seq (.v 4) (.s []))
(.ret (.w (.a (.str (.s [47])))) [(.a 0,.prop 3)])
(.ret (.w (.a (.str (.v 4)))) [(.a 0,.prop 3)]))))
theorem tree_join03:tree Tryz.prog { absT:=[142,144],keep:=[30,76,78,144,198,196,142,139,24,145],opn:=true,rdf:=true } Tryz.f198 [.a (.sl (.v 0) (.v 1) (.v 2))] [(.a 0,.prop 3)] 4=t_join03:=by kernel_rfl
def t_inside03:T :=
(.call 197 [.a (.str (.v 0))] [] [.a,.n,.n,.p,.c] (.tup [.a (.sl (.v 2) (.v 3) (.v 4)),.a (.bool (.v 6))]) [(.a 2,.prop 5)]
(.call 197 [.a (.str (.v 1))] [] [.a,.n,.n,.p,.c] (.tup [.a (.sl (.v 7) (.v 8) (.v 9)),.a (.bool (.v 11))]) [(.a 7,.prop 10)]
(.br (.o1 .not (.v 6))
(.ret (.w (.a (.bool (.c false)))) [])
(.br (.o1 .not (.v 11))
(.ret (.w (.a (.bool (.c false)))) [])
(.br (.o2 .le (.o1 .ofNat (.v 3)) (.o1 .ofNat (.v 8)))
(.ret (.w (.a (.bool (.c false)))) [])
(.loop [.c,.i] [.e (.o1 .not (.o1 .not (.c false))),.e (.o1 .neg (.o1 .neg (.i 0)))]
(.br (.o2 .lt (.v 13) (.o1 .ofNat (.v 8)))
(.need (.o2 .le (.i 0) (.v 13))
(.need (.o2 .lt (.v 13) (.o1 .ofNat (.v 3)))
(.need (.o1 .isSome (.v 2))
(.read (.load 9 (.tmp 41)) 9 [(41,.w (.a (.eptr 2 (.v 13) 1 0)))] [(.a 2,.prop 5)] [.s] (.w (.a (.str (.v 14))))
(.need (.o1 .isSome (.v 7))
(.read (.load 9 (.tmp 45)) 9 [(45,.w (.a (.eptr 7 (.v 13) 1 0)))] [(.a 7,.prop 10)] [.s] (.w (.a (.str (.v 15))))
(.br (.o1 .not (.o2 .seq (.v 14) (.v 15)))
(.ret (.w (.a (.bool (.c false)))) [])
(.need (.o1 (.inr .i64) (.o2 .add (.v 13) (.i 1)))
(.again 0 [.e (.o1 .not (.o1 .not (.v 12))),.e (.o1 .neg (.o1 .neg (.o2 .add (.v 13) (.i 1))))])))))))))
(.ret (.w (.a (.bool (.c true)))) []))))))))
theorem tree_inside03:tree Tryz.prog { absT:=[142,144],keep:=[30,76,78,144,198,196,142,139,24,145],opn:=true,rdf:=true } Tryz.f144 [.a (.str (.v 0)),.a (.str (.v 1))] [] 2=t_inside03:=by kernel_rfl
end Go.Proofs.YtdieogcemmnaaaaGreatDoor.RX

namespace Go.Proofs.YtdieogcemmnaaaaGreatDoor
open Go.Proofs.YtdieogcemmnaaaaGreatDoor RX
set_option maxRecDepth 100000
def nd0:Nd:=⟨0,0,0,[],[]⟩
def ne0:NodeE:=⟨nd0,none,0,none,0⟩
theorem ne0_hp (R h:PH):(nodeHp ne0).p R h:=⟨RoC.nil _ _ _ _,rfl,RoC.nil _ _ _ _,fun x hx=>by cases hx⟩
def rtCells (g:Nat → NodeE):List Value:=(List.range 64).flatMap fun i=>nodeVs (g i)
def RT (b:Nat) (g:Nat → NodeE):HP where
 p R h:=h b=some (.cells (rtCells g).toArray 144 (0,0)) ∧ ∀ i,i < 64 → (nodeHp (g i)).p R h ∧ (g i).nd.ents.length ≤ (g i).ec
 mono l l':=fun ⟨h1,h2⟩=>⟨l' _ _ h1,fun i hi=>⟨(nodeHp (g i)).mono l l' (h2 i hi).1,(h2 i hi).2⟩⟩
theorem nodeVs_len (x:NodeE):(nodeVs x).length=5:=rfl
theorem rt_get (g:Nat → NodeE) {i off:Nat} (hi:i < 64) (ho:off < 5):(rtCells g)[i * 5 + off]? = (nodeVs (g i))[off]? :=
 flat_getL (fun i=>nodeVs (g i)) 5 (fun _=>rfl) (List.range 64) i off i (List.getElem?_range hi) ho
theorem RT.rd {b:Nat} {g:Nat → NodeE}:Rd (RT b g) (some ⟨b,0,none⟩) (rtCells g):=fun w R h F s H j u hj=>by
 refine ⟨b,0,rfl,?_⟩
 rw [cell_at (s.oh b _ H.1)]
 simpa using hj
theorem rtLd {t:TypeId} {d:TypeDesc} (hd:Tryz.prog.underlying t=some d) (ha:aggT Tryz.prog t=false) (hz:szT Tryz.prog t=1) {b i off:Nat} {g:Nat → NodeE} (hi:i < 64) (ho:off < 5) {v:Value} (hv:(nodeVs (g i))[off]? = some v) :
  ORead Tryz.prog (loadS t (.pointer (some ⟨b,i * 5 + off,none⟩))) (RT b g) v:=by
 have:=load1_ok hd ha hz (RT.rd (b:=b) (g:=g)) (k:=i * 5) (off:=off) (by rw [rt_get g hi ho]; exact hv)
 simpa [addr_add] using this
theorem rtLdN {b i:Nat} {g:Nat → NodeE} (hi:i < 64):ORead Tryz.prog (loadS 43 (.pointer (some ⟨b,i * 5,none⟩))) (RT b g) (.agg (nodeVs (g i)).toArray):=by
 obtain ⟨d,hd⟩:=undNode
 have:=loadN_ok (vs:=nodeVs (g i)) hd aggNode (RT.rd (b:=b) (g:=g)) (k:=i * 5) (off:=0) szNode (by rw [nodeVs_len]; omega) fun j v hj=>by
  have hj5:j < 5:=(List.getElem?_eq_some_iff.1 hj).1
  rw [Nat.add_zero,rt_get g hi hj5]; exact hj
 simpa [addr_add] using this
theorem undArN:Tryz.prog.underlying 142=some (.array 64 43):=by kernel_rfl
theorem ixN {b k:Nat} {x:Int} (hx:x=k) (hk:k < 64) {A:HP}:ORead Tryz.prog (idxS 142 (.pointer (some ⟨b,0,none⟩)) (.int .i64 x)) A (.pointer (some ⟨b,k * 5,none⟩)):=fun w R h F s _=>by
 obtain ⟨i,hi⟩:=Option.isSome_iff_exists.1 (show (Tryz.prog.info? 43).isSome=true by kernel_rfl)
 subst hx
 unfold idxS
 rw [Sem.run_bind,RX.run_indexAt_array undArN hi (by omega) (by omega),szNode]
 simp [addr_add]
def fldS (t:TypeId) (u:Value) (f:Nat):Sem Next:=do pure (.value (← Instr.fieldAt t u f))
theorem semW_fld {t ty:TypeId} {i f:Nat} {u:Value}:semW (.fieldAddr t (.tmp i) f) ty [(i,u)]=fldS t u f:=by
 simp [semW,execOp,arW,fldS]
theorem fldN {b k f:Nat} (hf:f < 5) {A:HP}:ORead Tryz.prog (fldS 43 (.pointer (some ⟨b,k,none⟩)) f) A (.pointer (some ⟨b,k + f,none⟩)):=fun w R h F s _=>by
 have key : ∃ fs fd,Tryz.prog.underlying 43=some (.struct fs) ∧ fs[f]? = some fd ∧ szT Tryz.prog fd.type ≠ 0 ∧ fd.offset=f:=by
  match f,hf with
  | 0,_=>exact ⟨_,_,Tryz.underlying43,rfl,by rw [show szT Tryz.prog _=1 by kernel_rfl]; decide,rfl⟩
  | 1,_=>exact ⟨_,_,Tryz.underlying43,rfl,by rw [show szT Tryz.prog _=1 by kernel_rfl]; decide,rfl⟩
  | 2,_=>exact ⟨_,_,Tryz.underlying43,rfl,by rw [show szT Tryz.prog _=1 by kernel_rfl]; decide,rfl⟩
  | 3,_=>exact ⟨_,_,Tryz.underlying43,rfl,by rw [show szT Tryz.prog _=1 by kernel_rfl]; decide,rfl⟩
  | 4,_=>exact ⟨_,_,Tryz.underlying43,rfl,by rw [show szT Tryz.prog _=1 by kernel_rfl]; decide,rfl⟩
 obtain ⟨fs,fd,h1,h2,h3,h4⟩:=key
 unfold fldS
 rw [Sem.run_bind,RX.run_fieldAt h1 h2 h3,h4]
 simp [addr_add]
def upd (g:Nat → NodeE) (i:Nat) (x:NodeE) (j:Nat):NodeE:=if j=i then x else g j
theorem upd_at (g:Nat → NodeE) (i:Nat) (x:NodeE):upd g i x i=x:=if_pos rfl
theorem upd_ne (g:Nat → NodeE) {i j:Nat} (x:NodeE) (h:j ≠ i):upd g i x j=g j:=if_neg h
theorem rt_split (g:Nat → NodeE) {i:Nat} (hi:i < 64) : ∃ l1 l2:List Nat,List.range 64=l1 ++ i :: l2 ∧ l1.length=i ∧ ∀ j,j ∈ l1 ∨ j ∈ l2 → j ≠ i:=by
 refine ⟨(List.range 64).take i,(List.range 64).drop (i + 1),?_,by simp; omega,?_⟩
 ·conv=>lhs; rw [← List.take_append_drop i (List.range 64),List.drop_eq_getElem_cons (by simpa using hi)]
  rw [List.getElem_range]
 ·intro j hj e
  subst e
  have nd:=List.nodup_range (n:=64)
  rw [← List.take_append_drop j (List.range 64),List.drop_eq_getElem_cons (by simpa using hi),List.getElem_range,List.nodup_append] at nd
  obtain ⟨_,n2,n3⟩:=nd
  rcases hj with h | h
  ·exact n3 j h j (by simp) rfl
  ·exact (List.nodup_cons.1 n2).1 h
theorem rt_parts (g:Nat → NodeE) {i:Nat} (hi:i < 64) (x:NodeE) : ∃ A C:List Value,rtCells g=A ++ nodeVs (g i) ++ C ∧ rtCells (upd g i x)=A ++ nodeVs x ++ C ∧ A.length=i * 5:=by
 obtain ⟨l1,l2,h1,h2,h3⟩:=rt_split g hi
 refine ⟨l1.flatMap fun i=>nodeVs (g i),l2.flatMap fun i=>nodeVs (g i),?_,?_,?_⟩
 ·unfold rtCells; rw [h1]; simp
 ·unfold rtCells
  rw [h1,List.flatMap_append,List.flatMap_cons,upd_at]
  have e1:l1.flatMap (fun j=>nodeVs (upd g i x j))=l1.flatMap fun j=>nodeVs (g j):=by
   rw [List.flatMap_def,List.flatMap_def,List.map_congr_left fun j hj=>by rw [upd_ne g x (h3 j (.inl hj))]]
  have e2:l2.flatMap (fun j=>nodeVs (upd g i x j))=l2.flatMap fun j=>nodeVs (g j):=by
   rw [List.flatMap_def,List.flatMap_def,List.map_congr_left fun j hj=>by rw [upd_ne g x (h3 j (.inr hj))]]
  rw [e1,e2]; simp
 ·rw [flat_lenL (fun i=>nodeVs (g i)) 5 (fun _=>rfl),h2]
theorem rtStore {t:TypeId} {ti:TypeInfo} (hti:Tryz.prog.info? t=some ti) {b i off:Nat} {g:Nat → NodeE} (hi:i < 64) {v:Value} {vs:List Value} (hv:v.cells=vs.toArray) (hz:ti.size=vs.length) (hp:0 < vs.length) (h1 : ∀ u ∈ vs,u.oneCell'=true) (x:NodeE) (ho:off + vs.length ≤ 5)
  (hx:nodeVs x=(nodeVs (g i)).take off ++ vs ++ (nodeVs (g i)).drop (off + vs.length)) {Q:HP} (hQ : ∀ R h,(HP.sep (RT b g) Q).p R h → (nodeHp x).p R h ∧ x.nd.ents.length ≤ x.ec) :
  OTri Tryz.prog (storeS t (.pointer (some ⟨b,i * 5 + off,none⟩)) v) (HP.sep (RT b g) Q) (fun v=>HP.and (v = .tuple #[]) (RT b (upd g i x))):=by
 obtain ⟨A,C,e1,e2,e3⟩:=rt_parts g hi x
 have h5:(nodeVs (g i)).length=5:=rfl
 have st:=storeOne_ok hti 144 b (rtCells g).toArray (i * 5 + off) v vs hv hz hp h1 (by rw [List.size_toArray,e1]; simp [e3,h5]; omega) (by unfold maxLen; omega)
 have ec:((rtCells g).toArray.toList.take (i * 5 + off) ++ vs ++ (rtCells g).toArray.toList.drop (i * 5 + off + vs.length))=rtCells (upd g i x):=by
  rw [e2,hx,List.toList_toArray,e1]
  have t1:(A ++ nodeVs (g i) ++ C).take (i * 5 + off)=A ++ (nodeVs (g i)).take off:=by
   rw [← e3,List.append_assoc,List.take_length_add_append,List.take_append_of_le_length (by omega)]
  have t2:(A ++ nodeVs (g i) ++ C).drop (i * 5 + off + vs.length)=(nodeVs (g i)).drop (off + vs.length) ++ C:=by
   rw [← e3,List.append_assoc,Nat.add_assoc,List.drop_length_add_append,List.drop_append_of_le_length (by omega)]
  rw [t1,t2]; simp
 rw [ec] at st
 let K:HP:=⟨fun R h=>(∀ j,j < 64 → (nodeHp (g j)).p R h ∧ (g j).nd.ents.length ≤ (g j).ec) ∧ (nodeHp x).p R h ∧ x.nd.ents.length ≤ x.ec,fun l l' ⟨q1,q2⟩=>⟨fun j hj=>⟨(nodeHp (g j)).mono l l' (q1 j hj).1,(q1 j hj).2⟩,(nodeHp x).mono l l' q2.1,q2.2⟩⟩
 refine st.conseq (K:=K) (.of fun R h H => ?_) fun v => .of fun R h H => ?_
 ·have hxx:=hQ R h H
  obtain ⟨a1,a2,d,l1,l2,⟨H1,H2⟩,_⟩:=H
  exact ⟨a1,a2,d,l1,l2,H1,fun j hj=>⟨nodeHp_pers _ _ _ _ (H2 j hj).1,(H2 j hj).2⟩,nodeHp_pers _ _ _ _ hxx.1,hxx.2⟩
 ·obtain ⟨a1,a2,d,l1,l2,⟨e,H1⟩,q1,q2⟩:=H
  refine ⟨e,l1 _ _ H1,fun j hj => ?_⟩
  unfold upd
  split
  ·exact ⟨nodeHp_pers _ _ _ _ q2.1,q2.2⟩
  ·exact ⟨nodeHp_pers _ _ _ _ (q1 j hj).1,(q1 j hj).2⟩
def ndF (T:List Nd) (i:Nat):Nd:=(nodeAt T i).getD nd0
def Rp (g:Nat → NodeE) (T:List Nd):Prop := ∀ i,i < 64 → (g i).nd=ndF T i
theorem ndF_some {T:List Nd} {i:Nat} {n:Nd} (h:nodeAt T i=some n):ndF T i=n:=by unfold ndF; rw [h]; rfl
theorem ndF_none {T:List Nd} {i:Nat} (h:nodeAt T i=none):ndF T i=nd0:=by unfold ndF; rw [h]; rfl
theorem rtKind {b i:Nat} {g:Nat → NodeE} (hi:i < 64):ORead Tryz.prog (loadS 3 (.pointer (some ⟨b,i * 5 + 1,none⟩))) (RT b g) (.int .i64 (g i).nd.kind):=rtLd undInt (by kernel_rfl) (by kernel_rfl) hi (by omega) rfl
theorem rtLinks {b i:Nat} {g:Nat → NodeE} (hi:i < 64):ORead Tryz.prog (loadS 3 (.pointer (some ⟨b,i * 5 + 2,none⟩))) (RT b g) (.int .i64 (g i).nd.links):=rtLd undInt (by kernel_rfl) (by kernel_rfl) hi (by omega) rfl
theorem rtEnts {b i:Nat} {g:Nat → NodeE} (hi:i < 64):ORead Tryz.prog (loadS 41 (.pointer (some ⟨b,i * 5 + 4,none⟩))) (RT b g) (.slice (g i).ea (g i).nd.ents.length (g i).ec):=rtLd undEs' (by kernel_rfl) (by kernel_rfl) hi (by omega) rfl
theorem rtData {b i:Nat} {g:Nat → NodeE} (hi:i < 64):ORead Tryz.prog (loadS 28 (.pointer (some ⟨b,i * 5 + 3,none⟩))) (RT b g) (.slice (g i).da (g i).nd.data.length (g i).dc):=rtLd und8 (by kernel_rfl) (by kernel_rfl) hi (by omega) rfl
theorem rtEnt {b i k:Nat} {g:Nat → NodeE} (hi:i < 64) {e:Nm × Nat} (hk:(g i).nd.ents[k]? = some e):ORead Tryz.prog (loadS 140 (.pointer ((g i).ea.map fun y=>(y.add (k * 2)).add 0))) (RT b g) (.agg #[sE e.1,.int .i64 e.2]):=by
 obtain ⟨d,hd⟩:=undEnt
 exact ORead.ent (.of fun R h H=>(H.2 i hi).1.2) (Ls.load (K:=kEnt) hd aggEnt szEnt hk)
theorem rtEnt1 {b i k:Nat} {g:Nat → NodeE} (hi:i < 64) {e:Nm × Nat} (hk:(g i).nd.ents[k]? = some e) {off:Nat} {t:TypeId} {d:TypeDesc} {v:Value} (hd:Tryz.prog.underlying t=some d) (ha:aggT Tryz.prog t=false) (hz:szT Tryz.prog t=1) (hv:(entV e)[off]? = some v):ORead Tryz.prog (loadS t (.pointer ((g i).ea.map fun y=>(y.add (k * 2)).add off))) (RT b g) v :=
 ORead.ent (.of fun R h H=>(H.2 i hi).1.2) (Ls.load1 (K:=kEnt) hd ha hz hk hv)
theorem RT.ea {b:Nat} {g:Nat → NodeE} {R h:PH} (H:(RT b g).p R h) : ∀ i,i < 64 → (g i).nd.ents.length ≠ 0 → (g i).ea.isSome=true:=fun i hi hn=>Ls.some (H.2 i hi).1.2 hn
theorem RT.da {b:Nat} {g:Nat → NodeE} {R h:PH} (H:(RT b g).p R h) : ∀ i,i < 64 → (g i).nd.data.length ≠ 0 → (g i).da.isSome=true:=fun i hi hn=>RoC.some (H.2 i hi).1.1 (by omega)
theorem rtDataL {b i:Nat} {g:Nat → NodeE} (hi:i < 64):RdL (RT b g) (g i).da (g i).nd.data.length ((g i).nd.data.map u8v) :=
 ⟨Rd.impR (RdL.ro 1 (g i).da (g i).nd.data.length ((g i).nd.data.map u8v)).rd fun R h H=>(H.2 i hi).1.1,fun R h H e=>(RdL.ro 1 (g i).da (g i).nd.data.length ((g i).nd.data.map u8v)).none R h (H.2 i hi).1.1 e⟩
end Go.Proofs.YtdieogcemmnaaaaGreatDoor

namespace Go.Proofs.YtdieogcemmnaaaaGreatDoor
set_option linter.unusedSimpArgs false
set_option linter.unusedVariables false
open Go.Proofs.YtdieogcemmnaaaaGreatDoor RX
set_option maxRecDepth 100000
theorem appS1 (a:Option Addr) (n c:Nat) (l:List Nm) (q:Nat) (x:Nm) (hb:n ≤ 1000000000) {P:HP} (hP:HP.ent P (OwS a n c l)) {C:Value → HP}
  (post : ∀ a' c' R h,(HP.sep (OwS a' (n + 1) c' (l ++ [x])) (HP.one q (.cells #[sE x] 9 (0,0)))).p R h → (C (.slice a' (n + 1) c')).p R h) :
  OTri Tryz.prog (appS 29 29 (.slice a n c) (.slice (some ⟨q,0,none⟩) 1 1)) (HP.sep P (HP.one q (.cells #[sE x] 9 (0,0)))) C:=by
 obtain ⟨i,hi,h1,h2,h3⟩:=info_parts infoStr
 have:=append_ok 29 29 9 i (.string ⟨#[]⟩) undSs hi h1 (by rw [h2]; rfl) (by omega) a n c (l.map sE) (HP.one q (.cells #[sE x] 9 (0,0))) ⟨q,0,none⟩ 1 1 [sE x] (one_rd q #[sE x] 9) (by simp [h2]) (by intro u hu; simp at hu; subst hu; rfl) (by unfold maxLen; omega) (by rw [h3]; omega)
 rw [h2] at this
 refine OTri.pre3 (this.weak (fun _ _ h=>h) ?_) (HP.ent.sep hP _)
 rintro v R h ⟨a',c',rfl,H⟩
 refine post a' c' R h ?_
 have e:(l ++ [x]).map sE=l.map sE ++ [sE x]:=by simp
 show (HP.sep (OwC 9 1 a' (n + 1) c' ((l ++ [x]).map sE)) _).p R h
 rw [e]
 exact H
theorem splitB_step {s:List UInt8} {from' i:Nat} (h1:from' ≤ i) (hi:s[i]? = some 47) (hno : ∀ j,from' ≤ j → j < i → s[j]? ≠ some 47):splitB 47 (s.drop from')=(s.take i).drop from' :: splitB 47 (s.drop (i + 1)):=by
 have hlt:=(List.getElem?_eq_some_iff.1 hi).1
 have e1:s.drop from'=(s.take i).drop from' ++ 47 :: s.drop (i + 1):=by
  conv=>lhs; rw [← List.take_append_drop i s]
  rw [List.drop_append_of_le_length (by rw [List.length_take]; omega),List.drop_eq_getElem_cons hlt]
  rw [List.getElem?_eq_getElem hlt] at hi
  rw [Option.some.inj hi]
 rw [e1]
 refine splitB_app (fun hm => ?_) _
 obtain ⟨j,hj⟩:=List.mem_iff_getElem?.1 hm
 rw [List.getElem?_drop,List.getElem?_take] at hj
 split at hj
 ·exact hno (from' + j) (by omega) (by omega) hj
 ·cases hj
theorem splitB_last {s:List UInt8} {from':Nat} (h1:from' ≤ s.length) (hno : ∀ j,from' ≤ j → j < s.length → s[j]? ≠ some 47):splitB 47 (s.drop from')=[(s.take s.length).drop from']:=by
 rw [List.take_length]
 refine splitB_one fun hm => ?_
 obtain ⟨j,hj⟩:=List.mem_iff_getElem?.1 hm
 rw [List.getElem?_drop] at hj
 exact hno (from' + j) (by omega) (List.getElem?_eq_some_iff.1 hj).1 hj
theorem splitB_mem {x:List UInt8} : ∀ {s:List UInt8},x ∈ splitB 47 s → x.length ≤ s.length
 | [],h=>by simp [splitB] at h; subst h; simp
 | b :: r,h=>by
  unfold splitB at h
  split at h
  ·rcases List.mem_cons.1 h with rfl | h
   ·simp
   ·have:=splitB_mem h; simp; omega
  ·split at h
   ·rename_i y q hy
    rcases List.mem_cons.1 h with rfl | h
    ·have:=splitB_mem (x:=y) (s:=r) (by rw [hy]; simp)
     simp; omega
    ·have:=splitB_mem (x:=x) (s:=r) (by rw [hy]; simp [h])
     simp; omega
   ·simp at h; subst h; simp
theorem strIxC {t ty:TypeId} {i:Nat} (ht:Tryz.prog.underlying t=some .string) {s:List UInt8} {k:Nat} {c:UInt8} (hk:s[k]? = some c) {A:HP} :
  ORead Tryz.prog (semW (.index t (.tmp i) (.const (.int .i64 k))) ty [(i,.string ⟨s.toArray⟩)]) A (.int .u8 c.toNat):=fun w R hh F st hA=>by
 have:=strIx (t:=t) (ty:=ty) (i:=i) (j:=i + 1) (by omega) ht rfl hk (A:=A) w R hh F st hA
 have e:semW (.index t (.tmp i) (.const (.int .i64 k))) ty [(i,.string ⟨s.toArray⟩)]=semW (.index t (.tmp i) (.tmp (i + 1))) ty [(i,.string ⟨s.toArray⟩),(i + 1,.int .i64 k)]:=by
  have h':(i == i + 1)=false:=by simp
  simp [semW,execOp,arW,h']
 rw [e]; exact this
def Split03 (s:Nm) (v:Value):HP:=HP.ex fun a=>HP.ex fun c=>HP.and (v = .tuple #[.slice a ((splitP s).getD []).length c,.bool (splitP s).isSome]) (OwS a ((splitP s).getD []).length c ((splitP s).getD []))
set_option maxHeartbeats 4000000 in
theorem split03_ok (s:Nm) (hs:s.length ≤ 100000):Tri Tryz.prog 197 #[sE s] HP.tt (Split03 s):=by
 refine tri_of_tree (ρ:=[.s s]) mixed Tryz.func197 tree_split03 ?_
 unfold t_split03
 simp only [T.den,E.prop,E.den,RX.look,F1.app,F2.app,Uni.int_i,Uni.nat_n,Uni.bool_c,Uni.str_s,Uni.adr_a,Uni.val_v,Uni.hp_p,hden,cden,V.den,W.den,A.den,BR.den,SA.den,FV.den,capV,exs,exP,allP,Cur.app,List.map_cons,List.map_nil,List.cons_append,List.nil_append,List.drop_succ_cons,List.drop_zero,List.length_cons,List.length_nil,Nat.zero_add,Nat.reduceAdd,Int.neg_neg,Bool.not_not,List.append_nil,Nat.add_zero,List.getElem?_cons_zero,List.getElem?_cons_succ,Decidable.not_not,semW_eq,semW_load,semW_append,ne_eq,Nat.reduceEqDiff,not_false_eq_true,semW_sllh]
 intro q0
 have empty : ∀ (q:Nat) {R h},(HP.one q (.cells #[] 9 (0,0))).p R h → (OwS (some ⟨q,0,none⟩) 0 0 []).p R h:=fun q R h H=>⟨by simp,.inr ⟨q,#[],rfl,H,Nat.le_refl _,by unfold maxLen; omega,by simp,by simp⟩⟩
 have none':splitP s=none → ∀ (q:Nat),HP.ent (HP.one q (.cells #[] 9 (0,0))) (Split03 s (.tuple #[.slice (some ⟨q,0,none⟩) 0 0,.bool false])):=fun h q => .of fun R hh H=>by
  refine ⟨some ⟨q,0,none⟩,0,?_,?_⟩
  ·rw [h]; rfl
  ·rw [h]; exact empty q H
 refine ⟨fun e => .of fun R h H => ?_,fun ne=>⟨fun e=>none' ?_ q0,fun h0 => ?_⟩⟩
 ·subst e
  exact ⟨some ⟨q0,0,none⟩,0,rfl,empty q0 H⟩
 ·have:s=[]:=List.eq_nil_of_length_eq_zero (by omega)
  subst this; rfl
 obtain ⟨b,r,rfl⟩ : ∃ b r,s=b :: r:=by
  cases s with
  | nil=>exact absurd rfl h0
  | cons b r=>exact ⟨b,r,rfl⟩
 have hsz:(b :: r).length=r.length + 1:=rfl
 refine ⟨b.toNat,strIxC (k:=0) (by kernel_rfl) rfl,fun e=>none' ?_ q0,fun e => ?_⟩
 ·unfold splitP
  rw [if_neg ne]
  simp only
  rw [if_neg]
  rintro rfl
  exact e rfl
 have hb:b=47:=UInt8.toNat_inj.1 (by have:(47:UInt8).toNat=47:=rfl; omega)
 subst hb
 have sp:splitP (47 :: r)=if (splitB 47 r).length ≤ 8 ∧ (splitB 47 r).all nameOk=true then some (splitB 47 r) else none:=by
  unfold splitP
  rw [if_neg ne]
  simp only [if_true]
 have hbl:(splitB 47 r).length ≤ r.length + 1:=by rw [splitB_len]; have:=List.count_le_length (a:=(47:UInt8)) (l:=r); omega
 refine ⟨fun a n' c' fr i P => ∃ (u k:Nat) (L:List Nm),fr=u ∧ i=k ∧ n'=L.length ∧ (n' ≠ 0 → a.isSome=true) ∧ HP.ent P (OwS a n' c' L) ∧ 1 ≤ k ∧
  ((u ≤ k ∧ k ≤ r.length + 1 ∧ splitB 47 r=L ++ splitB 47 ((47 :: r).drop u) ∧ ∀ j,u ≤ j → j < k → (47 :: r)[j]? ≠ some 47) ∨ (k=r.length + 2 ∧ splitB 47 r=L)),fun _ _ _ _ i _=>r.length + 3 - i.toNat,
  ⟨1,1,[],rfl,rfl,rfl,fun h=>absurd rfl h,.of fun R h H=>empty q0 H,Nat.le_refl _,.inl ⟨Nat.le_refl _,by omega,rfl,fun j h1 h2=>by omega⟩⟩,?_⟩
 rintro a _ c' _ _ P ⟨u,k,L,rfl,rfl,rfl,hsm,hP,hk1,hst⟩
 have hLl:L.length ≤ r.length + 1:=by
  rcases hst with ⟨_,_,h,_⟩ | ⟨_,h⟩
  ·have:=congrArg List.length h; rw [List.length_append] at this; omega
  ·rw [← h]; omega
 have grow : ∀ (x:Nm) (q:Nat) (st:(r.length + 1 ≥ k + 1 ∧ splitB 47 r=(L ++ [x]) ++ splitB 47 ((47 :: r).drop (k + 1))) ∨ (k=r.length + 1 ∧ splitB 47 r=L ++ [x])) (a':Option Addr) (c'':Nat) (R h:PH),(HP.sep (OwS a' (L.length + 1) c'' (L ++ [x])) (HP.one q (.cells #[sE x] 9 (0,0)))).p R h →
   (IntKind.i64.min ≤ (k:Int) + 1 ∧ (k:Int) + 1 ≤ IntKind.i64.max) ∧ ((IntKind.i64.min ≤ (k:Int) + 1 ∧ (k:Int) + 1 ≤ IntKind.i64.max) → (∃ (u' k':Nat) (L':List Nm),(k:Int) + 1=u' ∧ (k:Int) + 1=k' ∧ L.length + 1=L'.length ∧ (L.length + 1 ≠ 0 → a'.isSome=true) ∧ HP.ent (OwS a' (L.length + 1) c'' (L ++ [x])) (OwS a' (L.length + 1) c'' L') ∧ 1 ≤ k' ∧
  ((u' ≤ k' ∧ k' ≤ r.length + 1 ∧ splitB 47 r=L' ++ splitB 47 ((47 :: r).drop u') ∧ ∀ j,u' ≤ j → j < k' → (47 :: r)[j]? ≠ some 47) ∨ (k'=r.length + 2 ∧ splitB 47 r=L'))) ∧ r.length + 3 - ((k:Int) + 1).toNat < r.length + 3 - (k:Int).toNat):=fun x q st a' c'' R h H=>by
  have hk:k ≤ r.length + 1:=by omega
  refine ⟨inI64' _ (by omega) (by omega),fun _=>⟨⟨k + 1,k + 1,L ++ [x],by omega,by omega,by simp,fun _=>OwC.some (HP.sep_left H) (by omega),.of fun _ _ h=>h,by omega,?_⟩,by omega⟩⟩
  rcases st with ⟨h1,h2⟩ | ⟨h1,h2⟩
  ·exact .inl ⟨Nat.le_refl _,by omega,h2,fun j h3 h4=>by omega⟩
  ·exact .inr ⟨by omega,h2⟩
 refine ⟨fun hle=>⟨fun hke => ?_,fun hke => ?_⟩,fun hgt => ?_⟩
 ·rcases hst with ⟨h1,h2,h3,h4⟩ | ⟨h1,_⟩
  ·have hkl:k=r.length + 1:=by omega
   refine ⟨_,sliceStr (47 :: r) (some u) (some k) (by simp; omega) (by simp; omega) HP.tt,fun q => ?_⟩
   refine appS1 a L.length c' L q _ (by omega) hP fun a' c'' R h H => ?_
   refine ⟨a',_,c'',_,rfl,?_,H⟩
   refine grow _ q (.inr ⟨hkl,?_⟩) a' c'' R h H
   rw [h3,splitB_last (by simp; omega) (fun j h5 h6=>h4 j h5 (by simp at h6; omega))]
   simp only [Option.getD_some]
   rw [hkl]; rfl
  ·exfalso; simp at hle; omega
 ·rcases hst with ⟨h1,h2,h3,h4⟩ | ⟨h1,_⟩
  ·have hkl:k < r.length + 1:=by simp at hke; omega
   obtain ⟨x,hx⟩:=getN (l:=47 :: r) (k:=k) (by simp; omega)
   refine ⟨x.toNat,strIx (by decide) (by kernel_rfl) rfl hx,fun h47 => ?_,fun h47 => ?_⟩
   ·have hx47:x=47:=UInt8.toNat_inj.1 (by have:(47:UInt8).toNat=47:=rfl; omega)
    subst hx47
    refine ⟨_,sliceStr (47 :: r) (some u) (some k) (by simp; omega) (by simp; omega) HP.tt,fun q => ?_⟩
    refine appS1 a L.length c' L q _ (by omega) hP fun a' c'' R h H => ?_
    refine ⟨a',_,c'',_,rfl,?_,H⟩
    refine grow _ q (.inl ⟨by omega,?_⟩) a' c'' R h H
    rw [h3,splitB_step h1 hx h4]
    simp
   ·refine ⟨inI64' _ (by omega) (by omega),fun _=>⟨⟨u,k + 1,L,rfl,by omega,rfl,hsm,hP,by omega,.inl ⟨by omega,by omega,h3,fun j h5 h6 => ?_⟩⟩,by dsimp only; omega⟩⟩
    rcases Nat.lt_or_eq_of_le (Nat.le_of_lt_succ h6) with h | h
    ·exact h4 j h5 h
    ·subst h
     rw [hx]
     intro e
     rw [Option.some.inj e] at h47
     exact h47 rfl
  ·exfalso; simp at hle; omega
 ·have hL:splitB 47 r=L:=by
   rcases hst with ⟨_,h2,_,_⟩ | ⟨_,h2⟩
   ·exfalso; simp at hgt; omega
   ·exact h2
  refine ⟨fun _ _ _ _ _ i => ∃ m:Nat,i=m ∧ m ≤ L.length ∧ ∀ x ∈ L.take m,nameOk x=true,fun _ _ _ _ _ i=>L.length - i.toNat,⟨0,rfl,Nat.zero_le _,fun x h=>by simp at h⟩,?_⟩
  rintro _ _ _ _ _ _ ⟨m,rfl,hm,hall⟩
  refine ⟨fun hlt=>⟨by omega,fun _=>⟨hsm (by omega),fun _ => ?_⟩⟩,fun hge=>⟨fun h8 => ?_,fun h8 => ?_⟩⟩
  ·obtain ⟨x,hx⟩:=getN (l:=L) (k:=m) (by omega)
   have hxm:=List.mem_of_getElem? hx
   have hxl:x.length ≤ r.length:=splitB_mem (by rw [hL]; exact hxm)
   refine ⟨x,ORead.ent hP (loadStr (RdL.ow _ _ _ _ _ _).rd hx),?_⟩
   refine (name03_ok x (by omega)).weak (fun _ _ _=>trivial) ?_
   rintro v R h rfl
   refine ⟨nameOk x,rfl,⟨fun hno q=>none' ?_ q,fun hyes=>⟨inI64' _ (by omega) (by omega),fun _=>⟨⟨m + 1,by omega,by omega,fun y hy => ?_⟩,by dsimp only; omega⟩⟩⟩,trivial⟩
   ·rw [sp,if_neg]
    rintro ⟨_,hall'⟩
    rw [hL,List.all_eq_true] at hall'
    exact hno (hall' x hxm)
   ·rw [List.take_add_one,hx,List.mem_append] at hy
    rcases hy with hy | hy
    ·exact hall y hy
    ·simp at hy; subst hy; exact hyes
  ·intro q
   refine none' ?_ q
   rw [sp,if_neg]
   rintro ⟨h,_⟩
   rw [hL] at h; omega
  ·have hall':(splitB 47 r).all nameOk=true:=by
    rw [hL,List.all_eq_true]
    intro x hx
    exact hall x (by rw [List.take_of_length_le (by omega)]; exact hx)
   have e:splitP (47 :: r)=some L:=by rw [sp,if_pos ⟨by rw [hL]; omega,hall'⟩,hL]
   refine hP.trans (.of fun R h H=>⟨a,c',?_,?_⟩)
   ·rw [e]; rfl
   ·rw [e]; exact H
end Go.Proofs.YtdieogcemmnaaaaGreatDoor

namespace Go.Proofs.YtdieogcemmnaaaaGreatDoor
set_option linter.unusedSimpArgs false
set_option linter.unusedVariables false
open Go.Proofs.YtdieogcemmnaaaaGreatDoor RX
set_option maxRecDepth 100000
theorem joinN_nil {l:List Nm} (h:joinN l=[]):l=[]:=by
 cases l with
 | nil=>rfl
 | cons x r=>simp [joinN] at h
theorem join03_ok (a:Option Addr) (n c:Nat) (l:List Nm) (S:HP) (hr:RdL S a n (l.map sE)) (hl:l.length=n) (h16 : ∀ x ∈ l,nameOk x=true) (h8:l.length ≤ 8) :
  Tri Tryz.prog 198 #[.slice a n c] S (fun v=>HP.and (v=sE (joinP l)) S):=by
 refine Tri.fact (φ:=n ≠ 0 → a.isSome=true) (fun R h H=>hr.isSome H) fun ha => ?_
 refine tri_of_tree (ρ:=[.a a,.n n,.n c,.p S]) mixed Tryz.func198 tree_join03 ?_
 unfold t_join03
 simp only [T.den,E.prop,E.den,RX.look,F1.app,F2.app,Uni.int_i,Uni.nat_n,Uni.bool_c,Uni.str_s,Uni.adr_a,Uni.val_v,Uni.hp_p,hden,cden,V.den,W.den,A.den,BR.den,SA.den,FV.den,capV,exs,exP,allP,Cur.app,List.map_cons,List.map_nil,List.cons_append,List.nil_append,List.drop_succ_cons,List.drop_zero,List.length_cons,List.length_nil,Nat.zero_add,Nat.reduceAdd,Int.neg_neg,Bool.not_not,List.append_nil,Nat.add_zero,List.getElem?_cons_zero,List.getElem?_cons_succ,Decidable.not_not,semW_eq,semW_load,ne_eq,Nat.reduceEqDiff,not_false_eq_true]
 refine ⟨fun s i => ∃ k:Nat,i=k ∧ k ≤ n ∧ s=joinN (l.take k),fun _ i=>n - i.toNat,⟨0,rfl,Nat.zero_le _,by simp [joinN]⟩,?_⟩
 rintro _ _ ⟨k,rfl,hk,rfl⟩
 refine ⟨fun hlt=>⟨by omega,fun _=>⟨ha (by omega),fun _ => ?_⟩⟩,fun hge => ?_⟩
 ·obtain ⟨x,hx⟩:=getN (l:=l) (k:=k) (by omega)
  have hxl:=nameOk_len (h16 x (List.mem_of_getElem? hx))
  have hjl:=joinN_len (l:=l.take k) fun y hy=>h16 y (List.mem_of_mem_take hy)
  rw [List.length_take] at hjl
  refine ⟨x,loadStr hr.rd hx,by simp; omega,fun _=>⟨by simp; omega,fun _=>⟨inI64' _ (by omega) (by omega),fun _=>⟨⟨k + 1,by omega,by omega,?_⟩,by dsimp only; omega⟩⟩⟩⟩
  rw [List.take_add_one,hx,Option.toList_some,joinN_app]
  simp
 ·have hkn:l.take k=l:=List.take_of_length_le (by omega)
  rw [hkn]
  refine ⟨fun e => .of fun R h H=>⟨?_,H⟩,fun e => .of fun R h H=>⟨?_,H⟩⟩
  ·rw [joinN_nil e]; rfl
  ·unfold joinP
   rw [if_neg fun h=>e (by rw [h]; rfl)]
   rfl
set_option maxHeartbeats 1000000 in
theorem inside03_ok (s o:Nm) (hs:s.length ≤ 100000) (ho:o.length ≤ 100000):Tri Tryz.prog 144 #[sE s,sE o] HP.tt (fun v=>HP.pure (v = .bool (insideP s o))):=by
 refine tri_of_tree (ρ:=[.s s,.s o]) mixed Tryz.func144 tree_inside03 ?_
 unfold t_inside03
 simp only [T.den,E.prop,E.den,RX.look,F1.app,F2.app,Uni.int_i,Uni.nat_n,Uni.bool_c,Uni.str_s,Uni.adr_a,Uni.val_v,Uni.hp_p,hden,cden,V.den,W.den,A.den,BR.den,SA.den,FV.den,capV,exs,exP,allP,Cur.app,List.map_cons,List.map_nil,List.cons_append,List.nil_append,List.drop_succ_cons,List.drop_zero,List.length_cons,List.length_nil,Nat.zero_add,Nat.reduceAdd,Int.neg_neg,Bool.not_not,List.append_nil,Nat.add_zero,List.getElem?_cons_zero,List.getElem?_cons_succ,Decidable.not_not,semW_eq,semW_load,ne_eq,Nat.reduceEqDiff,not_false_eq_true]
 refine (split03_ok s hs).weak (fun _ _ h=>h) ?_
 rintro v R h ⟨a1,c1,rfl,H1⟩
 have r1:((splitP s).getD []).length ≠ 0 → a1.isSome=true:=fun h=>OwC.some H1 (by omega)
 refine ⟨a1,_,c1,_,_,rfl,?_,H1⟩
 clear H1
 refine (split03_ok o ho).weak (fun _ _ h=>h) ?_
 rintro v R h ⟨a2,c2,rfl,H2⟩
 have r2:((splitP o).getD []).length ≠ 0 → a2.isSome=true:=fun h=>OwC.some H2 (by omega)
 refine ⟨a2,_,c2,_,_,rfl,?_,H2⟩
 clear H2
 cases e1:splitP s with
 | none=>exact ⟨fun _ => .of fun _ _ _=>(by show Value.bool false = .bool (insideP s o); unfold insideP; rw [e1]),fun h=>by simp at h⟩
 | some l =>
  refine ⟨fun h=>absurd rfl h,fun _ => ?_⟩
  cases e2:splitP o with
  | none=>exact ⟨fun _ => .of fun _ _ _=>(by show Value.bool false = .bool (insideP s o); unfold insideP; rw [e1,e2]),fun h=>by simp at h⟩
  | some q =>
   rw [e1] at r1; rw [e2] at r2
   simp only [Option.getD_some] at r1 r2 ⊢
   have hin:insideP s o=(decide (q.length < l.length) && decide (q=l.take q.length)):=by unfold insideP; rw [e1,e2]
   have hl8:=(splitP_len e1).1
   have hq8:=(splitP_len e2).1
   refine ⟨fun h=>absurd rfl h,fun _=>⟨fun h => .of fun _ _ _ => ?_,fun h => ?_⟩⟩
   ·show Value.bool false = .bool (insideP s o)
    rw [hin,decide_eq_false (by omega)]; rfl
   refine ⟨fun _ i => ∃ k:Nat,i=k ∧ k ≤ q.length ∧ q.take k=l.take k,fun _ i=>q.length - i.toNat,⟨0,rfl,Nat.zero_le _,by simp⟩,?_⟩
   rintro _ _ ⟨k,rfl,hk,hpre⟩
   refine ⟨fun hlt=>⟨by omega,fun _=>⟨by omega,fun _=>⟨r1 (by omega),fun _ => ?_⟩⟩⟩,fun hge => .of fun _ _ _ => ?_⟩
   ·obtain ⟨x,hx⟩:=getN (l:=l) (k:=k) (by omega)
    obtain ⟨y,hy⟩:=getN (l:=q) (k:=k) (by omega)
    refine ⟨x,loadStr (RdL.ow _ _ _ _ _ _).rd hx,r2 (by omega),fun _=>⟨y,loadStr (RdL.ow _ _ _ _ _ _).rd hy,fun hne => .of fun _ _ _ => ?_,fun he=>⟨inI64' _ (by omega) (by omega),fun _=>⟨⟨k + 1,by omega,by omega,take_eq hy hx hpre he.symm⟩,by dsimp only; omega⟩⟩⟩⟩
    show Value.bool false = .bool (insideP s o)
    rw [hin,decide_eq_false (p:=q=l.take q.length),Bool.and_false]
    intro e
    rw [e,List.getElem?_take,if_pos (by omega),hx] at hy
    exact hne (Option.some.inj hy)
   ·show Value.bool true = .bool (insideP s o)
    rw [List.take_of_length_le (by omega)] at hpre
    have hkq:k=q.length:=by omega
    rw [hkq] at hpre
    rw [hin,decide_eq_true (by omega),decide_eq_true hpre]; rfl
def entI:Option Nat → Int
 | some k=>k
 | none => -1
theorem lk_drop' {l:List (Nm × Nat)} {nm:Nm} {k:Nat} {e:Nm × Nat} (he:l[k]? = some e):lk (l.drop k) nm=if nm=e.1 then some e.2 else lk (l.drop (k + 1)) nm:=by
 have hlt:=(List.getElem?_eq_some_iff.1 he).1
 rw [List.drop_eq_getElem_cons hlt]
 rw [List.getElem?_eq_getElem hlt] at he
 rw [Option.some.inj he]
 rfl
theorem rEntry_ok {b:Nat} {g:Nat → NodeE} {i:Nat} (hi:i < 64) (nm:Nm) (hl:(g i).nd.ents.length ≤ 100000):Tri Tryz.prog 196 #[.pointer (some ⟨b,0,none⟩),.int .i64 i,sE nm] (RT b g)
  (fun v=>HP.and (v = .int .i64 (entI (lk (g i).nd.ents nm))) (RT b g)):=by
 refine Tri.fact (φ:=(g i).nd.ents.length ≠ 0 → (g i).ea.isSome=true) (fun R h H=>RT.ea H i hi) fun hea => ?_
 refine tri_of_tree (ρ:=[.n b,.p (RT b g),.i i,.s nm]) mixed Tryz.func196 tree_rEntry ?_
 unfold t_rEntry
 simp only [T.den,E.prop,E.den,RX.look,F1.app,F2.app,Uni.int_i,Uni.nat_n,Uni.bool_c,Uni.str_s,Uni.adr_a,Uni.val_v,Uni.hp_p,hden,cden,V.den,W.den,A.den,BR.den,SA.den,FV.den,capV,exs,exP,allP,Cur.app,List.map_cons,List.map_nil,List.cons_append,List.nil_append,List.drop_succ_cons,List.drop_zero,List.length_cons,List.length_nil,Nat.zero_add,Nat.reduceAdd,Int.neg_neg,Bool.not_not,List.append_nil,Nat.add_zero,List.getElem?_cons_zero,List.getElem?_cons_succ,Decidable.not_not,semW_eq,semW_load,ne_eq,Nat.reduceEqDiff,not_false_eq_true,semW_ix,semW_fld]
 refine ⟨.pointer (some ⟨b,i * 5,none⟩),ixN rfl hi,.pointer (some ⟨b,i * 5 + 4,none⟩),fldN (by omega),(g i).ea,(g i).nd.ents.length,(g i).ec,rtEnts hi,?_⟩
 refine ⟨fun _ j => ∃ k:Nat,j=k ∧ k ≤ (g i).nd.ents.length ∧ lk ((g i).nd.ents.drop k) nm=lk (g i).nd.ents nm,fun _ j=>(g i).nd.ents.length - j.toNat,⟨0,rfl,Nat.zero_le _,rfl⟩,?_⟩
 rintro _ _ ⟨k,rfl,hk,hlk⟩
 refine ⟨fun hlt=>⟨by omega,fun _=>⟨hea (by omega),fun _ => ?_⟩⟩,fun hge => .of fun R h H=>⟨?_,H⟩⟩
 ·obtain ⟨e,he⟩:=getN (l:=(g i).nd.ents) (k:=k) (by omega)
  rw [lk_drop' he] at hlk
  refine ⟨e.1,rtEnt1 hi he undStr (by kernel_rfl) (by kernel_rfl) rfl,fun h=>⟨e.2,rtEnt1 hi he undInt (by kernel_rfl) (by kernel_rfl) rfl,.of fun R hh H=>⟨?_,H⟩⟩,fun h=>⟨inI64' _ (by omega) (by omega),fun _=>⟨⟨k + 1,by omega,by omega,?_⟩,by dsimp only; omega⟩⟩⟩
  ·rw [if_pos h.symm] at hlk
   rw [← hlk]; rfl
  ·rw [if_neg fun h'=>h h'.symm] at hlk
   exact hlk
 ·rw [List.drop_eq_nil_of_le (by omega)] at hlk
  rw [← hlk]; rfl
theorem TWf.tgt' {B:Nat} {T:List Nd} (wf:TWf B T) {at':Nat} {n:Nd} (hn:nodeAt T at'=some n) {nm:Nm} {k:Nat} (h:lk n.ents nm=some k) : ∃ m,nodeAt T k=some m:=Option.isSome_iff_exists.1 (wf.tgt n (nodeAt_mem hn).1 _ (lk_mem h))
theorem TWf.lt64 {B:Nat} {T:List Nd} (wf:TWf B T) {k:Nat} {n:Nd} (hn:nodeAt T k=some n):k < 64:=by
 have:=(wf.at' hn).1.num
 rw [(wf.at' hn).2.1] at this
 exact this
theorem find_node {B:Nat} {T:List Nd} (wf:TWf B T) : ∀ {l:List Nm} {at':Nat},(nodeAt T at').isSome=true → (walkS T at' l).2=0 → (nodeAt T (walkS T at' l).1).isSome=true
 | [],at',h,_=>h
 | nm :: r,at',h,h0=>by
  obtain ⟨n,hn⟩:=Option.isSome_iff_exists.1 h
  rw [walk_cons,hn] at h0 ⊢
  simp only at h0 ⊢
  split at h0
  ·cases h0
  ·rename_i hk
   rw [if_neg hk]
   cases hl:lk n.ents nm with
   | none=>rw [hl] at h0; cases h0
   | some k =>
    rw [hl] at h0
    obtain ⟨m,hm⟩:=wf.tgt' hn hl
    exact find_node wf (by rw [hm]; rfl) h0
theorem find_at {B:Nat} {T:List Nd} (wf:TWf B T) {s:Nm} (h:(findS T s).2=0) : ∃ n,nodeAt T (findS T s).1=some n ∧ (findS T s).1 < 64:=by
 obtain ⟨r,h1,_⟩:=wf.root
 unfold findS at h ⊢
 cases hs:splitP s with
 | none=>rw [hs] at h; cases h
 | some l =>
  rw [hs] at h
  simp only at h ⊢
  obtain ⟨n,hn⟩:=Option.isSome_iff_exists.1 (find_node wf (l:=l) (at':=0) (by rw [h1]; rfl) h)
  exact ⟨n,hn,wf.lt64 hn⟩
set_option maxHeartbeats 1000000 in
theorem rFind_ok {b B:Nat} {g:Nat → NodeE} {NS:List Nd} (hB:B ≤ 100000) (wf:TWf B NS) (hg:Rp g NS) (s:Nm) (hs:s.length ≤ 100000):Tri Tryz.prog 142 #[.pointer (some ⟨b,0,none⟩),sE s] (RT b g)
  (fun v=>HP.and (v = .tuple #[.int .i64 (findS NS s).1,.int .i64 (findS NS s).2]) (RT b g)):=by
 refine tri_of_tree (ρ:=[.n b,.p (RT b g),.s s]) mixed Tryz.func142 tree_rFind ?_
 unfold t_rFind
 simp only [T.den,E.prop,E.den,RX.look,F1.app,F2.app,Uni.int_i,Uni.nat_n,Uni.bool_c,Uni.str_s,Uni.adr_a,Uni.val_v,Uni.hp_p,hden,cden,V.den,W.den,A.den,BR.den,SA.den,FV.den,capV,exs,exP,allP,Cur.app,List.map_cons,List.map_nil,List.cons_append,List.nil_append,List.drop_succ_cons,List.drop_zero,List.length_cons,List.length_nil,Nat.zero_add,Nat.reduceAdd,Int.neg_neg,Bool.not_not,List.append_nil,Nat.add_zero,List.getElem?_cons_zero,List.getElem?_cons_succ,Decidable.not_not,semW_eq,semW_load,ne_eq,Nat.reduceEqDiff,not_false_eq_true,semW_ix,semW_fld]
 refine (split03_ok s hs).weak (fun _ _ h=>trivial) ?_
 rintro v R h ⟨a1,c1,rfl,H1⟩
 have r1:((splitP s).getD []).length ≠ 0 → a1.isSome=true:=fun h=>OwC.some H1 (by omega)
 refine ⟨a1,_,c1,_,_,rfl,?_,H1⟩
 clear H1
 cases e1:splitP s with
 | none =>
  refine ⟨fun _ => .of fun _ _ H=>⟨?_,H⟩,fun h=>by simp at h⟩
  unfold findS; rw [e1]; rfl
 | some L =>
  have hf:findS NS s=walkS NS 0 L:=findS_split e1
  rw [e1] at r1
  simp only [Option.getD_some] at r1 ⊢
  have hL8:=(splitP_len e1).1
  obtain ⟨r0,hr0,_⟩:=wf.root
  refine ⟨fun h=>by simp at h,fun _ => ?_⟩
  refine ⟨fun _ _ at' j => ∃ (k d:Nat),j=k ∧ at'=d ∧ k ≤ L.length ∧ (nodeAt NS d).isSome=true ∧ walkS NS d (L.drop k)=walkS NS 0 L,fun _ _ _ j=>L.length - j.toNat,⟨0,0,rfl,rfl,Nat.zero_le _,by rw [hr0]; rfl,rfl⟩,?_⟩
  rintro _ _ _ _ ⟨k,d,rfl,rfl,hk,hd,hw⟩
  obtain ⟨n,hn⟩:=Option.isSome_iff_exists.1 hd
  have hd64:=wf.lt64 hn
  have hgn:(g d).nd=n:=by rw [hg d hd64,ndF_some hn]
  refine ⟨fun hlt => ?_,fun hge => .of fun R h H=>⟨?_,H⟩⟩
  ·obtain ⟨x,hx⟩:=getN (l:=L) (k:=k) (by omega)
   have hdr:L.drop k=x :: L.drop (k + 1):=by
    have hlt':k < L.length:=by omega
    rw [List.drop_eq_getElem_cons hlt']
    rw [List.getElem?_eq_getElem hlt'] at hx
    rw [Option.some.inj hx]
   rw [hdr,walk_cons,hn] at hw
   simp only at hw
   refine ⟨.pointer (some ⟨b,d * 5,none⟩),ixN rfl hd64,.pointer (some ⟨b,d * 5 + 1,none⟩),fldN (by omega),(g d).nd.kind,rtKind hd64,fun hne => .of fun R h H=>⟨?_,H⟩,fun he=>⟨by omega,fun _=>⟨r1 (by omega),fun _=>⟨x,loadStr (RdL.ow _ _ _ _ _ _).rd hx,?_⟩⟩⟩⟩
   ·rw [hgn] at hne
    rw [if_pos hne] at hw
    rw [hf,← hw]; rfl
   ·rw [hgn] at he
    rw [if_neg (by simpa using he)] at hw
    refine (rEntry_ok hd64 x (by rw [hgn]; have:=(wf.at' hn).1.efew; omega)).weak (fun _ _ h=>h) ?_
    rintro v R h ⟨rfl,H⟩
    rw [hgn]
    cases hl:lk n.ents x with
    | none =>
     rw [hl] at hw
     refine ⟨_,rfl,⟨fun _ => .of fun R h H=>⟨?_,H⟩,fun h=>absurd (show entI none < 0 by decide) h⟩,H⟩
     rw [hf,← hw]; rfl
    | some j =>
     rw [hl] at hw
     obtain ⟨m,hm⟩:=wf.tgt' hn hl
     refine ⟨_,rfl,⟨fun h=>absurd h (show ¬ ((j:Int) < 0) by omega),fun _=>⟨inI64' _ (by omega) (by omega),fun _=>⟨⟨k + 1,j,by omega,rfl,by omega,by rw [hm]; rfl,hw⟩,by dsimp only; omega⟩⟩⟩,H⟩
  ·rw [List.drop_eq_nil_of_le (by omega)] at hw
   rw [hf,← hw]; rfl
theorem semW_slhi {i j:Nat} {t ty:TypeId} {u v:Value} (h:i ≠ j):semW (.slice t (.tmp i) none (some (.tmp j)) none) ty [(i,u),(j,v)]=sliceS t u none (some v) none:=by
 have hb:(i == j)=false:=by simpa using h
 simp [semW,execOp,arW,sliceS,List.find?,hb]
set_option maxHeartbeats 1000000 in
theorem rUp_ok (s:Nm) (hs:s.length ≤ 100000):Tri Tryz.prog 141 #[sE s] HP.tt
  (fun v=>HP.pure (v = .tuple #[sE ((parentS s).getD ([],[])).1,sE ((parentS s).getD ([],[])).2,.int .i64 (if (parentS s).isSome then 0 else 20)])):=by
 refine tri_of_tree (ρ:=[.s s]) mixed Tryz.func141 tree_rUp ?_
 unfold t_rUp
 simp only [T.den,E.prop,E.den,RX.look,F1.app,F2.app,Uni.int_i,Uni.nat_n,Uni.bool_c,Uni.str_s,Uni.adr_a,Uni.val_v,Uni.hp_p,hden,cden,V.den,W.den,A.den,BR.den,SA.den,FV.den,capV,exs,exP,allP,Cur.app,List.map_cons,List.map_nil,List.cons_append,List.nil_append,List.drop_succ_cons,List.drop_zero,List.length_cons,List.length_nil,Nat.zero_add,Nat.reduceAdd,Int.neg_neg,Bool.not_not,List.append_nil,Nat.add_zero,List.getElem?_cons_zero,List.getElem?_cons_succ,Decidable.not_not,semW_eq,semW_load,ne_eq,Nat.reduceEqDiff,not_false_eq_true,semW_slhi]
 refine (split03_ok s hs).weak (fun _ _ h=>h) ?_
 rintro v R h ⟨a1,c1,rfl,H1⟩
 have r1:((splitP s).getD []).length ≠ 0 → a1.isSome=true:=fun h=>OwC.some H1 (by omega)
 have hle:=OwC.le H1
 refine ⟨a1,_,c1,_,_,rfl,?_,H1⟩
 clear H1
 have er:parentS s=none → HP.ent HP.tt (HP.pure (Value.tuple #[sE [],sE [],.int .i64 20] = .tuple #[sE ((parentS s).getD ([],[])).1,sE ((parentS s).getD ([],[])).2,.int .i64 (if (parentS s).isSome then 0 else 20)])):=fun e => .of fun _ _ _=>(by show _=_; rw [e]; rfl)
 cases e1:splitP s with
 | none=>exact ⟨fun _=>er (by unfold parentS; rw [e1]),fun h=>by simp at h⟩
 | some l =>
  rw [e1] at r1 hle
  simp only [Option.getD_some] at r1 hle ⊢
  obtain ⟨hl8,hok⟩:=splitP_len e1
  refine ⟨fun h=>by simp at h,fun _=>⟨fun h0=>er ?_,fun h0 => ?_⟩⟩
  ·have:l=[]:=List.eq_nil_of_length_eq_zero (by omega)
   subst this
   unfold parentS; rw [e1]
  ·rcases List.eq_nil_or_concat l with rfl | ⟨l',nm,rfl⟩
   ·simp at h0
   rw [List.concat_eq_append] at *
   obtain ⟨i,hi,_⟩:=info_parts infoStr
   have hll:(l' ++ [nm]).length=l'.length + 1:=by simp
   have hlast:(l' ++ [nm])[l'.length]? = some nm:=by simp
   have en:(((l' ++ [nm]).length:Int) - 1)=(l'.length:Int):=by rw [hll]; omega
   have hp:parentS s=some (joinP l',nm):=parentS_app e1
   rw [en]
   have rd:RdL (OwS a1 (l' ++ [nm]).length c1 (l' ++ [nm])) a1 l'.length (l'.map sE):=by
    refine ⟨fun w R h F st H j u hj=>(RdL.ow _ _ _ _ _ _).rd w R h F st H j u ?_,fun R h H e => ?_⟩
    ·have hjl:=(List.getElem?_eq_some_iff.1 hj).1
     rw [List.length_map] at hjl
     rw [List.map_append,List.getElem?_append_left (by simpa using hjl)]
     exact hj
    ·have:=(RdL.ow 9 1 a1 (l' ++ [nm]).length c1 ((l' ++ [nm]).map sE)).none R h H e
     omega
   refine ⟨inI64' _ (by omega) (by omega),fun _=>⟨a1,l'.length,c1,sliceTo undSs hi _ _ _ _ _ (by omega) hle,by omega,fun _=>⟨by omega,fun _=>⟨r1 (by omega),fun _=>⟨nm,loadStr (RdL.ow _ _ _ _ _ _).rd (k:=(l'.length:Int).toNat) hlast,?_⟩⟩⟩⟩⟩
   refine (join03_ok a1 l'.length c1 l' _ rd rfl (fun x hx=>hok x (by simp [hx])) (by omega)).weak (fun _ _ h=>h) ?_
   rintro v R h ⟨rfl,H⟩
   refine ⟨joinP l',rfl,.of fun _ _ _ => ?_,H⟩
   show _=_
   rw [hp]; rfl
theorem joinP_len {l:List Nm} (h : ∀ x ∈ l,nameOk x=true) (h8:l.length ≤ 8):(joinP l).length ≤ 1000:=by
 unfold joinP
 split
 ·simp
 ·have:=joinN_len h
  omega
theorem parent_len {s ab nm:Nm} (h:parentS s=some (ab,nm)):ab.length ≤ 1000 ∧ nm.length ≤ 16:=by
 obtain ⟨l,h1,h2⟩:=parentS_some h
 obtain ⟨h8,hok⟩:=splitP_len h1
 have e:parentS s=some (joinP l,nm):=parentS_app h1
 rw [h] at e
 injection e with e
 injection e with e _
 rw [e]
 rw [List.length_append] at h8
 exact ⟨joinP_len (fun x hx=>hok x (by simp [hx])) (by simp at h8; omega),(nameOk_len (hok nm (by simp))).2⟩
set_option maxHeartbeats 1000000 in
theorem rPlace_ok {b B:Nat} {g:Nat → NodeE} {NS:List Nd} (hB:B ≤ 100000) (wf:TWf B NS) (hg:Rp g NS) (s:Nm) (hs:s.length ≤ 100000):Tri Tryz.prog 139 #[.pointer (some ⟨b,0,none⟩),sE s] (RT b g)
  (fun v=>HP.and (v = .tuple #[.int .i64 (placeS NS s).1,sE (placeS NS s).2.1,.int .i64 (placeS NS s).2.2]) (RT b g)):=by
 refine tri_of_tree (ρ:=[.n b,.p (RT b g),.s s]) mixed Tryz.func139 tree_rPlace ?_
 unfold t_rPlace
 simp only [T.den,E.prop,E.den,RX.look,F1.app,F2.app,Uni.int_i,Uni.nat_n,Uni.bool_c,Uni.str_s,Uni.adr_a,Uni.val_v,Uni.hp_p,hden,cden,V.den,W.den,A.den,BR.den,SA.den,FV.den,capV,exs,exP,allP,Cur.app,List.map_cons,List.map_nil,List.cons_append,List.nil_append,List.drop_succ_cons,List.drop_zero,List.length_cons,List.length_nil,Nat.zero_add,Nat.reduceAdd,Int.neg_neg,Bool.not_not,List.append_nil,Nat.add_zero,List.getElem?_cons_zero,List.getElem?_cons_succ,Decidable.not_not,semW_eq,semW_load,ne_eq,Nat.reduceEqDiff,not_false_eq_true,semW_ix,semW_fld]
 refine (rUp_ok s hs).weak (fun _ _ _=>trivial) ?_
 rintro v R h rfl
 refine ⟨_,_,_,rfl,?_,trivial⟩
 cases e1:parentS s with
 | none =>
  refine ⟨fun _ => .of fun R h H=>⟨?_,H⟩,fun h=>by simp at h⟩
  unfold placeS; rw [e1]; rfl
 | some q =>
  obtain ⟨ab,nm⟩:=q
  obtain ⟨hab,_⟩:=parent_len e1
  simp only [Option.getD_some,Option.isSome_some,if_true]
  refine ⟨fun h=>by simp at h,fun _ => ?_⟩
  have hp:placeS NS s=if (findS NS ab).2 ≠ 0 then (0,[],(findS NS ab).2) else match nodeAt NS (findS NS ab).1 with
    | none=>(0,[],1)
    | some n=>if n.kind ≠ 1 then (0,[],23) else if (lk n.ents nm).isSome=true then (0,[],22) else ((findS NS ab).1,nm,0):=by
   unfold placeS; rw [e1]; rfl
  refine (rFind_ok hB wf hg ab (by omega)).weak (fun _ _ h=>h) ?_
  rintro v R h ⟨rfl,H⟩
  refine ⟨_,_,rfl,⟨fun h => .of fun R h' H=>⟨?_,H⟩,fun h => ?_⟩,H⟩
  ·rw [hp,if_pos h]; rfl
  clear H
  have h0:(findS NS ab).2=0:=by simpa using h
  obtain ⟨n,hn,h64⟩:=find_at wf h0
  have hgn:(g (findS NS ab).1).nd=n:=by rw [hg _ h64,ndF_some hn]
  rw [if_neg (by simpa using h0),hn] at hp
  simp only at hp
  refine ⟨.pointer (some ⟨b,(findS NS ab).1 * 5,none⟩),ixN rfl h64,.pointer (some ⟨b,(findS NS ab).1 * 5 + 1,none⟩),fldN (by omega),_,rtKind h64,fun hk => .of fun R h' H=>⟨?_,H⟩,fun hk => ?_⟩
  ·rw [hgn] at hk
   rw [hp,if_pos hk]; rfl
  rw [hgn] at hk
  rw [if_neg (by simpa using hk)] at hp
  refine (rEntry_ok h64 nm (by rw [hgn]; have:=(wf.at' hn).1.efew; omega)).weak (fun _ _ h=>h) ?_
  rintro v R h' ⟨rfl,H⟩
  rw [hgn]
  cases hl:lk n.ents nm with
  | none =>
   rw [hl] at hp
   refine ⟨_,rfl,⟨fun h=>absurd h (show ¬ (0:Int) ≤ entI none by decide),fun _ => .of fun R h' H=>⟨?_,H⟩⟩,H⟩
   rw [hp]; rfl
  | some j =>
   rw [hl] at hp
   refine ⟨_,rfl,⟨fun _ => .of fun R h' H=>⟨?_,H⟩,fun h=>absurd (show (0:Int) ≤ (j:Int) by omega) h⟩,H⟩
   rw [hp]; rfl
end Go.Proofs.YtdieogcemmnaaaaGreatDoor
